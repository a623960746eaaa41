/-
Plain definitions of functions. No condition.
-/
import Derived.Test.YtkkaabmffppplaaGreatCVi44
namespace Go.Vi
set_option linter.all false
open Int renaming toNat → zB, tdiv → zE, tmod → zI
open List renaming map → zC, replicate → zF, not_mem_nil → zH, mem_cons → zJ
open Nat renaming le_of_ble_eq_true → zD
open And renaming intro → zG
open IntKind renaming wrap → zK
open Bool renaming true → F, false → E
open Option renaming some → O, none → U
open _root_ renaming List → V, Option → W, Int → X, Bool → Y, Nat → Z, UInt8 → zA
def CA(k:IntKind)(x:X)(n:Z):X:=k.wrap (x.fdiv (2 ^ min n k.bits))
theorem my{k:IntKind}{x:X}:CF .shr (.v (.sc (.dat (.int k x)))) (.v (.sc (.dat (.int .u64 8))))=O (.v (.sc (.dat (.int k (CA k x 8))))):=by simp[CF,AU,CA]
theorem wx{k:IntKind}{x:X}:AU .shr k x 8=O (.int k (CA k x 8)):=by simp[AU,CA]
theorem mu{k:IntKind}{x:X}:CF .shr (.v (.sc (.dat (.int k x)))) (.v (.sc (.dat (.int .u64 16))))=O (.v (.sc (.dat (.int k (CA k x 16))))):=by simp[CF,AU,CA]
theorem wu{k:IntKind}{x:X}:AU .shr k x 16=O (.int k (CA k x 16)):=by simp[AU,CA]
theorem mw{k:IntKind}{x:X}:CF .shr (.v (.sc (.dat (.int k x)))) (.v (.sc (.dat (.int .u64 32))))=O (.v (.sc (.dat (.int k (CA k x 32))))):=by simp[CF,AU,CA]
theorem ww{k:IntKind}{x:X}:AU .shr k x 32=O (.int k (CA k x 32)):=by simp[AU,CA]
structure Xd where
 Amp:X
 Period:X
 Phase:X
 deriving DecidableEq
def Xd.row(x:Xd):V D:= [.int .i64 x.Amp,.int .i64 x.Period,.int .i64 x.Phase]
theorem Xd.row_eq(x:Xd):Xd.row x= [.int .i64 x.Amp,.int .i64 x.Period,.int .i64 x.Phase]:=rfl
instance:Row Xd.row 3:=⟨fun _=>rfl,zD rfl⟩
instance:FlatRow Xd.row:=⟨fun x d hd=>by simp only[Xd.row_eq,zJ,zH,or_false] at hd; rcases hd with rfl | rfl | rfl<;>rfl⟩
instance:OfTy (.st [(.int .i64),(.int .i64),(.int .i64)]) Xd.row:=⟨fun ds h=>by
 obtain⟨a0,b0,h0,t0,rfl⟩:=h;obtain⟨a1,b1,h1,t1,rfl⟩:=t0;obtain⟨a2,b2,h2,t2,rfl⟩:=t1;obtain rfl:=t2;obtain⟨x0,rfl⟩:=OfTy.of (row:=rI) _ h0;obtain⟨x1,rfl⟩:=OfTy.of (row:=rI) _ h1;obtain⟨x2,rfl⟩:=OfTy.of (row:=rI) _ h2;exact⟨⟨x0,x1,x2⟩,rfl⟩⟩
structure Xn where
 Mean:X
 Parts:V Xd
 deriving DecidableEq
def Xn.row(x:Xn):V D:= [.int .i64 x.Mean,.sl (zC Xd.row x.Parts)]
theorem Xn.row_eq(x:Xn):Xn.row x= [.int .i64 x.Mean,.sl (zC Xd.row x.Parts)]:=rfl
instance:Row Xn.row 2:=⟨fun _=>rfl,zD rfl⟩
instance:OfTy (.st [(.int .i64),(.sl (.st [(.int .i64),(.int .i64),(.int .i64)]))]) Xn.row:=⟨fun ds h=>by
 obtain⟨a0,b0,h0,t0,rfl⟩:=h;obtain⟨a1,b1,h1,t1,rfl⟩:=t0;obtain rfl:=t1;obtain⟨x0,rfl⟩:=OfTy.of (row:=rI) _ h0;obtain⟨x1,rfl⟩:=OfTy.of (row:=(rL Xd.row)) _ h1;exact⟨⟨x0,x1⟩,rfl⟩⟩
structure Xa where
 From:X
 Low:X
 High:X
 deriving DecidableEq
def Xa.row(x:Xa):V D:= [.int .i64 x.From,.int .i64 x.Low,.int .i64 x.High]
theorem Xa.row_eq(x:Xa):Xa.row x= [.int .i64 x.From,.int .i64 x.Low,.int .i64 x.High]:=rfl
instance:Row Xa.row 3:=⟨fun _=>rfl,zD rfl⟩
instance:FlatRow Xa.row:=⟨fun x d hd=>by simp only[Xa.row_eq,zJ,zH,or_false] at hd; rcases hd with rfl | rfl | rfl<;>rfl⟩
instance:OfTy (.st [(.int .i64),(.int .i64),(.int .i64)]) Xa.row:=⟨fun ds h=>by
 obtain⟨a0,b0,h0,t0,rfl⟩:=h;obtain⟨a1,b1,h1,t1,rfl⟩:=t0;obtain⟨a2,b2,h2,t2,rfl⟩:=t1;obtain rfl:=t2;obtain⟨x0,rfl⟩:=OfTy.of (row:=rI) _ h0;obtain⟨x1,rfl⟩:=OfTy.of (row:=rI) _ h1;obtain⟨x2,rfl⟩:=OfTy.of (row:=rI) _ h2;exact⟨⟨x0,x1,x2⟩,rfl⟩⟩
structure Xe where
 Tide:Xn
 Surges:V Xa
 deriving DecidableEq
def Xe.row(x:Xe):V D:= [.int .i64 x.Tide.Mean,.sl (zC Xd.row x.Tide.Parts),.sl (zC Xa.row x.Surges)]
theorem Xe.row_eq(x:Xe):Xe.row x= [.int .i64 x.Tide.Mean,.sl (zC Xd.row x.Tide.Parts),.sl (zC Xa.row x.Surges)]:=rfl
instance:Row Xe.row 3:=⟨fun _=>rfl,zD rfl⟩
instance:OfTy (.st [(.st [(.int .i64),(.sl (.st [(.int .i64),(.int .i64),(.int .i64)]))]),(.sl (.st [(.int .i64),(.int .i64),(.int .i64)]))]) Xe.row:=⟨fun ds h=>by
 obtain⟨a0,b0,h0,t0,rfl⟩:=h;obtain⟨a1,b1,h1,t1,rfl⟩:=t0;obtain rfl:=t1;obtain⟨x0,rfl⟩:=OfTy.of (row:=Xn.row) _ h0;obtain⟨x1,rfl⟩:=OfTy.of (row:=(rL Xa.row)) _ h1;exact⟨⟨x0,x1⟩,rfl⟩⟩
structure X8 where
 Name:V zA
 Wait:Y
 deriving DecidableEq
def X8.row(x:X8):V D:= [.str x.Name,.bool x.Wait]
theorem X8.row_eq(x:X8):X8.row x= [.str x.Name,.bool x.Wait]:=rfl
instance:Row X8.row 2:=⟨fun _=>rfl,zD rfl⟩
instance:FlatRow X8.row:=⟨fun x d hd=>by simp only[X8.row_eq,zJ,zH,or_false] at hd; rcases hd with rfl | rfl<;>rfl⟩
instance:OfTy (.st [.str,.bool]) X8.row:=⟨fun ds h=>by
 obtain⟨a0,b0,h0,t0,rfl⟩:=h;obtain⟨a1,b1,h1,t1,rfl⟩:=t0;obtain rfl:=t1;obtain⟨x0,rfl⟩:=OfTy.of (row:=rS) _ h0;obtain⟨x1,rfl⟩:=OfTy.of (row:=rB) _ h1;exact⟨⟨x0,x1⟩,rfl⟩⟩
structure X2 where
 A:X
 B:X
 Depth:X
 Minutes:X
 Meet:Y
 deriving DecidableEq
def X2.row(x:X2):V D:= [.int .i64 x.A,.int .i64 x.B,.int .i64 x.Depth,.int .i64 x.Minutes,.bool x.Meet]
theorem X2.row_eq(x:X2):X2.row x= [.int .i64 x.A,.int .i64 x.B,.int .i64 x.Depth,.int .i64 x.Minutes,.bool x.Meet]:=rfl
instance:Row X2.row 5:=⟨fun _=>rfl,zD rfl⟩
instance:FlatRow X2.row:=⟨fun x d hd=>by simp only[X2.row_eq,zJ,zH,or_false] at hd; rcases hd with rfl | rfl | rfl | rfl | rfl<;>rfl⟩
instance:OfTy (.st [(.int .i64),(.int .i64),(.int .i64),(.int .i64),.bool]) X2.row:=⟨fun ds h=>by
 obtain⟨a0,b0,h0,t0,rfl⟩:=h;obtain⟨a1,b1,h1,t1,rfl⟩:=t0;obtain⟨a2,b2,h2,t2,rfl⟩:=t1;obtain⟨a3,b3,h3,t3,rfl⟩:=t2;obtain⟨a4,b4,h4,t4,rfl⟩:=t3;obtain rfl:=t4;obtain⟨x0,rfl⟩:=OfTy.of (row:=rI) _ h0;obtain⟨x1,rfl⟩:=OfTy.of (row:=rI) _ h1;obtain⟨x2,rfl⟩:=OfTy.of (row:=rI) _ h2;obtain⟨x3,rfl⟩:=OfTy.of (row:=rI) _ h3;obtain⟨x4,rfl⟩:=OfTy.of (row:=rB) _ h4;exact⟨⟨x0,x1,x2,x3,x4⟩,rfl⟩⟩
structure X3 where
 Points:V X8
 Segments:V X2
 deriving DecidableEq
def X3.row(x:X3):V D:= [.sl (zC X8.row x.Points),.sl (zC X2.row x.Segments)]
theorem X3.row_eq(x:X3):X3.row x= [.sl (zC X8.row x.Points),.sl (zC X2.row x.Segments)]:=rfl
instance:Row X3.row 2:=⟨fun _=>rfl,zD rfl⟩
instance:OfTy (.st [(.sl (.st [.str,.bool])),(.sl (.st [(.int .i64),(.int .i64),(.int .i64),(.int .i64),.bool]))]) X3.row:=⟨fun ds h=>by
 obtain⟨a0,b0,h0,t0,rfl⟩:=h;obtain⟨a1,b1,h1,t1,rfl⟩:=t0;obtain rfl:=t1;obtain⟨x0,rfl⟩:=OfTy.of (row:=(rL X8.row)) _ h0;obtain⟨x1,rfl⟩:=OfTy.of (row:=(rL X2.row)) _ h1;exact⟨⟨x0,x1⟩,rfl⟩⟩
structure X4 where
 Name:V zA
 Length:X
 Draught:X
 Line:X
 Tugs:X
 Slow:Y
 deriving DecidableEq
def X4.row(x:X4):V D:= [.str x.Name,.int .i64 x.Length,.int .i64 x.Draught,.int .i64 x.Line,.int .i64 x.Tugs,.bool x.Slow]
theorem X4.row_eq(x:X4):X4.row x= [.str x.Name,.int .i64 x.Length,.int .i64 x.Draught,.int .i64 x.Line,.int .i64 x.Tugs,.bool x.Slow]:=rfl
instance:Row X4.row 6:=⟨fun _=>rfl,zD rfl⟩
instance:FlatRow X4.row:=⟨fun x d hd=>by simp only[X4.row_eq,zJ,zH,or_false] at hd; rcases hd with rfl | rfl | rfl | rfl | rfl | rfl<;>rfl⟩
instance:OfTy (.st [.str,(.int .i64),(.int .i64),(.int .i64),(.int .i64),.bool]) X4.row:=⟨fun ds h=>by
 obtain⟨a0,b0,h0,t0,rfl⟩:=h;obtain⟨a1,b1,h1,t1,rfl⟩:=t0;obtain⟨a2,b2,h2,t2,rfl⟩:=t1;obtain⟨a3,b3,h3,t3,rfl⟩:=t2;obtain⟨a4,b4,h4,t4,rfl⟩:=t3;obtain⟨a5,b5,h5,t5,rfl⟩:=t4;obtain rfl:=t5;obtain⟨x0,rfl⟩:=OfTy.of (row:=rS) _ h0;obtain⟨x1,rfl⟩:=OfTy.of (row:=rI) _ h1;obtain⟨x2,rfl⟩:=OfTy.of (row:=rI) _ h2;obtain⟨x3,rfl⟩:=OfTy.of (row:=rI) _ h3;obtain⟨x4,rfl⟩:=OfTy.of (row:=rI) _ h4;obtain⟨x5,rfl⟩:=OfTy.of (row:=rB) _ h5;exact⟨⟨x0,x1,x2,x3,x4,x5⟩,rfl⟩⟩
structure Xj where
 Gap:X
 NoMeet:Y
 deriving DecidableEq
def Xj.row(x:Xj):V D:= [.int .i64 x.Gap,.bool x.NoMeet]
theorem Xj.row_eq(x:Xj):Xj.row x= [.int .i64 x.Gap,.bool x.NoMeet]:=rfl
instance:Row Xj.row 2:=⟨fun _=>rfl,zD rfl⟩
instance:FlatRow Xj.row:=⟨fun x d hd=>by simp only[Xj.row_eq,zJ,zH,or_false] at hd; rcases hd with rfl | rfl<;>rfl⟩
instance:OfTy (.st [(.int .i64),.bool]) Xj.row:=⟨fun ds h=>by
 obtain⟨a0,b0,h0,t0,rfl⟩:=h;obtain⟨a1,b1,h1,t1,rfl⟩:=t0;obtain rfl:=t1;obtain⟨x0,rfl⟩:=OfTy.of (row:=rI) _ h0;obtain⟨x1,rfl⟩:=OfTy.of (row:=rB) _ h1;exact⟨⟨x0,x1⟩,rfl⟩⟩
structure Xo where
 Tugs:X
 Pilots:X
 Rest:X
 Moves:V X
 deriving DecidableEq
def Xo.row(x:Xo):V D:= [.int .i64 x.Tugs,.int .i64 x.Pilots,.int .i64 x.Rest,.sl (zC rI x.Moves)]
theorem Xo.row_eq(x:Xo):Xo.row x= [.int .i64 x.Tugs,.int .i64 x.Pilots,.int .i64 x.Rest,.sl (zC rI x.Moves)]:=rfl
instance:Row Xo.row 4:=⟨fun _=>rfl,zD rfl⟩
instance:OfTy (.st [(.int .i64),(.int .i64),(.int .i64),(.sl (.int .i64))]) Xo.row:=⟨fun ds h=>by
 obtain⟨a0,b0,h0,t0,rfl⟩:=h;obtain⟨a1,b1,h1,t1,rfl⟩:=t0;obtain⟨a2,b2,h2,t2,rfl⟩:=t1;obtain⟨a3,b3,h3,t3,rfl⟩:=t2;obtain rfl:=t3;obtain⟨x0,rfl⟩:=OfTy.of (row:=rI) _ h0;obtain⟨x1,rfl⟩:=OfTy.of (row:=rI) _ h1;obtain⟨x2,rfl⟩:=OfTy.of (row:=rI) _ h2;obtain⟨x3,rfl⟩:=OfTy.of (row:=(rL rI)) _ h3;exact⟨⟨x0,x1,x2,x3⟩,rfl⟩⟩
structure X6 where
 Forecast:Xe
 Chart:X3
 Fleet:V X4
 Regime:Xj
 Crew:Xo
 deriving DecidableEq
def X6.row(x:X6):V D:= [.int .i64 x.Forecast.Tide.Mean,.sl (zC Xd.row x.Forecast.Tide.Parts),.sl (zC Xa.row x.Forecast.Surges),.sl (zC X8.row x.Chart.Points),.sl (zC X2.row x.Chart.Segments),.sl (zC X4.row x.Fleet),.int .i64 x.Regime.Gap,.bool x.Regime.NoMeet,.int .i64 x.Crew.Tugs,.int .i64 x.Crew.Pilots,.int .i64 x.Crew.Rest,.sl (zC rI x.Crew.Moves)]
theorem X6.row_eq(x:X6):X6.row x= [.int .i64 x.Forecast.Tide.Mean,.sl (zC Xd.row x.Forecast.Tide.Parts),.sl (zC Xa.row x.Forecast.Surges),.sl (zC X8.row x.Chart.Points),.sl (zC X2.row x.Chart.Segments),.sl (zC X4.row x.Fleet),.int .i64 x.Regime.Gap,.bool x.Regime.NoMeet,.int .i64 x.Crew.Tugs,.int .i64 x.Crew.Pilots,.int .i64 x.Crew.Rest,.sl (zC rI x.Crew.Moves)]:=rfl
instance:Row X6.row 12:=⟨fun _=>rfl,zD rfl⟩
instance:OfTy (.st [(.st [(.st [(.int .i64),(.sl (.st [(.int .i64),(.int .i64),(.int .i64)]))]),(.sl (.st [(.int .i64),(.int .i64),(.int .i64)]))]),(.st [(.sl (.st [.str,.bool])),(.sl (.st [(.int .i64),(.int .i64),(.int .i64),(.int .i64),.bool]))]),(.sl (.st [.str,(.int .i64),(.int .i64),(.int .i64),(.int .i64),.bool])),(.st [(.int .i64),.bool]),(.st [(.int .i64),(.int .i64),(.int .i64),(.sl (.int .i64))])]) X6.row:=⟨fun ds h=>by
 obtain⟨a0,b0,h0,t0,rfl⟩:=h;obtain⟨a1,b1,h1,t1,rfl⟩:=t0;obtain⟨a2,b2,h2,t2,rfl⟩:=t1;obtain⟨a3,b3,h3,t3,rfl⟩:=t2;obtain⟨a4,b4,h4,t4,rfl⟩:=t3;obtain rfl:=t4;obtain⟨x0,rfl⟩:=OfTy.of (row:=Xe.row) _ h0;obtain⟨x1,rfl⟩:=OfTy.of (row:=X3.row) _ h1;obtain⟨x2,rfl⟩:=OfTy.of (row:=(rL X4.row)) _ h2;obtain⟨x3,rfl⟩:=OfTy.of (row:=Xj.row) _ h3;obtain⟨x4,rfl⟩:=OfTy.of (row:=Xo.row) _ h4;exact⟨⟨x0,x1,x2,x3,x4⟩,rfl⟩⟩
structure Xc where
 Ship:X
 From:X
 To:X
 Ready:X
 Due:X
 deriving DecidableEq
def Xc.row(x:Xc):V D:= [.int .i64 x.Ship,.int .i64 x.From,.int .i64 x.To,.int .i64 x.Ready,.int .i64 x.Due]
theorem Xc.row_eq(x:Xc):Xc.row x= [.int .i64 x.Ship,.int .i64 x.From,.int .i64 x.To,.int .i64 x.Ready,.int .i64 x.Due]:=rfl
instance:Row Xc.row 5:=⟨fun _=>rfl,zD rfl⟩
instance:FlatRow Xc.row:=⟨fun x d hd=>by simp only[Xc.row_eq,zJ,zH,or_false] at hd; rcases hd with rfl | rfl | rfl | rfl | rfl<;>rfl⟩
instance:OfTy (.st [(.int .i64),(.int .i64),(.int .i64),(.int .i64),(.int .i64)]) Xc.row:=⟨fun ds h=>by
 obtain⟨a0,b0,h0,t0,rfl⟩:=h;obtain⟨a1,b1,h1,t1,rfl⟩:=t0;obtain⟨a2,b2,h2,t2,rfl⟩:=t1;obtain⟨a3,b3,h3,t3,rfl⟩:=t2;obtain⟨a4,b4,h4,t4,rfl⟩:=t3;obtain rfl:=t4;obtain⟨x0,rfl⟩:=OfTy.of (row:=rI) _ h0;obtain⟨x1,rfl⟩:=OfTy.of (row:=rI) _ h1;obtain⟨x2,rfl⟩:=OfTy.of (row:=rI) _ h2;obtain⟨x3,rfl⟩:=OfTy.of (row:=rI) _ h3;obtain⟨x4,rfl⟩:=OfTy.of (row:=rI) _ h4;exact⟨⟨x0,x1,x2,x3,x4⟩,rfl⟩⟩
structure X7 where
 Segment:X
 From:X
 To:X
 deriving DecidableEq
def X7.row(x:X7):V D:= [.int .i64 x.Segment,.int .i64 x.From,.int .i64 x.To]
theorem X7.row_eq(x:X7):X7.row x= [.int .i64 x.Segment,.int .i64 x.From,.int .i64 x.To]:=rfl
instance:Row X7.row 3:=⟨fun _=>rfl,zD rfl⟩
instance:FlatRow X7.row:=⟨fun x d hd=>by simp only[X7.row_eq,zJ,zH,or_false] at hd; rcases hd with rfl | rfl | rfl<;>rfl⟩
instance:OfTy (.st [(.int .i64),(.int .i64),(.int .i64)]) X7.row:=⟨fun ds h=>by
 obtain⟨a0,b0,h0,t0,rfl⟩:=h;obtain⟨a1,b1,h1,t1,rfl⟩:=t0;obtain⟨a2,b2,h2,t2,rfl⟩:=t1;obtain rfl:=t2;obtain⟨x0,rfl⟩:=OfTy.of (row:=rI) _ h0;obtain⟨x1,rfl⟩:=OfTy.of (row:=rI) _ h1;obtain⟨x2,rfl⟩:=OfTy.of (row:=rI) _ h2;exact⟨⟨x0,x1,x2⟩,rfl⟩⟩
structure X1 where
 Ship:X
 Segment:X
 Toward:Y
 Start:X
 End:X
 deriving DecidableEq
def X1.row(x:X1):V D:= [.int .i64 x.Ship,.int .i64 x.Segment,.bool x.Toward,.int .i64 x.Start,.int .i64 x.End]
theorem X1.row_eq(x:X1):X1.row x= [.int .i64 x.Ship,.int .i64 x.Segment,.bool x.Toward,.int .i64 x.Start,.int .i64 x.End]:=rfl
instance:Row X1.row 5:=⟨fun _=>rfl,zD rfl⟩
instance:FlatRow X1.row:=⟨fun x d hd=>by simp only[X1.row_eq,zJ,zH,or_false] at hd; rcases hd with rfl | rfl | rfl | rfl | rfl<;>rfl⟩
instance:OfTy (.st [(.int .i64),(.int .i64),.bool,(.int .i64),(.int .i64)]) X1.row:=⟨fun ds h=>by
 obtain⟨a0,b0,h0,t0,rfl⟩:=h;obtain⟨a1,b1,h1,t1,rfl⟩:=t0;obtain⟨a2,b2,h2,t2,rfl⟩:=t1;obtain⟨a3,b3,h3,t3,rfl⟩:=t2;obtain⟨a4,b4,h4,t4,rfl⟩:=t3;obtain rfl:=t4;obtain⟨x0,rfl⟩:=OfTy.of (row:=rI) _ h0;obtain⟨x1,rfl⟩:=OfTy.of (row:=rI) _ h1;obtain⟨x2,rfl⟩:=OfTy.of (row:=rB) _ h2;obtain⟨x3,rfl⟩:=OfTy.of (row:=rI) _ h3;obtain⟨x4,rfl⟩:=OfTy.of (row:=rI) _ h4;exact⟨⟨x0,x1,x2,x3,x4⟩,rfl⟩⟩
structure X0 where
 Start:X
 Arrival:X
 Cost:X
 Passages:V X1
 deriving DecidableEq
def X0.row(x:X0):V D:= [.int .i64 x.Start,.int .i64 x.Arrival,.int .i64 x.Cost,.sl (zC X1.row x.Passages)]
theorem X0.row_eq(x:X0):X0.row x= [.int .i64 x.Start,.int .i64 x.Arrival,.int .i64 x.Cost,.sl (zC X1.row x.Passages)]:=rfl
instance:Row X0.row 4:=⟨fun _=>rfl,zD rfl⟩
instance:OfTy (.st [(.int .i64),(.int .i64),(.int .i64),(.sl (.st [(.int .i64),(.int .i64),.bool,(.int .i64),(.int .i64)]))]) X0.row:=⟨fun ds h=>by
 obtain⟨a0,b0,h0,t0,rfl⟩:=h;obtain⟨a1,b1,h1,t1,rfl⟩:=t0;obtain⟨a2,b2,h2,t2,rfl⟩:=t1;obtain⟨a3,b3,h3,t3,rfl⟩:=t2;obtain rfl:=t3;obtain⟨x0,rfl⟩:=OfTy.of (row:=rI) _ h0;obtain⟨x1,rfl⟩:=OfTy.of (row:=rI) _ h1;obtain⟨x2,rfl⟩:=OfTy.of (row:=rI) _ h2;obtain⟨x3,rfl⟩:=OfTy.of (row:=(rL X1.row)) _ h3;exact⟨⟨x0,x1,x2,x3⟩,rfl⟩⟩
structure X5 where
 From:X
 To:X
 deriving DecidableEq
def X5.row(x:X5):V D:= [.int .i64 x.From,.int .i64 x.To]
theorem X5.row_eq(x:X5):X5.row x= [.int .i64 x.From,.int .i64 x.To]:=rfl
instance:Row X5.row 2:=⟨fun _=>rfl,zD rfl⟩
instance:FlatRow X5.row:=⟨fun x d hd=>by simp only[X5.row_eq,zJ,zH,or_false] at hd; rcases hd with rfl | rfl<;>rfl⟩
instance:OfTy (.st [(.int .i64),(.int .i64)]) X5.row:=⟨fun ds h=>by
 obtain⟨a0,b0,h0,t0,rfl⟩:=h;obtain⟨a1,b1,h1,t1,rfl⟩:=t0;obtain rfl:=t1;obtain⟨x0,rfl⟩:=OfTy.of (row:=rI) _ h0;obtain⟨x1,rfl⟩:=OfTy.of (row:=rI) _ h1;exact⟨⟨x0,x1⟩,rfl⟩⟩
structure Xf where
 h:X6
 lists:V (V X0)
 clash:V (V (V (V Y)))
 rest:V X
 best:V X
 cost:X
 found:Y
 deriving DecidableEq
def Xf.row(x:Xf):V D:= [.int .i64 x.h.Forecast.Tide.Mean,.sl (zC Xd.row x.h.Forecast.Tide.Parts),.sl (zC Xa.row x.h.Forecast.Surges),.sl (zC X8.row x.h.Chart.Points),.sl (zC X2.row x.h.Chart.Segments),.sl (zC X4.row x.h.Fleet),.int .i64 x.h.Regime.Gap,.bool x.h.Regime.NoMeet,.int .i64 x.h.Crew.Tugs,.int .i64 x.h.Crew.Pilots,.int .i64 x.h.Crew.Rest,.sl (zC rI x.h.Crew.Moves),.sl (zC (rL X0.row) x.lists),.sl (zC (rL (rL (rL rB))) x.clash),.sl (zC rI x.rest),.sl (zC rI x.best),.int .i64 x.cost,.bool x.found]
theorem Xf.row_eq(x:Xf):Xf.row x= [.int .i64 x.h.Forecast.Tide.Mean,.sl (zC Xd.row x.h.Forecast.Tide.Parts),.sl (zC Xa.row x.h.Forecast.Surges),.sl (zC X8.row x.h.Chart.Points),.sl (zC X2.row x.h.Chart.Segments),.sl (zC X4.row x.h.Fleet),.int .i64 x.h.Regime.Gap,.bool x.h.Regime.NoMeet,.int .i64 x.h.Crew.Tugs,.int .i64 x.h.Crew.Pilots,.int .i64 x.h.Crew.Rest,.sl (zC rI x.h.Crew.Moves),.sl (zC (rL X0.row) x.lists),.sl (zC (rL (rL (rL rB))) x.clash),.sl (zC rI x.rest),.sl (zC rI x.best),.int .i64 x.cost,.bool x.found]:=rfl
instance:Row Xf.row 18:=⟨fun _=>rfl,zD rfl⟩
instance:OfTy (.st [(.st [(.st [(.st [(.int .i64),(.sl (.st [(.int .i64),(.int .i64),(.int .i64)]))]),(.sl (.st [(.int .i64),(.int .i64),(.int .i64)]))]),(.st [(.sl (.st [.str,.bool])),(.sl (.st [(.int .i64),(.int .i64),(.int .i64),(.int .i64),.bool]))]),(.sl (.st [.str,(.int .i64),(.int .i64),(.int .i64),(.int .i64),.bool])),(.st [(.int .i64),.bool]),(.st [(.int .i64),(.int .i64),(.int .i64),(.sl (.int .i64))])]),(.sl (.sl (.st [(.int .i64),(.int .i64),(.int .i64),(.sl (.st [(.int .i64),(.int .i64),.bool,(.int .i64),(.int .i64)]))]))),(.sl (.sl (.sl (.sl .bool)))),(.sl (.int .i64)),(.sl (.int .i64)),(.int .i64),.bool]) Xf.row:=⟨fun ds h=>by
 obtain⟨a0,b0,h0,t0,rfl⟩:=h;obtain⟨a1,b1,h1,t1,rfl⟩:=t0;obtain⟨a2,b2,h2,t2,rfl⟩:=t1;obtain⟨a3,b3,h3,t3,rfl⟩:=t2;obtain⟨a4,b4,h4,t4,rfl⟩:=t3;obtain⟨a5,b5,h5,t5,rfl⟩:=t4;obtain⟨a6,b6,h6,t6,rfl⟩:=t5;obtain rfl:=t6;obtain⟨x0,rfl⟩:=OfTy.of (row:=X6.row) _ h0;obtain⟨x1,rfl⟩:=OfTy.of (row:=(rL (rL X0.row))) _ h1;obtain⟨x2,rfl⟩:=OfTy.of (row:=(rL (rL (rL (rL rB))))) _ h2;obtain⟨x3,rfl⟩:=OfTy.of (row:=(rL rI)) _ h3;obtain⟨x4,rfl⟩:=OfTy.of (row:=(rL rI)) _ h4;obtain⟨x5,rfl⟩:=OfTy.of (row:=rI) _ h5;obtain⟨x6,rfl⟩:=OfTy.of (row:=rB) _ h6;exact⟨⟨x0,x1,x2,x3,x4,x5,x6⟩,rfl⟩⟩
abbrev BX(x:Xf):V XC:= [.d (.int .i64 x.h.Forecast.Tide.Mean),.d (.sl (zC Xd.row x.h.Forecast.Tide.Parts)),.d (.sl (zC Xa.row x.h.Forecast.Surges)),.d (.sl (zC X8.row x.h.Chart.Points)),.d (.sl (zC X2.row x.h.Chart.Segments)),.d (.sl (zC X4.row x.h.Fleet)),.d (.int .i64 x.h.Regime.Gap),.d (.bool x.h.Regime.NoMeet),.d (.int .i64 x.h.Crew.Tugs),.d (.int .i64 x.h.Crew.Pilots),.d (.int .i64 x.h.Crew.Rest),.d (.sl (zC rI x.h.Crew.Moves)),.d (.sl (zC (rL X0.row) x.lists)),.d (.sl (zC (rL (rL (rL rB))) x.clash)),.d (.sl (zC rI x.rest)),.r 0,.d (.int .i64 x.cost),.d (.bool x.found)]
abbrev BY(x:Xf):Ap:= [(1,zC rI x.best)]
structure Xb where
 From:X
 To:X
 A:X
 B:X
 deriving DecidableEq
def Xb.row(x:Xb):V D:= [.int .i64 x.From,.int .i64 x.To,.int .i64 x.A,.int .i64 x.B]
theorem Xb.row_eq(x:Xb):Xb.row x= [.int .i64 x.From,.int .i64 x.To,.int .i64 x.A,.int .i64 x.B]:=rfl
instance:Row Xb.row 4:=⟨fun _=>rfl,zD rfl⟩
instance:FlatRow Xb.row:=⟨fun x d hd=>by simp only[Xb.row_eq,zJ,zH,or_false] at hd; rcases hd with rfl | rfl | rfl | rfl<;>rfl⟩
instance:OfTy (.st [(.int .i64),(.int .i64),(.int .i64),(.int .i64)]) Xb.row:=⟨fun ds h=>by
 obtain⟨a0,b0,h0,t0,rfl⟩:=h;obtain⟨a1,b1,h1,t1,rfl⟩:=t0;obtain⟨a2,b2,h2,t2,rfl⟩:=t1;obtain⟨a3,b3,h3,t3,rfl⟩:=t2;obtain rfl:=t3;obtain⟨x0,rfl⟩:=OfTy.of (row:=rI) _ h0;obtain⟨x1,rfl⟩:=OfTy.of (row:=rI) _ h1;obtain⟨x2,rfl⟩:=OfTy.of (row:=rI) _ h2;obtain⟨x3,rfl⟩:=OfTy.of (row:=rI) _ h3;exact⟨⟨x0,x1,x2,x3⟩,rfl⟩⟩
structure X9 where
 i0:Y
 i1:Y
 i2:Y
 i3:Y
 i4:Y
 i5:Y
 i6:Y
 i7:Y
 deriving DecidableEq
def X9.row(x:X9):V D:= [.bool x.i0,.bool x.i1,.bool x.i2,.bool x.i3,.bool x.i4,.bool x.i5,.bool x.i6,.bool x.i7]
theorem X9.row_eq(x:X9):X9.row x= [.bool x.i0,.bool x.i1,.bool x.i2,.bool x.i3,.bool x.i4,.bool x.i5,.bool x.i6,.bool x.i7]:=rfl
instance:Row X9.row 8:=⟨fun _=>rfl,zD rfl⟩
def X9.set(x:X9)(n:Z)(v:Y):X9:=⟨bif n==0 then v else x.i0,bif n==1 then v else x.i1,bif n==2 then v else x.i2,bif n==3 then v else x.i3,bif n==4 then v else x.i4,bif n==5 then v else x.i5,bif n==6 then v else x.i6,bif n==7 then v else x.i7⟩
theorem X9.set_eq(x:X9){n:Z}{v:Y}(h:n<8):BQ (zC AC.dat (X9.row x)) n [.dat (.bool v)]=zC AC.dat (X9.row (X9.set x n v)):=by
 match n,h with
 | 0,_=>rfl
 | 1,_=>rfl
 | 2,_=>rfl
 | 3,_=>rfl
 | 4,_=>rfl
 | 5,_=>rfl
 | 6,_=>rfl
 | 7,_=>rfl
instance:FlatRow X9.row:=⟨fun x d hd=>by simp only[X9.row_eq,zJ,zH,or_false] at hd; rcases hd with rfl | rfl | rfl | rfl | rfl | rfl | rfl | rfl<;>rfl⟩
instance:OfTy (.st [.bool,.bool,.bool,.bool,.bool,.bool,.bool,.bool]) X9.row:=⟨fun ds h=>by
 obtain⟨a0,b0,h0,t0,rfl⟩:=h;obtain⟨a1,b1,h1,t1,rfl⟩:=t0;obtain⟨a2,b2,h2,t2,rfl⟩:=t1;obtain⟨a3,b3,h3,t3,rfl⟩:=t2;obtain⟨a4,b4,h4,t4,rfl⟩:=t3;obtain⟨a5,b5,h5,t5,rfl⟩:=t4;obtain⟨a6,b6,h6,t6,rfl⟩:=t5;obtain⟨a7,b7,h7,t7,rfl⟩:=t6;obtain rfl:=t7;obtain⟨x0,rfl⟩:=OfTy.of (row:=rB) _ h0;obtain⟨x1,rfl⟩:=OfTy.of (row:=rB) _ h1;obtain⟨x2,rfl⟩:=OfTy.of (row:=rB) _ h2;obtain⟨x3,rfl⟩:=OfTy.of (row:=rB) _ h3;obtain⟨x4,rfl⟩:=OfTy.of (row:=rB) _ h4;obtain⟨x5,rfl⟩:=OfTy.of (row:=rB) _ h5;obtain⟨x6,rfl⟩:=OfTy.of (row:=rB) _ h6;obtain⟨x7,rfl⟩:=OfTy.of (row:=rB) _ h7;exact⟨⟨x0,x1,x2,x3,x4,x5,x6,x7⟩,rfl⟩⟩
structure Xm where
 waits:V Y
 minutes:V X
 sure:V (V X5)
 deriving DecidableEq
def Xm.row(x:Xm):V D:= [.sl (zC rB x.waits),.sl (zC rI x.minutes),.sl (zC (rL X5.row) x.sure)]
theorem Xm.row_eq(x:Xm):Xm.row x= [.sl (zC rB x.waits),.sl (zC rI x.minutes),.sl (zC (rL X5.row) x.sure)]:=rfl
instance:Row Xm.row 3:=⟨fun _=>rfl,zD rfl⟩
instance:OfTy (.st [(.sl .bool),(.sl (.int .i64)),(.sl (.sl (.st [(.int .i64),(.int .i64)])))]) Xm.row:=⟨fun ds h=>by
 obtain⟨a0,b0,h0,t0,rfl⟩:=h;obtain⟨a1,b1,h1,t1,rfl⟩:=t0;obtain⟨a2,b2,h2,t2,rfl⟩:=t1;obtain rfl:=t2;obtain⟨x0,rfl⟩:=OfTy.of (row:=(rL rB)) _ h0;obtain⟨x1,rfl⟩:=OfTy.of (row:=(rL rI)) _ h1;obtain⟨x2,rfl⟩:=OfTy.of (row:=(rL (rL X5.row))) _ h2;exact⟨⟨x0,x1,x2⟩,rfl⟩⟩
structure Xk where
 i0:X
 i1:X
 deriving DecidableEq
def Xk.row(x:Xk):V D:= [.int .i64 x.i0,.int .i64 x.i1]
theorem Xk.row_eq(x:Xk):Xk.row x= [.int .i64 x.i0,.int .i64 x.i1]:=rfl
instance:Row Xk.row 2:=⟨fun _=>rfl,zD rfl⟩
instance:FlatRow Xk.row:=⟨fun x d hd=>by simp only[Xk.row_eq,zJ,zH,or_false] at hd; rcases hd with rfl | rfl<;>rfl⟩
instance:OfTy (.st [(.int .i64),(.int .i64)]) Xk.row:=⟨fun ds h=>by
 obtain⟨a0,b0,h0,t0,rfl⟩:=h;obtain⟨a1,b1,h1,t1,rfl⟩:=t0;obtain rfl:=t1;obtain⟨x0,rfl⟩:=OfTy.of (row:=rI) _ h0;obtain⟨x1,rfl⟩:=OfTy.of (row:=rI) _ h1;exact⟨⟨x0,x1⟩,rfl⟩⟩
structure Xi where
 h:X6
 choices:V (V X0)
 plan:V X0
 choice:V X
 best:V X
 least:Xk
 found:Y
abbrev Dg(F_w0:FuncId)(caps_w0:V D)(x:Xi):V XC:= [.d (.int .i64 x.h.Forecast.Tide.Mean),.d (.sl (zC Xd.row x.h.Forecast.Tide.Parts)),.d (.sl (zC Xa.row x.h.Forecast.Surges)),.d (.sl (zC X8.row x.h.Chart.Points)),.d (.sl (zC X2.row x.h.Chart.Segments)),.d (.sl (zC X4.row x.h.Fleet)),.d (.int .i64 x.h.Regime.Gap),.d (.bool x.h.Regime.NoMeet),.d (.int .i64 x.h.Crew.Tugs),.d (.int .i64 x.h.Crew.Pilots),.d (.int .i64 x.h.Crew.Rest),.d (.sl (zC rI x.h.Crew.Moves)),.d (.sl (zC (rL X0.row) x.choices)),.d (.clo F_w0 caps_w0),.r 0,.r 1,.r 2,.d (.int .i64 x.least.i0),.d (.int .i64 x.least.i1),.d (.bool x.found)]
abbrev Di(x:Xi):Ap:= [(4,zC X0.row x.plan),(1,zC rI x.choice),(1,zC rI x.best)]
structure Xh where
 sets:V X
 most:X
 groups:V X
 who:V X
 deriving DecidableEq
def Xh.row(x:Xh):V D:= [.sl (zC rU x.sets),.int .i64 x.most,.sl (zC rU x.groups),.sl (zC rI x.who)]
theorem Xh.row_eq(x:Xh):Xh.row x= [.sl (zC rU x.sets),.int .i64 x.most,.sl (zC rU x.groups),.sl (zC rI x.who)]:=rfl
instance:Row Xh.row 4:=⟨fun _=>rfl,zD rfl⟩
instance:OfTy (.st [(.sl (.int .u64)),(.int .i64),(.sl (.int .u64)),(.sl (.int .i64))]) Xh.row:=⟨fun ds h=>by
 obtain⟨a0,b0,h0,t0,rfl⟩:=h;obtain⟨a1,b1,h1,t1,rfl⟩:=t0;obtain⟨a2,b2,h2,t2,rfl⟩:=t1;obtain⟨a3,b3,h3,t3,rfl⟩:=t2;obtain rfl:=t3;obtain⟨x0,rfl⟩:=OfTy.of (row:=(rL rU)) _ h0;obtain⟨x1,rfl⟩:=OfTy.of (row:=rI) _ h1;obtain⟨x2,rfl⟩:=OfTy.of (row:=(rL rU)) _ h2;obtain⟨x3,rfl⟩:=OfTy.of (row:=(rL rI)) _ h3;exact⟨⟨x0,x1,x2,x3⟩,rfl⟩⟩
abbrev CB(x:Xh):V XC:= [.d (.sl (zC rU x.sets)),.d (.int .i64 x.most),.r 0,.r 1]
abbrev CC(x:Xh):Ap:= [(1,zC rU x.groups),(1,zC rI x.who)]
def A2m:=zG @ce (zG @my (zG @wx (zG @mu (zG @wu (zG @mw (zG @ww (zG @Xd.row_eq (zG @Xn.row_eq (zG @Xa.row_eq (zG @Xe.row_eq (zG @X8.row_eq (zG @X2.row_eq (zG @X3.row_eq (zG @X4.row_eq (zG @Xj.row_eq (zG @Xo.row_eq (zG @X6.row_eq (zG @Xc.row_eq (zG @X7.row_eq (zG @X1.row_eq (zG @X0.row_eq (zG @X5.row_eq (zG @Xf.row_eq (zG @Xb.row_eq (zG @X9.row_eq (zG @Xm.row_eq (zG @Xk.row_eq (@Xh.row_eq))))))))))))))))))))))))))))
def J:=zG A2n (zG A2p (zG A2q (zG A2o A2m)))
def O4(a0:V Xd)(a1:X):W X:= if(decide ((zK .i64 (a1 - (a0.length:X)))<(0:X))) then(
 O (-1:X)) else(
 O (zK .i64 (a1 - (a0.length:X))))
def R9(a0:Xn)(a1:X):W X:= (O4 a0.Parts a1).bind fun r1=> if(decide (r1<(0:X))) then(
 O (-1:X)) else(
 O r1)
def Oa(a0:V Xa)(a1:X):W X:= if(decide ((zK .i64 (a1 - (a0.length:X)))<(0:X))) then(
 O (-1:X)) else(
 O (zK .i64 (a1 - (a0.length:X))))
def O2(a0:Xe)(a1:X):W X:= (R9 a0.Tide a1).bind fun r1=> if(decide (r1<(0:X))) then(
 O (-1:X)) else(
 (Oa a0.Surges r1).bind fun r3=>
 if(decide (r3<(0:X))) then(
 O (-1:X))
 else(
 O r3))
def O5(a0:X8)(a1:X):W X:= if(decide ((zK .i64 (a1 - (a0.Name.length:X)))<(0:X))) then(
 O (-1:X)) else(
 O (zK .i64 (a1 - (a0.Name.length:X))))
def H4(a0:V X8):Z→X→X→W X
| 0,_,_=>U
| n+1,v2,v3=>
 if(decide (v3<(a0.length:X))) then(
 (ix a0 v3).bind fun x5=>
 (O5 x5 v2).bind fun r6=>
 if(decide (r6<(0:X))) then(
  O (-1:X))
 else(
  H4 a0 n r6 (zK .i64 (v3+(1:X)))))
 else(
 O v2)
def O6(a0:V X8)(a1:X):W X:= if(decide ((zK .i64 (a1 - (a0.length:X)))<(0:X))) then(
 O (-1:X)) else(
 H4 a0 bigN (zK .i64 (a1 - (a0.length:X))) (0:X))
def O7(a0:V X2)(a1:X):W X:= if(decide ((zK .i64 (a1 - (a0.length:X)))<(0:X))) then(
 O (-1:X)) else(
 O (zK .i64 (a1 - (a0.length:X))))
def O1(a0:X3)(a1:X):W X:= (O6 a0.Points a1).bind fun r1=> if(decide (r1<(0:X))) then(
 O (-1:X)) else(
 (O7 a0.Segments r1).bind fun r3=>
 if(decide (r3<(0:X))) then(
 O (-1:X))
 else(
 O r3))
def O8(a0:X4)(a1:X):W X:= if(decide ((zK .i64 (a1 - (a0.Name.length:X)))<(0:X))) then(
 O (-1:X)) else(
 O (zK .i64 (a1 - (a0.Name.length:X))))
def H5(a0:V X4):Z→X→X→W X
| 0,_,_=>U
| n+1,v2,v3=>
 if(decide (v3<(a0.length:X))) then(
 (ix a0 v3).bind fun x5=>
 (O8 x5 v2).bind fun r6=>
 if(decide (r6<(0:X))) then(
  O (-1:X))
 else(
  H5 a0 n r6 (zK .i64 (v3+(1:X)))))
 else(
 O v2)
def O9(a0:V X4)(a1:X):W X:= if(decide ((zK .i64 (a1 - (a0.length:X)))<(0:X))) then(
 O (-1:X)) else(
 H5 a0 bigN (zK .i64 (a1 - (a0.length:X))) (0:X))
def O3(a0:V X)(a1:X):W X:= if(decide ((zK .i64 (a1 - (a0.length:X)))<(0:X))) then(
 O (-1:X)) else(
 O (zK .i64 (a1 - (a0.length:X))))
def R8(a0:Xo)(a1:X):W X:= (O3 a0.Moves a1).bind fun r1=> if(decide (r1<(0:X))) then(
 O (-1:X)) else(
 O r1)
def J9(a0:X6)(a1:X):W X:= (O2 a0.Forecast a1).bind fun r1=> if(decide (r1<(0:X))) then(
 O (-1:X)) else(
 (O1 a0.Chart r1).bind fun r3=>
 if(decide (r3<(0:X))) then(
 O (-1:X))
 else(
 (O9 a0.Fleet r3).bind fun r5=>
 if(decide (r5<(0:X))) then(
  O (-1:X))
 else(
  (R8 a0.Crew r5).bind fun r7=>
  if(decide (r7<(0:X))) then(
  O (-1:X))
  else(
  O r7))))
def J7(a0:V Xc)(a1:X):W X:= if(decide ((zK .i64 (a1 - (a0.length:X)))<(0:X))) then(
 O (-1:X)) else(
 O (zK .i64 (a1 - (a0.length:X))))
def J8(a0:V X7)(a1:X):W X:= if(decide ((zK .i64 (a1 - (a0.length:X)))<(0:X))) then(
 O (-1:X)) else(
 O (zK .i64 (a1 - (a0.length:X))))
def Rd(a0:Xd):W Xd:= O a0
def Jd(a0:V Xd):Z→X→(V Xd)→W (V Xd)
| 0,_,_=>U
| n+1,v2,v3=>
 if(decide (v2<(a0.length:X))) then(
 (ix a0 v2).bind fun x5=>
 (Rd x5).bind fun r6=>
 (ix v3 v2).bind fun x7=>
 Jd a0 n (zK .i64 (v2+(1:X))) (v3.set (zB v2) r6))
 else(
 O v3)
def Oe(a0:V Xd):W (V Xd):= (BM (a0.length:X) (a0.length:X) 24).bind fun n1=> Jd a0 bigN (0:X) (zF n1 (⟨(0:X),(0:X),(0:X)⟩:Xd))
def Rj(a0:Xn):W Xn:= (Oe a0.Parts).bind fun r1=> O (⟨a0.Mean,r1⟩:Xn)
def Ri(a0:Xa):W Xa:= O a0
def Jh(a0:V Xa):Z→X→(V Xa)→W (V Xa)
| 0,_,_=>U
| n+1,v2,v3=>
 if(decide (v2<(a0.length:X))) then(
 (ix a0 v2).bind fun x5=>
 (Ri x5).bind fun r6=>
 (ix v3 v2).bind fun x7=>
 Jh a0 n (zK .i64 (v2+(1:X))) (v3.set (zB v2) r6))
 else(
 O v3)
def Oi(a0:V Xa):W (V Xa):= (BM (a0.length:X) (a0.length:X) 24).bind fun n1=> Jh a0 bigN (0:X) (zF n1 (⟨(0:X),(0:X),(0:X)⟩:Xa))
def Oc(a0:Xe):W Xe:= (Rj a0.Tide).bind fun r1=> (Oi a0.Surges).bind fun r2=> O (⟨r1,r2⟩:Xe)
def Re(a0:X8):W X8:= O a0
def Je(a0:V X8):Z→X→(V X8)→W (V X8)
| 0,_,_=>U
| n+1,v2,v3=>
 if(decide (v2<(a0.length:X))) then(
 (ix a0 v2).bind fun x5=>
 (Re x5).bind fun r6=>
 (ix v3 v2).bind fun x7=>
 Je a0 n (zK .i64 (v2+(1:X))) (v3.set (zB v2) r6))
 else(
 O v3)
def Of(a0:V X8):W (V X8):= (BM (a0.length:X) (a0.length:X) 24).bind fun n1=> Je a0 bigN (0:X) (zF n1 (⟨([]:V zA),E⟩:X8))
def Rg(a0:X2):W X2:= O a0
def Jf(a0:V X2):Z→X→(V X2)→W (V X2)
| 0,_,_=>U
| n+1,v2,v3=>
 if(decide (v2<(a0.length:X))) then(
 (ix a0 v2).bind fun x5=>
 (Rg x5).bind fun r6=>
 (ix v3 v2).bind fun x7=>
 Jf a0 n (zK .i64 (v2+(1:X))) (v3.set (zB v2) r6))
 else(
 O v3)
def Og(a0:V X2):W (V X2):= (BM (a0.length:X) (a0.length:X) 40).bind fun n1=> Jf a0 bigN (0:X) (zF n1 (⟨(0:X),(0:X),(0:X),(0:X),E⟩:X2))
def Ob(a0:X3):W X3:= (Of a0.Points).bind fun r1=> (Og a0.Segments).bind fun r2=> O (⟨r1,r2⟩:X3)
def Rh(a0:X4):W X4:= O a0
def Jg(a0:V X4):Z→X→(V X4)→W (V X4)
| 0,_,_=>U
| n+1,v2,v3=>
 if(decide (v2<(a0.length:X))) then(
 (ix a0 v2).bind fun x5=>
 (Rh x5).bind fun r6=>
 (ix v3 v2).bind fun x7=>
 Jg a0 n (zK .i64 (v2+(1:X))) (v3.set (zB v2) r6))
 else(
 O v3)
def Oh(a0:V X4):W (V X4):= (BM (a0.length:X) (a0.length:X) 56).bind fun n1=> Jg a0 bigN (0:X) (zF n1 (⟨([]:V zA),(0:X),(0:X),(0:X),(0:X),E⟩:X4))
def Rf(a0:Xj):W Xj:= O a0
def Jc(a0:V X):Z→X→(V X)→W (V X)
| 0,_,_=>U
| n+1,v2,v3=>
 if(decide (v2<(a0.length:X))) then(
 (ix a0 v2).bind fun x5=>
 (ix v3 v2).bind fun x6=>
 Jc a0 n (zK .i64 (v2+(1:X))) (v3.set (zB v2) x5))
 else(
 O v3)
def Od(a0:V X):W (V X):= (BM (a0.length:X) (a0.length:X) 8).bind fun n1=> Jc a0 bigN (0:X) (zF n1 (0:X))
def Rc(a0:Xo):W Xo:= (Od a0.Moves).bind fun r1=> O (⟨a0.Tugs,a0.Pilots,a0.Rest,r1⟩:Xo)
def EO(a0:X6):W X6:= (Oc a0.Forecast).bind fun r1=> (Ob a0.Chart).bind fun r2=> (Oh a0.Fleet).bind fun r3=> (Rf a0.Regime).bind fun r4=> (Rc a0.Crew).bind fun r5=> O (⟨r1,r2,r3,r4,r5⟩:X6)
def Ra(a0:Xc):W Xc:= O a0
def Ja(a0:V Xc):Z→X→(V Xc)→W (V Xc)
| 0,_,_=>U
| n+1,v2,v3=>
 if(decide (v2<(a0.length:X))) then(
 (ix a0 v2).bind fun x5=>
 (Ra x5).bind fun r6=>
 (ix v3 v2).bind fun x7=>
 Ja a0 n (zK .i64 (v2+(1:X))) (v3.set (zB v2) r6))
 else(
 O v3)
def EM(a0:V Xc):W (V Xc):= (BM (a0.length:X) (a0.length:X) 40).bind fun n1=> Ja a0 bigN (0:X) (zF n1 (⟨(0:X),(0:X),(0:X),(0:X),(0:X)⟩:Xc))
def Rb(a0:X7):W X7:= O a0
def Jb(a0:V X7):Z→X→(V X7)→W (V X7)
| 0,_,_=>U
| n+1,v2,v3=>
 if(decide (v2<(a0.length:X))) then(
 (ix a0 v2).bind fun x5=>
 (Rb x5).bind fun r6=>
 (ix v3 v2).bind fun x7=>
 Jb a0 n (zK .i64 (v2+(1:X))) (v3.set (zB v2) r6))
 else(
 O v3)
def EN(a0:V X7):W (V X7):= (BM (a0.length:X) (a0.length:X) 24).bind fun n1=> Jb a0 bigN (0:X) (zF n1 (⟨(0:X),(0:X),(0:X)⟩:X7))
def Az(a0 a1 a2:X):W Y:= if(decide (a1≤a0)) then(
 O (decide (a0≤a2))) else(
 O E)
def OH(a0:Xd):W Y:= (Az a0.Amp (0:X) (1000:X)).bind fun r1=> if r1 then(
 (Az a0.Period (4:X) (2880:X)).bind fun r3=>
 if r3 then(
 if((zK .i64 (zI a0.Period (4:X)))==(0:X)) then(
  (Az a0.Phase (0:X) (zK .i64 (a0.Period - (1:X)))).bind fun r6=>
  O r6)
 else(
  O E))
 else(
 O E)) else(
 O E)
def JI(a0:Xn):Z→X→W Y
| 0,_=>U
| n+1,v4=>
 if(decide (v4<(a0.Parts.length:X))) then(
 (ix a0.Parts v4).bind fun x6=>
 (OH x6).bind fun r7=>
 if r7 then(
  JI a0 n (zK .i64 (v4+(1:X))))
 else(
  O E))
 else(
 O F)
def OR(a0:Xn):W Y:= (Az a0.Mean (-1000:X) (1000:X)).bind fun r1=> if r1 then(
 if(decide ((4:X)<(a0.Parts.length:X))) then(
 O E)
 else(
 JI a0 bigN (0:X))) else(
 O E)
def OQ(a0:Xa):W Y:= (Az a0.From (0:X) (2880:X)).bind fun r1=> if r1 then(
 (Az a0.Low (-500:X) (500:X)).bind fun r3=>
 if r3 then(
 (Az a0.High a0.Low (500:X)).bind fun r5=>
 O r5)
 else(
 O E)) else(
 O E)
def H8(a0:Xe):Z→X→W Y
| 0,_=>U
| n+1,v7=>
 if(decide (v7<(a0.Surges.length:X))) then(
 (ix a0.Surges v7).bind fun x9=>
 (OQ x9).bind fun r10=>
 if r10 then(
  if(decide ((0:X)<v7)) then(
  (ix a0.Surges (zK .i64 (v7 - (1:X)))).bind fun x13=>
  if(decide (x9.From≤x13.From)) then(
   O E)
  else(
   H8 a0 n (zK .i64 (v7+(1:X)))))
  else(
  H8 a0 n (zK .i64 (v7+(1:X)))))
 else(
  O E))
 else(
 O F)
def LD(a0:Xe):W Y:= (OR a0.Tide).bind fun r1=> if r1 then(
 (Az (a0.Surges.length:X) (1:X) (6:X)).bind fun r3=>
 if r3 then(
 (ix a0.Surges (0:X)).bind fun x5=>
 if(x5.From !=(0:X)) then(
  O E)
 else(
  H8 a0 bigN (0:X)))
 else(
 O E)) else(
 O E)
def OC(a0:V zA)(v1:X)(F0:X→W Y):W Y:= F0 (zK .i64 (v1+(1:X)))
def OB(a0:V zA)(v1:X)(F0:X→W Y)(v5:Y):W Y:= if v5 then(
 OC a0 v1 F0) else(
 if(v1==(0:X)) then(
 O E)
 else(
 (ix a0 v1).bind fun b8=>
 if(decide ((b8.toNat:X)<(48:X))) then(
  O E)
 else(
  if(decide ((57:X)<(b8.toNat:X))) then(
  O E)
  else(
  OC a0 v1 F0))))
def Hb(a0:V zA):Z→X→W Y
| 0,_=>U
| n+1,v1=>
 if(decide (v1<(a0.length:X))) then(
 (ix a0 v1).bind fun b3=>
 if(decide ((97:X)≤(b3.toNat:X))) then(
  OB a0 v1 (Hb a0 n) (decide ((b3.toNat:X)≤(122:X))))
 else(
  OB a0 v1 (Hb a0 n) E))
 else(
 (Az (a0.length:X) (1:X) (8:X)).bind fun r11=>
 O r11)
def LH(a0:V zA):W Y:= Hb a0 bigN (0:X)
def JD(a1:V zA)(a0:X3):Z→X→W X
| 0,_=>U
| n+1,v1=>
 if(decide (v1<(a0.Points.length:X))) then(
 (ix a0.Points v1).bind fun x3=>
 if(x3.Name==a1) then(
  O v1)
 else(
  JD a1 a0 n (zK .i64 (v1+(1:X)))))
 else(
 O (-1:X))
def OM(a0:X3)(a1:V zA):W X:= JD a1 a0 bigN (0:X)
def OZ(a0:X2)(a1 a2:X):W Y:= if(a0.A==a1) then(
 if(a0.B==a2) then(
 O F)
 else(
 if(a0.A==a2) then(
  O (a0.B==a1))
 else(
  O E))) else(
 if(a0.A==a2) then(
 O (a0.B==a1))
 else(
 O E))
def Jo(a0:X3)(v11:X)(x13:X2)(y24:V X2)(y25:X)(PC:X→W Y):Z→X→W Y
| 0,_=>U
| n+1,v26=>
 if(decide (v26<y25)) then(
 (ix y24 v26).bind fun x28=>
 (OZ x28 x13.A x13.B).bind fun r29=>
 if r29 then(
  O E)
 else(
  Jo a0 v11 x13 y24 y25 PC n (zK .i64 (v26+(1:X)))))
 else(
 PC (zK .i64 (v11+(1:X))))
def EP(a0:X3):Z→X→W Y
| 0,_=>U
| n+1,v11=>
 if(decide (v11<(a0.Segments.length:X))) then(
 (ix a0.Segments v11).bind fun x13=>
 (Az x13.A (0:X) (zK .i64 ((a0.Points.length:X) - (1:X)))).bind fun r14=>
 if r14 then(
  (Az x13.B (0:X) (zK .i64 ((a0.Points.length:X) - (1:X)))).bind fun r16=>
  if r16 then(
  if(x13.A==x13.B) then(
   O E)
  else(
   (Az x13.Depth (0:X) (3000:X)).bind fun r19=>
   if r19 then(
   (Az x13.Minutes (1:X) (240:X)).bind fun r21=>
   if r21 then(
    (bnd (a0.Segments.length:X) v11 (0:X) a0.Segments.length).bind fun p23=>
    Jo a0 v11 x13 ((a0.Segments.drop p23.1).take (p23.2 - p23.1)) (((a0.Segments.drop p23.1).take (p23.2 - p23.1)).length:X) (EP a0 n) bigN (0:X))
   else(
    O E))
   else(
   O E)))
  else(
  O E))
 else(
  O E))
 else(
 O F)
def Jn(a0:X3):Z→X→W Y
| 0,_=>U
| n+1,v3=>
 if(decide (v3<(a0.Points.length:X))) then(
 (ix a0.Points v3).bind fun x5=>
 (LH x5.Name).bind fun r6=>
 if r6 then(
  (OM a0 x5.Name).bind fun r9=>
  if(r9 !=v3) then(
  O E)
  else(
  Jn a0 n (zK .i64 (v3+(1:X)))))
 else(
  O E))
 else(
 EP a0 bigN (0:X))
def D8(a0:X3):W Y:= if(decide ((8:X)<(a0.Points.length:X))) then(
 O E) else(
 if(decide ((10:X)<(a0.Segments.length:X))) then(
 O E)
 else(
 Jn a0 bigN (0:X)))
def Eh(a0:X4):W Y:= (LH a0.Name).bind fun r1=> if r1 then(
 (Az a0.Length (10:X) (400:X)).bind fun r3=>
 if r3 then(
 (Az a0.Draught (100:X) (2000:X)).bind fun r5=>
 if r5 then(
  (Az a0.Line (0:X) (3:X)).bind fun r7=>
  if r7 then(
  (Az a0.Tugs (0:X) (4:X)).bind fun r9=>
  O r9)
  else(
  O E))
 else(
  O E))
 else(
 O E)) else(
 O E)
def JG(a1:V zA)(a0:V X4):Z→X→W X
| 0,_=>U
| n+1,v1=>
 if(decide (v1<(a0.length:X))) then(
 (ix a0 v1).bind fun x3=>
 if(x3.Name==a1) then(
  O v1)
 else(
  JG a1 a0 n (zK .i64 (v1+(1:X)))))
 else(
 O (-1:X))
def OO(a0:V X4)(a1:V zA):W X:= JG a1 a0 bigN (0:X)
def Jv(a0:V X4):Z→X→W Y
| 0,_=>U
| n+1,v2=>
 if(decide (v2<(a0.length:X))) then(
 (ix a0 v2).bind fun x4=>
 (Eh x4).bind fun r5=>
 if r5 then(
  (OO a0 x4.Name).bind fun r7=>
  if(r7 !=v2) then(
  O E)
  else(
  Jv a0 n (zK .i64 (v2+(1:X)))))
 else(
  O E))
 else(
 O F)
def LC(a0:V X4):W Y:= if(decide ((6:X)<(a0.length:X))) then(
 O E) else(
 Jv a0 bigN (0:X))
def JE(a0:Xj):W Y:= (Az a0.Gap (0:X) (60:X)).bind fun r1=> O r1
def Hr(a1:V X):Z→X→W Y
| 0,_=>U
| n+1,v4=>
 if(decide (v4<(a1.length:X))) then(
 (ix a1 v4).bind fun x6=>
 (Az x6 (0:X) (240:X)).bind fun r7=>
 if r7 then(
  Hr a1 n (zK .i64 (v4+(1:X))))
 else(
  O E))
 else(
 O F)
def Hq(a0:X)(a1:V X):W Y:= (Az a0 (0:X) (2880:X)).bind fun r1=> if r1 then(
 if((a1.length:X) !=(64:X)) then(
 O E)
 else(
 Hr a1 bigN (0:X))) else(
 O E)
def Js(a0:Xo):W Y:= (Az a0.Tugs (0:X) (12:X)).bind fun r1=> if r1 then(
 (Az a0.Pilots (0:X) (12:X)).bind fun r3=>
 if r3 then(
 (Hq a0.Rest a0.Moves).bind fun r5=>
 O r5)
 else(
 O E)) else(
 O E)
def LG(a0:X6):W Y:= (LD a0.Forecast).bind fun r1=> if r1 then(
 (D8 a0.Chart).bind fun r3=>
 if r3 then(
 (LC a0.Fleet).bind fun r5=>
 if r5 then(
  (JE a0.Regime).bind fun r7=>
  if r7 then(
  (Js a0.Crew).bind fun r9=>
  O r9)
  else(
  O E))
 else(
  O E))
 else(
 O E)) else(
 O E)
def Jl(a0:X6)(a1:Xc):W Y:= (LG a0).bind fun r1=> if r1 then(
 (Az a1.Ship (0:X) (zK .i64 ((a0.Fleet.length:X) - (1:X)))).bind fun r3=>
 if r3 then(
 (Az a1.From (0:X) (zK .i64 ((a0.Chart.Points.length:X) - (1:X)))).bind fun r5=>
 if r5 then(
  (Az a1.To (0:X) (zK .i64 ((a0.Chart.Points.length:X) - (1:X)))).bind fun r7=>
  if r7 then(
  if(a1.From !=a1.To) then(
   (Az a1.Ready (0:X) (2880:X)).bind fun r10=>
   if r10 then(
   (Az a1.Due a1.Ready (2880:X)).bind fun r12=>
   O r12)
   else(
   O E))
  else(
   O E))
  else(
  O E))
 else(
  O E))
 else(
 O E)) else(
 O E)
def Lx(a1:V Xc)(v4:X)(a0:X6)(x6:Xc)(y10:V Xc)(y11:X)(PB:X→W Y):Z→X→W Y
| 0,_=>U
| n+1,v12=>
 if(decide (v12<y11)) then(
 (ix y10 v12).bind fun x14=>
 if(x6.Ship==x14.Ship) then(
  O E)
 else(
  Lx a1 v4 a0 x6 y10 y11 PB n (zK .i64 (v12+(1:X)))))
 else(
 PB (zK .i64 (v4+(1:X))))
def Lw(a1:V Xc)(a0:X6):Z→X→W Y
| 0,_=>U
| n+1,v4=>
 if(decide (v4<(a1.length:X))) then(
 (ix a1 v4).bind fun x6=>
 (Jl a0 x6).bind fun r7=>
 if r7 then(
  (bnd (a1.length:X) v4 (0:X) a1.length).bind fun p9=>
  Lx a1 v4 a0 x6 ((a1.drop p9.1).take (p9.2 - p9.1)) (((a1.drop p9.1).take (p9.2 - p9.1)).length:X) (Lw a1 a0 n) bigN (0:X))
 else(
  O E))
 else(
 O F)
def Oq(a0:X6)(a1:V Xc):W Y:= (LG a0).bind fun r1=> if r1 then(
 if(decide ((6:X)<(a1.length:X))) then(
 O E)
 else(
 Lw a1 a0 bigN (0:X))) else(
 O E)
def Jr(a1:V X7)(a0:X3):Z→X→W Y
| 0,_=>U
| n+1,v4=>
 if(decide (v4<(a1.length:X))) then(
 (ix a1 v4).bind fun x6=>
 (Az x6.Segment (0:X) (zK .i64 ((a0.Segments.length:X) - (1:X)))).bind fun r7=>
 if r7 then(
  (Az x6.From (0:X) (2880:X)).bind fun r9=>
  if r9 then(
  if(decide (x6.To≤x6.From)) then(
   O E)
  else(
   if(decide ((2880:X)<x6.To)) then(
   O E)
   else(
   Jr a1 a0 n (zK .i64 (v4+(1:X))))))
  else(
  O E))
 else(
  O E))
 else(
 O F)
def LA(a0:X3)(a1:V X7):W Y:= (D8 a0).bind fun r1=> if r1 then(
 if(decide ((4:X)<(a1.length:X))) then(
 O E)
 else(
 Jr a1 a0 bigN (0:X))) else(
 O E)
def P0(a0:X2)(a1:X):W X:= if(a1==a0.A) then(
 O a0.B) else(
 if(a1==a0.B) then(
 O a0.A)
 else(
 O (-1:X)))
def JM(a1:X)(a0:V X):Z→X→W Y
| 0,_=>U
| n+1,v1=>
 if(decide (v1<(a0.length:X))) then(
 (ix a0 v1).bind fun x3=>
 if(x3==a1) then(
  O F)
 else(
  JM a1 a0 n (zK .i64 (v1+(1:X)))))
 else(
 O E)
def LO(a0:V X)(a1:X):W Y:= JM a1 a0 bigN (0:X)
def JN(rec_:X3→(V X)→(V X)→X→(V (V X))→W (V (V X)))(a1 a2:V X)(a3 x1:X)(v5 r9:X)(a0:X3)(v6:V (V X))(PG:X→(V (V X))→W (V (V X)))(v12:Y):W (V (V X)):= if v12 then(
 if Ad ([]:V X).length a1.length 8 then(
 if Ad a1.length ([r9]:V X).length 8 then(
  if Ad ([]:V X).length a2.length 8 then(
  if Ad a2.length ([v5]:V X).length 8 then(
   (rec_ a0 (a1++([r9]:V X)) (a2++([v5]:V X)) a3 v6).bind fun r18=>
   PG (zK .i64 (v5+(1:X))) r18)
  else U)
  else U)
 else U)
 else U) else(
 PG (zK .i64 (v5+(1:X))) v6)
def Hh(rec_:X3→(V X)→(V X)→X→(V (V X))→W (V (V X)))(a1 a2:V X)(a3 x1:X)(a0:X3):Z→X→(V (V X))→W (V (V X))
| 0,_,_=>U
| n+1,v5,v6=>
 if(decide (v5<(a0.Segments.length:X))) then(
 (ix a0.Segments v5).bind fun x8=>
 (P0 x8 x1).bind fun r9=>
 if(decide ((0:X)≤r9)) then(
  (LO a1 r9).bind fun r11=>
  JN rec_ a1 a2 a3 x1 v5 r9 a0 v6 (Hh rec_ a1 a2 a3 x1 a0 n) (!r11))
 else(
  JN rec_ a1 a2 a3 x1 v5 r9 a0 v6 (Hh rec_ a1 a2 a3 x1 a0 n) E))
 else(
 O v6)
def Ry(rec_:X3→(V X)→(V X)→X→(V (V X))→W (V (V X)))(a0:X3)(a1 a2:V X)(a3:X)(a4:V (V X)):W (V (V X)):= (ix a1 (zK .i64 ((a1.length:X) - (1:X)))).bind fun x1=> if(x1==a3) then(
 if Ad ([]:V X).length a2.length 8 then(
 if Ad a4.length ([a2]:V (V X)).length 24 then(
  O (a4++([a2]:V (V X))))
 else U)
 else U) else(
 Hh rec_ a1 a2 a3 x1 a0 bigN (0:X) a4)
def Hj:Z→X3→(V X)→(V X)→X→(V (V X))→W (V (V X))
| 0,_,_,_,_,_=>U
| n+1,a0,a1,a2,a3,a4=>Ry (Hj n) a0 a1 a2 a3 a4
def TX(a0:X3)(a1 a2:V X)(a3:X)(a4:V (V X)):W (V (V X)):=Hj bigN a0 a1 a2 a3 a4
def ON(a0:X3)(a1 a2:X):W (V (V X)):= (D8 a0).bind fun r1=> if r1 then(
 (Az a1 (0:X) (zK .i64 ((a0.Points.length:X) - (1:X)))).bind fun r3=>
 if r3 then(
 (Az a2 (0:X) (zK .i64 ((a0.Points.length:X) - (1:X)))).bind fun r5=>
 if r5 then(
  (TX a0 ([a1]:V X) ([]:V X) a2 ([]:V (V X))).bind fun r7=>
  O r7)
 else(
  O ([]:V (V X))))
 else(
 O ([]:V (V X)))) else(
 O ([]:V (V X)))
def JF(a1:V X)(a0:X3):Z→X→X→W X
| 0,_,_=>U
| n+1,v3,v4=>
 if(decide (v4<(a1.length:X))) then(
 (ix a1 v4).bind fun x6=>
 (Az x6 (0:X) (zK .i64 ((a0.Segments.length:X) - (1:X)))).bind fun r7=>
 if r7 then(
  (ix a0.Segments x6).bind fun x9=>
  JF a1 a0 n (zK .i64 (v3+x9.Minutes)) (zK .i64 (v4+(1:X))))
 else(
  O (-1:X)))
 else(
 O v3)
def Hd(a0:X3)(a1:V X):W X:= (D8 a0).bind fun r1=> if r1 then(
 JF a1 a0 bigN (0:X) (0:X)) else(
 O (-1:X))
def Lv(v2 x6:V X)(r1:(V (V X)))(v4:X)(a0:X3)(PA:(V X)→Y→X→W ((V X) × Y))(v11 v12:Y):W ((V X) × Y):= if v12 then(
 PA x6 F (zK .i64 (v4+(1:X)))) else(
 PA v2 v11 (zK .i64 (v4+(1:X))))
def FU(r1:(V (V X)))(a0:X3):Z→(V X)→Y→X→W ((V X) × Y)
| 0,_,_,_=>U
| n+1,v2,v3,v4=>
 if(decide (v4<(r1.length:X))) then(
 (ix r1 v4).bind fun x6=>
 if v3 then(
  (Hd a0 x6).bind fun r9=>
  (Hd a0 v2).bind fun r10=>
  Lv v2 x6 r1 v4 a0 (FU r1 a0 n) F (decide (r9<r10)))
 else(
  Lv v2 x6 r1 v4 a0 (FU r1 a0 n) E F))
 else(
 if v3 then(
  O (v2,F))
 else(
  O (([]:V X),E)))
def Oo(a0:X3)(a1 a2:X):W ((V X) × Y):= (ON a0 a1 a2).bind fun r1=> FU r1 a0 bigN ([]:V X) E (0:X)
def JO(a0:X3)(a1:X)(a2:X4):W Y:= (D8 a0).bind fun r1=> if r1 then(
 (Eh a2).bind fun r3=>
 if r3 then(
 (Az a1 (0:X) (zK .i64 ((a0.Segments.length:X) - (1:X)))).bind fun r5=>
 O r5)
 else(
 O E)) else(
 O E)
def Rx(a0:X4):W X:= (Eh a0).bind fun r1=> if r1 then(
 if a0.Slow then(
 O (zK .i64 (zE a0.Draught (50:X))))
 else(
 O (zK .i64 (zE a0.Draught (20:X))))) else(
 O (0:X))
def Ru(a0:X4):W X:= (Eh a0).bind fun r1=> if r1 then(
 (Rx a0).bind fun r3=>
 O (zK .i64 ((zK .i64 (a0.Draught+r3))+(50:X)))) else(
 O (0:X))
def OE(a0:X3)(a1:X)(a2:X4):W X:= (JO a0 a1 a2).bind fun r1=> if r1 then(
 (Ru a2).bind fun r3=>
 (ix a0.Segments a1).bind fun x4=>
 O (zK .i64 (r3 - x4.Depth))) else(
 O (0:X))
def G2(a1:X)(a0:Xe):Z→X→X→X→X→W Xa
| 0,_,_,_,_=>U
| n+1,v2,v3,v4,v5=>
 if(decide (v2<(a0.Surges.length:X))) then(
 (ix a0.Surges v2).bind fun x7=>
 if(decide (x7.From≤a1)) then(
  G2 a1 a0 n (zK .i64 (v2+(1:X))) x7.From x7.Low x7.High)
 else(
  G2 a1 a0 n (zK .i64 (v2+(1:X))) v3 v4 v5))
 else(
 O (⟨v3,v4,v5⟩:Xa))
def JK(a0:Xe)(a1:X):W Xa:= (ix a0.Surges (0:X)).bind fun x1=> G2 a1 a0 bigN (0:X) x1.From x1.Low x1.High
def OT(a1 v6:X):W X:= if(decide (v6<(zK .i64 (zE a1 (2:X))))) then(
 if(zK .i64 ((zK .i64 (zE a1 (2:X)))*(zK .i64 (zE a1 (2:X)))))==0 then U else
 O (zK .i64 (zE (zK .i64 ((zK .i64 ((40000:X)*v6))*(zK .i64 ((zK .i64 (zE a1 (2:X))) - v6)))) (zK .i64 ((zK .i64 (zE a1 (2:X)))*(zK .i64 (zE a1 (2:X)))))))) else(
 if(zK .i64 ((zK .i64 (zE a1 (2:X)))*(zK .i64 (zE a1 (2:X)))))==0 then U else
 O (zK .i64 (0 - (zK .i64 (zE (zK .i64 ((zK .i64 ((40000:X)*(zK .i64 (v6 - (zK .i64 (zE a1 (2:X)))))))*(zK .i64 ((zK .i64 (zE a1 (2:X))) - (zK .i64 (v6 - (zK .i64 (zE a1 (2:X))))))))) (zK .i64 ((zK .i64 (zE a1 (2:X)))*(zK .i64 (zE a1 (2:X))))))))))
def OS(a0 a1:X):W X:= if(decide (a1<(4:X))) then(
 O (0:X)) else(
 if(decide ((2880:X)<a1)) then(
 O (0:X))
 else(
 if((zK .i64 (zI a1 (4:X))) !=(0:X)) then(
  O (0:X))
 else(
  if a1==0 then U else
  if(decide ((zK .i64 (zI a0 a1))<(0:X))) then(
  OT a1 (zK .i64 ((zK .i64 (zI a0 a1))+a1)))
  else(
  OT a1 (zK .i64 (zI a0 a1))))))
def JJ(a1:X)(a0:Xn):Z→X→X→W X
| 0,_,_=>U
| n+1,v1,v2=>
 if(decide (v2<(a0.Parts.length:X))) then(
 (ix a0.Parts v2).bind fun x4=>
 (OS (zK .i64 (a1+x4.Phase)) x4.Period).bind fun r5=>
 JJ a1 a0 n (zK .i64 (v1+(zK .i64 (zE (zK .i64 (x4.Amp*r5)) (10000:X))))) (zK .i64 (v2+(1:X))))
 else(
 O v1)
def LN(a0:Xn)(a1:X):W X:= JJ a1 a0 bigN a0.Mean (0:X)
def JL(v1:X)(a0:V Y)(v2:V X5)(PF:X→(V X5)→W (V X5))(v8:Y):W (V X5):= if v8 then(
 (ix v2 (zK .i64 ((v2.length:X) - (1:X)))).bind fun x10=>
 PF (zK .i64 (v1+(1:X))) (v2.set (zB (zK .i64 ((v2.length:X) - (1:X)))) (⟨x10.From,v1⟩:X5))) else(
 if Ad v2.length ([(⟨v1,v1⟩:X5)]:V X5).length 16 then(
 PF (zK .i64 (v1+(1:X))) (v2++([(⟨v1,v1⟩:X5)]:V X5)))
 else U)
def ER(a0:V Y):Z→X→(V X5)→W (V X5)
| 0,_,_=>U
| n+1,v1,v2=>
 if(decide (v1<(a0.length:X))) then(
 (ix a0 v1).bind fun x4=>
 if x4 then(
  if(decide ((0:X)<(v2.length:X))) then(
  (ix v2 (zK .i64 ((v2.length:X) - (1:X)))).bind fun x7=>
  JL v1 a0 v2 (ER a0 n) (x7.To==(zK .i64 (v1 - (1:X)))))
  else(
  JL v1 a0 v2 (ER a0 n) E))
 else(
  ER a0 n (zK .i64 (v1+(1:X))) v2))
 else(
 O v2)
def OW(a0:V Y):W (V X5):= ER a0 bigN (0:X) ([]:V X5)
def OV(a1 v2:X)(a0:Xe)(v3:V Y)(Sj:Y→X→(V Y)→W (V X5))(v7:Y)(v8:X):W (V X5):= (LN a0.Tide v2).bind fun r9=> if Ad v3.length ([(decide (a1≤(zK .i64 (r9+v8))))]:V Y).length 1 then(
 Sj v7 (zK .i64 (v2+(1:X))) (v3++([(decide (a1≤(zK .i64 (r9+v8))))]:V Y))) else U
def He(a1:X)(a0:Xe):Z→Y→X→(V Y)→W (V X5)
| 0,_,_,_=>U
| n+1,v1,v2,v3=>
 if(decide (v2≤(2880:X))) then(
 (JK a0 v2).bind fun r5=>
 if v1 then(
  OV a1 v2 a0 v3 (He a1 a0 n) F r5.High)
 else(
  OV a1 v2 a0 v3 (He a1 a0 n) E r5.Low))
 else(
 (OW v3).bind fun r11=>
 O r11)
def OU(a0:Xe)(a1:X)(a2:Y):W (V X5):= He a1 a0 bigN a2 (0:X) ([]:V Y)
def G3(a0:X2)(a1:X4):W X:= if a1.Slow then(
 O (zK .i64 ((2:X)*a0.Minutes))) else(
 O a0.Minutes)
def LI(a0:X3)(a1:X)(a2:X4):W X:= (D8 a0).bind fun r1=> if r1 then(
 (Eh a2).bind fun r3=>
 if r3 then(
 (Az a1 (0:X) (zK .i64 ((a0.Segments.length:X) - (1:X)))).bind fun r5=>
 if r5 then(
  (ix a0.Segments a1).bind fun x7=>
  (G3 x7 a2).bind fun r9=>
  O r9)
 else(
  O (0:X)))
 else(
 O (0:X))) else(
 O (0:X))
def G1(a0:V X5):Z→X→W Y
| 0,_=>U
| n+1,v1=>
 if(decide (v1<(a0.length:X))) then(
 (ix a0 v1).bind fun x3=>
 (Az x3.From (0:X) (2880:X)).bind fun r4=>
 if r4 then(
  (Az x3.To x3.From (2880:X)).bind fun r6=>
  if r6 then(
  if(decide ((0:X)<v1)) then(
   (ix a0 (zK .i64 (v1 - (1:X)))).bind fun x9=>
   if(decide (x3.From≤(zK .i64 (x9.To+(1:X))))) then(
   O E)
   else(
   G1 a0 n (zK .i64 (v1+(1:X)))))
  else(
   G1 a0 n (zK .i64 (v1+(1:X)))))
  else(
  O E))
 else(
  O E))
 else(
 O F)
def LM(a0:V X5):W Y:= G1 a0 bigN (0:X)
def G0(a1:X)(a0:V X5):Z→X→(V X5)→W (V X5)
| 0,_,_=>U
| n+1,v5,v6=>
 if(decide (v5<(a0.length:X))) then(
 (ix a0 v5).bind fun x8=>
 if(decide (a1≤(zK .i64 (x8.To - x8.From)))) then(
  if Ad v6.length ([(⟨x8.From,(zK .i64 (x8.To - a1))⟩:X5)]:V X5).length 16 then(
  G0 a1 a0 n (zK .i64 (v5+(1:X))) (v6++([(⟨x8.From,(zK .i64 (x8.To - a1))⟩:X5)]:V X5)))
  else U)
 else(
  G0 a1 a0 n (zK .i64 (v5+(1:X))) v6))
 else(
 O v6)
def Rv(a0:V X5)(a1:X):W (V X5):= (LM a0).bind fun r1=> if r1 then(
 (Az a1 (0:X) (2880:X)).bind fun r3=>
 if r3 then(
 G0 a1 a0 bigN (0:X) ([]:V X5))
 else(
 O ([]:V X5))) else(
 O ([]:V X5))
def Rz(a0:Xe)(a1:X3)(a2:X)(a3:X4)(a4:Y):W (V X5):= (LD a0).bind fun r1=> if r1 then(
 (JO a1 a2 a3).bind fun r3=>
 if r3 then(
 (OE a1 a2 a3).bind fun r5=>
 (OU a0 r5 a4).bind fun r6=>
 (LI a1 a2 a3).bind fun r7=>
 (Rv r6 r7).bind fun r9=>
 O r9)
 else(
 O ([]:V X5))) else(
 O ([]:V X5))
def OP(a0:Xe)(a1:X3)(a2:X)(a3:X4):W (V X5):= (Rz a0 a1 a2 a3 E).bind fun r1=> O r1
def Hk(a3:V X)(a0:Xe)(a1:X3)(a2:X4):Z→X→(V (V X5))→W (V (V X5))
| 0,_,_=>U
| n+1,v1,v2=>
 if(decide (v1<(a3.length:X))) then(
 (ix a3 v1).bind fun x4=>
 (OP a0 a1 x4 a2).bind fun r5=>
 if Ad v2.length ([r5]:V (V X5)).length 24 then(
  Hk a3 a0 a1 a2 n (zK .i64 (v1+(1:X))) (v2++([r5]:V (V X5))))
 else U)
 else(
 O v2)
def RA(a0:Xe)(a1:X3)(a2:X4)(a3:V X):W (V (V X5)):= Hk a3 a0 a1 a2 bigN (0:X) ([]:V (V X5))
def Hg(r9:X)(a2:V X)(v1:X)(a0:X3)(v2:V X)(Sk:X→(V X)→W ((V X) × Y))(v12:Y):W ((V X) × Y):= if v12 then(
 O (([]:V X),E)) else(
 if Ad v2.length ([r9]:V X).length 8 then(
 Sk (zK .i64 (v1+(1:X))) (v2++([r9]:V X)))
 else U)
def Ei(a2:V X)(a0:X3):Z→X→(V X)→W ((V X) × Y)
| 0,_,_=>U
| n+1,v1,v2=>
 if(decide (v1<(a2.length:X))) then(
 (ix a2 v1).bind fun x4=>
 (Az x4 (0:X) (zK .i64 ((a0.Segments.length:X) - (1:X)))).bind fun r5=>
 if r5 then(
  (ix a0.Segments x4).bind fun x7=>
  (ix v2 (zK .i64 ((v2.length:X) - (1:X)))).bind fun x8=>
  (P0 x7 x8).bind fun r9=>
  if(decide (r9<(0:X))) then(
  Hg r9 a2 v1 a0 v2 (Ei a2 a0 n) F)
  else(
  (LO v2 r9).bind fun r11=>
  Hg r9 a2 v1 a0 v2 (Ei a2 a0 n) r11))
 else(
  O (([]:V X),E)))
 else(
 O (v2,F))
def Hf(a0:X3)(a1:X)(a2:V X):W ((V X) × Y):= Ei a2 a0 bigN (0:X) ([a1]:V X)
def EQ(a0:X3)(a1:X)(a2:V X):W Y:= (D8 a0).bind fun r1=> if r1 then(
 (Az a1 (0:X) (zK .i64 ((a0.Points.length:X) - (1:X)))).bind fun r3=>
 if r3 then(
 (Hf a0 a1 a2).bind fun r5=>
 O r5.2)
 else(
 O E)) else(
 O E)
def FZ(a0:X3)(a1:X)(a2:V X):W (V X):= (EQ a0 a1 a2).bind fun r1=> if r1 then(
 (Hf a0 a1 a2).bind fun r3=>
 O r3.1) else(
 O ([]:V X))
def Jw(a1:X)(a0:V X5):Z→X→W Y
| 0,_=>U
| n+1,v1=>
 if(decide (v1<(a0.length:X))) then(
 (ix a0 v1).bind fun x3=>
 (Az a1 x3.From x3.To).bind fun r4=>
 if r4 then(
  O F)
 else(
  Jw a1 a0 n (zK .i64 (v1+(1:X)))))
 else(
 O E)
def Oz(a0:V X5)(a1:X):W Y:= Jw a1 a0 bigN (0:X)
def Jz(a1:X)(a0:V X5):Z→X→W X
| 0,_=>U
| n+1,v3=>
 if(decide (v3<(a0.length:X))) then(
 (ix a0 v3).bind fun x5=>
 if(decide (a1≤x5.To)) then(
  O (if x5.From<a1 then a1 else x5.From))
 else(
  Jz a1 a0 n (zK .i64 (v3+(1:X)))))
 else(
 O (-1:X))
def OF(a0:V X5)(a1:X):W X:= (LM a0).bind fun r1=> if r1 then(
 Jz a1 a0 bigN (0:X)) else(
 O (-1:X))
def JP(a2 a3:V X)(a4:V (V X5))(v4 r12:X)(a0:X3)(a1:X4)(v5:V X)(Sl:X→(V X)→W ((V X) × Y))(v17:Y):W ((V X) × Y):= if v17 then(
 O (([]:V X),E)) else(
 if Ad v5.length ([r12]:V X).length 8 then(
 Sl (zK .i64 (v4+(1:X))) (v5++([r12]:V X)))
 else U)
def ES(a2 a3:V X)(a4:V (V X5))(a0:X3)(a1:X4):Z→X→(V X)→W ((V X) × Y)
| 0,_,_=>U
| n+1,v4,v5=>
 if(decide (v4<(a3.length:X))) then(
 (ix v5 (zK .i64 (v4 - (1:X)))).bind fun x7=>
 (ix a3 (zK .i64 (v4 - (1:X)))).bind fun x8=>
 (ix a0.Segments x8).bind fun x9=>
 (G3 x9 a1).bind fun r10=>
 (ix a4 v4).bind fun x11=>
 (OF x11 (zK .i64 (x7+r10))).bind fun r12=>
 if(decide (r12<(0:X))) then(
  JP a2 a3 a4 v4 r12 a0 a1 v5 (ES a2 a3 a4 a0 a1 n) F)
 else(
  if(r12 !=(zK .i64 (x7+r10))) then(
  (ix a2 v4).bind fun x15=>
  (ix a0.Points x15).bind fun x16=>
  JP a2 a3 a4 v4 r12 a0 a1 v5 (ES a2 a3 a4 a0 a1 n) (!x16.Wait))
  else(
  JP a2 a3 a4 v4 r12 a0 a1 v5 (ES a2 a3 a4 a0 a1 n) E)))
 else(
 O (v5,F))
def LP(a0:X3)(a1:X4)(a2 a3:V X)(a4:V (V X5))(a5:X):W ((V X) × Y):= (ix a4 (0:X)).bind fun x1=> (Oz x1 a5).bind fun r2=> if r2 then(
 ES a2 a3 a4 a0 a1 bigN (1:X) ([a5]:V X)) else(
 O (([]:V X),E))
def On(a0:X3)(a1:X4)(a2 a3:V X):W X:= (Hd a0 a2).bind fun r1=> if(decide (r1<(0:X))) then(
 O (-1:X)) else(
 (Eh a1).bind fun r3=>
 if r3 then(
 if((a2.length:X) !=(a3.length:X)) then(
  O (-1:X))
 else(
  if((a2.length:X)==(0:X)) then(
  O (-1:X))
  else(
  (ix a3 (zK .i64 ((a3.length:X) - (1:X)))).bind fun x7=>
  (Az x7 (0:X) (2880:X)).bind fun r9=>
  if r9 then(
   (ix a2 (zK .i64 ((a2.length:X) - (1:X)))).bind fun x11=>
   (ix a0.Segments x11).bind fun x12=>
   (G3 x12 a1).bind fun r13=>
   O (zK .i64 (x7+r13)))
  else(
   O (-1:X)))))
 else(
 O (-1:X)))
def JB(a1:X)(a5 a4:V X)(a0:X3)(a2:X4)(r6:(V X)):Z→X→(V X1)→W (V X1)
| 0,_,_=>U
| n+1,v7,v8=>
 if(decide (v7<(a4.length:X))) then(
 (ix a4 v7).bind fun x10=>
 (ix a5 v7).bind fun x11=>
 (Az x11 (0:X) (2880:X)).bind fun r12=>
 if r12 then(
  (ix a0.Segments x10).bind fun x14=>
  (ix r6 v7).bind fun x15=>
  (G3 x14 a2).bind fun r16=>
  if Ad v8.length ([(⟨a1,x10,(x14.A==x15),x11,(zK .i64 (x11+r16))⟩:X1)]:V X1).length 40 then(
  JB a1 a5 a4 a0 a2 r6 n (zK .i64 (v7+(1:X))) (v8++([(⟨a1,x10,(x14.A==x15),x11,(zK .i64 (x11+r16))⟩:X1)]:V X1)))
  else U)
 else(
  O ([]:V X1)))
 else(
 O v8)
def OI(a0:X3)(a1:X)(a2:X4)(a3:X)(a4 a5:V X):W (V X1):= (EQ a0 a3 a4).bind fun r1=> if r1 then(
 (Eh a2).bind fun r3=>
 if r3 then(
 if((a4.length:X) !=(a5.length:X)) then(
  O ([]:V X1))
 else(
  (FZ a0 a3 a4).bind fun r6=>
  JB a1 a5 a4 a0 a2 r6 bigN (0:X) ([]:V X1)))
 else(
 O ([]:V X1))) else(
 O ([]:V X1))
def Hu(a2:V X)(a0:X6)(x1:X4)(x2 r3:X)(r4:(V X1)):Z→X→X→W (X0 × Y)
| 0,_,_=>U
| n+1,v5,v6=>
 if(decide (v5<(a2.length:X))) then(
 (ix a2 v5).bind fun x8=>
 (ix a0.Chart.Segments x8).bind fun x9=>
 (G3 x9 x1).bind fun r10=>
 Hu a2 a0 x1 x2 r3 r4 n (zK .i64 (v5+(1:X))) (zK .i64 (v6 - r10)))
 else(
 O ((⟨x2,r3,v6,r4⟩:X0),(decide (r3≤(2880:X)))))
def P4(a0:X6)(a1:Xc)(a2 a3:V X):W (X0 × Y):= (ix a0.Fleet a1.Ship).bind fun x1=> (ix a3 (0:X)).bind fun x2=> (On a0.Chart x1 a2 a3).bind fun r3=> (OI a0.Chart a1.Ship x1 a1.From a2 a3).bind fun r4=> Hu a2 a0 x1 x2 r3 r4 bigN (0:X) (zK .i64 (r3 - a1.Ready))
def JA(r3:(V X) × Y)(v8:X)(a0:X6)(a1:Xc)(x5:X4)(r6:(V (V X5)))(r7:(V X))(Si:X→(V X0)→W (V X0))(v17:V X0):W (V X0):= Si (zK .i64 (v8+(15:X))) v17
def FY(r3:(V X) × Y)(a0:X6)(a1:Xc)(x5:X4)(r6:(V (V X5)))(r7:(V X)):Z→X→(V X0)→W (V X0)
| 0,_,_=>U
| n+1,v8,v9=>
 if(decide (v8≤a1.Due)) then(
 if(decide ((v9.length:X)<(8:X))) then(
  (LP a0.Chart x5 r7 r3.1 r6 v8).bind fun r12=>
  if r12.2 then(
  (P4 a0 a1 r3.1 r12.1).bind fun r14=>
  if r14.2 then(
   if Ad v9.length ([r14.1]:V X0).length 48 then(
   JA r3 v8 a0 a1 x5 r6 r7 (FY r3 a0 a1 x5 r6 r7 n) (v9++([r14.1]:V X0)))
   else U)
  else(
   JA r3 v8 a0 a1 x5 r6 r7 (FY r3 a0 a1 x5 r6 r7 n) v9))
  else(
  JA r3 v8 a0 a1 x5 r6 r7 (FY r3 a0 a1 x5 r6 r7 n) v9))
 else(
  O v9))
 else(
 O v9)
def OG(a0:X6)(a1:Xc):W (V X0):= (Jl a0 a1).bind fun r1=> if r1 then(
 (Oo a0.Chart a1.From a1.To).bind fun r3=>
 if r3.2 then(
 (ix a0.Fleet a1.Ship).bind fun x5=>
 (RA a0.Forecast a0.Chart x5 r3.1).bind fun r6=>
 (FZ a0.Chart a1.From r3.1).bind fun r7=>
 FY r3 a0 a1 x5 r6 r7 bigN a1.Ready ([]:V X0))
 else(
 O ([]:V X0))) else(
 O ([]:V X0))
def H9(a1:V X7)(a0:X1):Z→X→W Y
| 0,_=>U
| n+1,v1=>
 if(decide (v1<(a1.length:X))) then(
 (ix a1 v1).bind fun x3=>
 if(x3.Segment==a0.Segment) then(
  if(decide ((if a0.Start<x3.From then x3.From else a0.Start)<(if x3.To<a0.End then x3.To else a0.End))) then(
  O F)
  else(
  H9 a1 a0 n (zK .i64 (v1+(1:X)))))
 else(
  H9 a1 a0 n (zK .i64 (v1+(1:X)))))
 else(
 O E)
def Rt(a0:X1)(a1:V X7):W Y:= H9 a1 a0 bigN (0:X)
def JH(a1:V X7)(a0:X0):Z→X→W Y
| 0,_=>U
| n+1,v1=>
 if(decide (v1<(a0.Passages.length:X))) then(
 (ix a0.Passages v1).bind fun x3=>
 (Rt x3 a1).bind fun r4=>
 if r4 then(
  O F)
 else(
  JH a1 a0 n (zK .i64 (v1+(1:X)))))
 else(
 O E)
def Rw(a0:X0)(a1:V X7):W Y:= JH a1 a0 bigN (0:X)
def Eg(a2:V X7)(r5:(V X0)):Z→X→(V X0)→W (V X0)
| 0,_,_=>U
| n+1,v6,v7=>
 if(decide (v6<(r5.length:X))) then(
 (ix r5 v6).bind fun x9=>
 (Rw x9 a2).bind fun r10=>
 if r10 then(
  Eg a2 r5 n (zK .i64 (v6+(1:X))) v7)
 else(
  if Ad v7.length ([x9]:V X0).length 48 then(
  Eg a2 r5 n (zK .i64 (v6+(1:X))) (v7++([x9]:V X0)))
  else U))
 else(
 O v7)
def FX(a0:X6)(a1:Xc)(a2:V X7):W (V X0):= (Jl a0 a1).bind fun r1=> if r1 then(
 (LA a0.Chart a2).bind fun r3=>
 if r3 then(
 (OG a0 a1).bind fun r5=>
 Eg a2 r5 bigN (0:X) ([]:V X0))
 else(
 O ([]:V X0))) else(
 O ([]:V X0))
def JT(a2:V X7)(a1:V Xc)(a0:X6):Z→X→(V (V X0))→W (V (V X0))
| 0,_,_=>U
| n+1,v1,v2=>
 if(decide (v1<(a1.length:X))) then(
 (ix a1 v1).bind fun x4=>
 (FX a0 x4 a2).bind fun r5=>
 if Ad v2.length ([r5]:V (V X0)).length 24 then(
  JT a2 a1 a0 n (zK .i64 (v1+(1:X))) (v2++([r5]:V (V X0))))
 else U)
 else(
 O v2)
def RF(a0:X6)(a1:V Xc)(a2:V X7):W (V (V X0)):= JT a2 a1 a0 bigN (0:X) ([]:V (V X0))
def LJ(a0 a1:X1):W Y:= O (decide ((if a0.Start<a1.Start then a1.Start else a0.Start)<(if a1.End<a0.End then a1.End else a0.End)))
def P1(a2 v3 v4:X):W Y:= O (decide ((zK .i64 (v4 - v3))<a2))
def LQ(a0 a1 a2:X):W Y:= if(decide ((if a1<a0 then a1 else a0)<(0:X))) then(
 if(decide ((zK .i64 ((if a1<a0 then a1 else a0)+(9223372036854775807:X)))<(if a0<a1 then a1 else a0))) then(
 O E)
 else(
 P1 a2 (if a1<a0 then a1 else a0) (if a0<a1 then a1 else a0))) else(
 P1 a2 (if a1<a0 then a1 else a0) (if a0<a1 then a1 else a0))
def Ow(a0:X3)(a1:Xj)(a2 a3:X1):W X:= (D8 a0).bind fun r1=> if r1 then(
 (JE a1).bind fun r3=>
 if r3 then(
 (Az a2.Segment (0:X) (zK .i64 ((a0.Segments.length:X) - (1:X)))).bind fun r5=>
 if r5 then(
  if(a2.Segment !=a3.Segment) then(
  O (0:X))
  else(
  if(a2.Ship==a3.Ship) then(
   (LJ a2 a3).bind fun r9=>
   if r9 then(
   O (1:X))
   else(
   O (0:X)))
  else(
   if(a2.Toward==a3.Toward) then(
   (LQ a2.Start a3.Start a1.Gap).bind fun r17=>
   if r17 then(
    O (3:X))
   else(
    (LQ a2.End a3.End a1.Gap).bind fun r19=>
    if r19 then(
    O (3:X))
    else(
    if(decide (a2.Start<a3.Start)) then(
     if(decide (a3.End<a2.End)) then(
     O (4:X))
     else(
     if(decide (a3.Start<a2.Start)) then(
      if(decide (a2.End<a3.End)) then(
      O (4:X))
      else(
      O (0:X)))
     else(
      O (0:X))))
    else(
     if(decide (a3.Start<a2.Start)) then(
     if(decide (a2.End<a3.End)) then(
      O (4:X))
     else(
      O (0:X)))
     else(
     O (0:X))))))
   else(
   (LJ a2 a3).bind fun r12=>
   if r12 then(
    if a1.NoMeet then(
    O (2:X))
    else(
    (ix a0.Segments a2.Segment).bind fun x15=>
    if x15.Meet then(
     O (0:X))
    else(
     O (2:X))))
   else(
    O (0:X))))))
 else(
  O (0:X)))
 else(
 O (0:X))) else(
 O (0:X))
def Jp(a3 a2:V X1)(v1:X)(a0:X3)(a1:Xj)(x3:X1)(PE:X→W Y):Z→X→W Y
| 0,_=>U
| n+1,v4=>
 if(decide (v4<(a3.length:X))) then(
 (ix a3 v4).bind fun x6=>
 (Ow a0 a1 x3 x6).bind fun r7=>
 if(r7 !=(0:X)) then(
  O F)
 else(
  Jp a3 a2 v1 a0 a1 x3 PE n (zK .i64 (v4+(1:X)))))
 else(
 PE (zK .i64 (v1+(1:X))))
def FW(a3 a2:V X1)(a0:X3)(a1:Xj):Z→X→W Y
| 0,_=>U
| n+1,v1=>
 if(decide (v1<(a2.length:X))) then(
 (ix a2 v1).bind fun x3=>
 Jp a3 a2 v1 a0 a1 x3 (FW a3 a2 a0 a1 n) bigN (0:X))
 else(
 O E)
def Ou(a0:X3)(a1:Xj)(a2 a3:V X1):W Y:= FW a3 a2 a0 a1 bigN (0:X)
def JS(a1:V (V X0))(x4 x8:V X0)(v1 v5 v9:X)(a0:X6)(x12:X0)(v2:V (V (V (V Y))))(v6:V (V (V Y)))(v10:V (V Y))(PK:X→(V (V Y))→W (V (V (V (V Y))))):Z→X→(V Y)→W (V (V (V (V Y))))
| 0,_,_=>U
| n+1,v13,v14=>
 if(decide (v13<(x8.length:X))) then(
 (ix x8 v13).bind fun x16=>
 (Ou a0.Chart a0.Regime x12.Passages x16.Passages).bind fun r17=>
 if Ad v14.length ([r17]:V Y).length 1 then(
  JS a1 x4 x8 v1 v5 v9 a0 x12 v2 v6 v10 PK n (zK .i64 (v13+(1:X))) (v14++([r17]:V Y)))
 else U)
 else(
 if Ad v10.length ([v14]:V (V Y)).length 24 then(
  PK (zK .i64 (v9+(1:X))) (v10++([v14]:V (V Y))))
 else U)
def G7(a1:V (V X0))(x4 x8:V X0)(v1 v5:X)(a0:X6)(v2:V (V (V (V Y))))(v6:V (V (V Y)))(PJ:X→(V (V (V Y)))→W (V (V (V (V Y))))):Z→X→(V (V Y))→W (V (V (V (V Y))))
| 0,_,_=>U
| n+1,v9,v10=>
 if(decide (v9<(x4.length:X))) then(
 (ix x4 v9).bind fun x12=>
 JS a1 x4 x8 v1 v5 v9 a0 x12 v2 v6 v10 (G7 a1 x4 x8 v1 v5 a0 v2 v6 PJ n) bigN (0:X) ([]:V Y))
 else(
 if Ad v6.length ([v10]:V (V (V Y))).length 24 then(
  PJ (zK .i64 (v5+(1:X))) (v6++([v10]:V (V (V Y)))))
 else U)
def Ek(a1:V (V X0))(x4:V X0)(v1:X)(a0:X6)(v2:V (V (V (V Y))))(PI:X→(V (V (V (V Y))))→W (V (V (V (V Y))))):Z→X→(V (V (V Y)))→W (V (V (V (V Y))))
| 0,_,_=>U
| n+1,v5,v6=>
 if(decide (v5<(a1.length:X))) then(
 (ix a1 v5).bind fun x8=>
 G7 a1 x4 x8 v1 v5 a0 v2 v6 (Ek a1 x4 v1 a0 v2 PI n) bigN (0:X) ([]:V (V Y)))
 else(
 if Ad v2.length ([v6]:V (V (V (V Y)))).length 24 then(
  PI (zK .i64 (v1+(1:X))) (v2++([v6]:V (V (V (V Y))))))
 else U)
def Do(a1:V (V X0))(a0:X6):Z→X→(V (V (V (V Y))))→W (V (V (V (V Y))))
| 0,_,_=>U
| n+1,v1,v2=>
 if(decide (v1<(a1.length:X))) then(
 (ix a1 v1).bind fun x4=>
 Ek a1 x4 v1 a0 v2 (Do a1 a0 n) bigN (0:X) ([]:V (V (V Y))))
 else(
 O v2)
def P6(a0:X6)(a1:V (V X0)):W (V (V (V (V Y)))):= Do a1 a0 bigN (0:X) ([]:V (V (V (V Y))))
def Ot(a0:V X0)(v1 v2:X)(PD:X→X→W X)(v7:Y):W X:= if v7 then(
 PD v2 (zK .i64 (v2+(1:X)))) else(
 PD v1 (zK .i64 (v2+(1:X))))
def FV(a0:V X0):Z→X→X→W X
| 0,_,_=>U
| n+1,v1,v2=>
 if(decide (v2<(a0.length:X))) then(
 (ix a0 v2).bind fun x4=>
 if(decide (v1<(0:X))) then(
  Ot a0 v1 v2 (FV a0 n) F)
 else(
  (ix a0 v1).bind fun x6=>
  Ot a0 v1 v2 (FV a0 n) (decide (x4.Cost<x6.Cost))))
 else(
 O v1)
def Rq(a0:V X0):W X:= FV a0 bigN (-1:X) (0:X)
def Jm(a0:V X0):Z→X→(V (V X1))→W (V (V X1))
| 0,_,_=>U
| n+1,v1,v2=>
 if(decide (v1<(a0.length:X))) then(
 (ix a0 v1).bind fun x4=>
 if Ad ([]:V X1).length x4.Passages.length 40 then(
  if Ad v2.length ([x4.Passages]:V (V X1)).length 24 then(
  Jm a0 n (zK .i64 (v1+(1:X))) (v2++([x4.Passages]:V (V X1))))
  else U)
 else U)
 else(
 O v2)
def Lz(a0:V X0):W (V (V X1)):= Jm a0 bigN (0:X) ([]:V (V X1))
def LK(a0:X3)(a1:V X4)(a2:X1):W Y:= (D8 a0).bind fun r1=> if r1 then(
 (LC a1).bind fun r3=>
 if r3 then(
 (Az a2.Ship (0:X) (zK .i64 ((a1.length:X) - (1:X)))).bind fun r5=>
 if r5 then(
  (Az a2.Segment (0:X) (zK .i64 ((a0.Segments.length:X) - (1:X)))).bind fun r7=>
  if r7 then(
  (Az a2.Start (0:X) (2880:X)).bind fun r9=>
  if r9 then(
   (ix a1 a2.Ship).bind fun x11=>
   (LI a0 a2.Segment x11).bind fun r12=>
   if(a2.End==(zK .i64 (a2.Start+r12))) then(
   O (decide (a2.End≤(2880:X))))
   else(
   O E))
  else(
   O E))
  else(
  O E))
 else(
  O E))
 else(
 O E)) else(
 O E)
def G4(a0:X3)(a1:X1):W (X × X):= (ix a0.Segments a1.Segment).bind fun x1=> if a1.Toward then(
 O (x1.A,x1.B)) else(
 O (x1.B,x1.A))
def Ht(a1:V X4)(r7:X × X)(a2:V X1)(v1:X)(a0:X3)(x4:X1)(PH:X→(V Xb)→W ((V Xb) × Y)):Z→X→(V Xb)→W ((V Xb) × Y)
| 0,_,_=>U
| n+1,v8,v9=>
 (ix a1 x4.Ship).bind fun x10=>
 if(decide (v8<x10.Tugs)) then(
 if Ad v9.length ([(⟨x4.Start,x4.End,r7.1,r7.2⟩:Xb)]:V Xb).length 32 then(
  Ht a1 r7 a2 v1 a0 x4 PH n (zK .i64 (v8+(1:X))) (v9++([(⟨x4.Start,x4.End,r7.1,r7.2⟩:Xb)]:V Xb)))
 else U)
 else(
 if(decide ((12:X)<(v9.length:X))) then(
  O (([]:V Xb),E))
 else(
  PH (zK .i64 (v1+(1:X))) v9))
def G6(a1:V X4)(a2:V X1)(a0:X3):Z→X→(V Xb)→W ((V Xb) × Y)
| 0,_,_=>U
| n+1,v1,v2=>
 if(decide (v1<(a2.length:X))) then(
 (ix a2 v1).bind fun x4=>
 (LK a0 a1 x4).bind fun r5=>
 if r5 then(
  (G4 a0 x4).bind fun r7=>
  Ht a1 r7 a2 v1 a0 x4 (G6 a1 a2 a0 n) bigN (0:X) v2)
 else(
  O (([]:V Xb),E)))
 else(
 O (v2,F))
def RD(a0:X3)(a1:V X4)(a2:V X1):W ((V Xb) × Y):= G6 a1 a2 a0 bigN (0:X) ([]:V Xb)
def JQ(a0:Xb):W Y:= (Az a0.From (0:X) (2880:X)).bind fun r1=> if r1 then(
 if(decide (a0.From<a0.To)) then(
 if(decide (a0.To≤(2880:X))) then(
  (Az a0.A (0:X) (7:X)).bind fun r5=>
  if r5 then(
  (Az a0.B (0:X) (7:X)).bind fun r7=>
  O r7)
  else(
  O E))
 else(
  O E))
 else(
 O E)) else(
 O E)
def Ju(a0:V Xb):Z→X→W Y
| 0,_=>U
| n+1,v2=>
 if(decide (v2<(a0.length:X))) then(
 (ix a0 v2).bind fun x4=>
 (JQ x4).bind fun r5=>
 if r5 then(
  Ju a0 n (zK .i64 (v2+(1:X))))
 else(
  O E))
 else(
 O F)
def Oy(a0:V Xb):W Y:= if(decide ((12:X)<(a0.length:X))) then(
 O E) else(
 Ju a0 bigN (0:X))
def LF(a0:X)(a1:V X)(a2 a3:Xb)(v6:Y):W (X × Y):= if v6 then(
 O ((0:X),E)) else(
 (ix a1 (zK .i64 ((zK .i64 (a2.B*(8:X)))+a3.A))).bind fun x8=>
 O ((zK .i64 (a0+x8)),F))
def Rr(a0:X)(a1:V X)(a2 a3:Xb):W (X × Y):= (Hq a0 a1).bind fun r1=> if r1 then(
 (Az a2.B (0:X) (7:X)).bind fun r3=>
 if r3 then(
 (Az a3.A (0:X) (7:X)).bind fun r5=>
 LF a0 a1 a2 a3 (!r5))
 else(
 LF a0 a1 a2 a3 F)) else(
 LF a0 a1 a2 a3 F)
def Ly(a0:X)(a1:V X)(a2 a3:Xb):W Y:= (Rr a0 a1 a2 a3).bind fun r1=> if r1.2 then(
 (JQ a2).bind fun r3=>
 if r3 then(
 (JQ a3).bind fun r5=>
 if r5 then(
  O (decide ((zK .i64 (a2.To+r1.1))≤a3.From)))
 else(
  O E))
 else(
 O E)) else(
 O E)
def Hm(a0:X)(a1:V X)(a2:V Xb)(v1:X)(x4:Xb)(v2:V (V Y))(Ma:X→(V (V Y))→W (V (V Y))):Z→X→(V Y)→W (V (V Y))
| 0,_,_=>U
| n+1,v5,v6=>
 if(decide (v5<(a2.length:X))) then(
 (ix a2 v5).bind fun x8=>
 (Ly a0 a1 x4 x8).bind fun r9=>
 if r9 then(
  if Ad v6.length ([F]:V Y).length 1 then(
  Hm a0 a1 a2 v1 x4 v2 Ma n (zK .i64 (v5+(1:X))) (v6++([F]:V Y)))
  else U)
 else(
  (Ly a0 a1 x8 x4).bind fun r12=>
  if Ad v6.length ([r12]:V Y).length 1 then(
  Hm a0 a1 a2 v1 x4 v2 Ma n (zK .i64 (v5+(1:X))) (v6++([r12]:V Y)))
  else U))
 else(
 if Ad v2.length ([v6]:V (V Y)).length 24 then(
  Ma (zK .i64 (v1+(1:X))) (v2++([v6]:V (V Y))))
 else U)
def G5(a0:X)(a1:V X)(a2:V Xb):Z→X→(V (V Y))→W (V (V Y))
| 0,_,_=>U
| n+1,v1,v2=>
 if(decide (v1<(a2.length:X))) then(
 (ix a2 v1).bind fun x4=>
 Hm a0 a1 a2 v1 x4 v2 (G5 a0 a1 a2 n) bigN (0:X) ([]:V Y))
 else(
 O v2)
def P2(a0:X)(a1:V X)(a2:V Xb):W (V (V Y)):= G5 a0 a1 a2 bigN (0:X) ([]:V (V Y))
def LR(rec_:(V (V Y))→(V X)→X→W ((V X) × Y))(a0:V (V Y))(a1:V X)(a2 v2 v6:X)(Du:X→W ((V X) × Y)):W ((V X) × Y):= Du (zK .i64 (v6+(1:X)))
def DH(rec_:(V (V Y))→(V X)→X→W ((V X) × Y))(a0:V (V Y))(a1:V X)(a2 v2 v6:X)(Du:X→W ((V X) × Y)):Z→Y→X→W ((V X) × Y)
| 0,_,_=>U
| n+1,v9,v10=>
 if(decide (v10<(a1.length:X))) then(
 (ix a1 v10).bind fun x12=>
 if(x12==v6) then(
  (ix a0 (a1.length:X)).bind fun x14=>
  (ix x14 v10).bind fun x15=>
  if x15 then(
  DH rec_ a0 a1 a2 v2 v6 Du n v9 (zK .i64 (v10+(1:X))))
  else(
  DH rec_ a0 a1 a2 v2 v6 Du n E (zK .i64 (v10+(1:X)))))
 else(
  DH rec_ a0 a1 a2 v2 v6 Du n v9 (zK .i64 (v10+(1:X)))))
 else(
 if v9 then(
  if Ad ([]:V X).length a1.length 8 then(
  if Ad a1.length ([v6]:V X).length 8 then(
   (rec_ a0 (a1++([v6]:V X)) a2).bind fun r20=>
   if r20.2 then(
   O (r20.1,F))
   else(
   LR rec_ a0 a1 a2 v2 v6 Du))
  else U)
  else U)
 else(
  LR rec_ a0 a1 a2 v2 v6 Du))
def Ej(rec_:(V (V Y))→(V X)→X→W ((V X) × Y))(a0:V (V Y))(a1:V X)(a2 v2:X):Z→X→W ((V X) × Y)
| 0,_=>U
| n+1,v6=>
 if(decide (v6≤v2)) then(
 if(decide (v6<a2)) then(
  DH rec_ a0 a1 a2 v2 v6 (Ej rec_ a0 a1 a2 v2 n) bigN F (0:X))
 else(
  O (([]:V X),E)))
 else(
 O (([]:V X),E))
def Hn(rec_:(V (V Y))→(V X)→X→W ((V X) × Y))(a0:V (V Y))(a1:V X)(a2:X):Z→X→X→W ((V X) × Y)
| 0,_,_=>U
| n+1,v2,v3=>
 if(decide (v3<(a1.length:X))) then(
 (ix a1 v3).bind fun x5=>
 Hn rec_ a0 a1 a2 n (if v2<(zK .i64 (x5+(1:X))) then(zK .i64 (x5+(1:X))) else v2) (zK .i64 (v3+(1:X))))
 else(
 Ej rec_ a0 a1 a2 v2 bigN (0:X))
def P3(rec_:(V (V Y))→(V X)→X→W ((V X) × Y))(a0:V (V Y))(a1:V X)(a2:X):W ((V X) × Y):= if((a1.length:X)==(a0.length:X)) then(
 O (a1,F)) else(
 Hn rec_ a0 a1 a2 bigN (0:X) (0:X))
def Cr:Z→(V (V Y))→(V X)→X→W ((V X) × Y)
| 0,_,_,_=>U
| n+1,a0,a1,a2=>P3 (Cr n) a0 a1 a2
def RB(a0:V (V Y))(a1:V X)(a2:X):W ((V X) × Y):=Cr bigN a0 a1 a2
def Jy(a2:V Xb)(r6:(V (V Y))):Z→X→W ((V X) × X × Y)
| 0,_=>U
| n+1,v7=>
 if(decide (v7≤(a2.length:X))) then(
 (RB r6 ([]:V X) v7).bind fun r9=>
 if r9.2 then(
  O (r9.1,v7,F))
 else(
  Jy a2 r6 n (zK .i64 (v7+(1:X)))))
 else(
 O (([]:V X),(0:X),E))
def OD(a0:X)(a1:V X)(a2:V Xb)(v4:Y):W ((V X) × X × Y):= if v4 then(
 O (([]:V X),(0:X),E)) else(
 (P2 a0 a1 a2).bind fun r6=>
 Jy a2 r6 bigN (0:X))
def Jx(a0:X)(a1:V X)(a2:V Xb):W ((V X) × X × Y):= (Oy a2).bind fun r1=> if r1 then(
 (Hq a0 a1).bind fun r3=>
 OD a0 a1 a2 (!r3)) else(
 OD a0 a1 a2 F)
def LL(a0:Xo)(a1:X3)(a2:V X4)(a3:V X1):W X:= (RD a1 a2 a3).bind fun r1=> (Js a0).bind fun r2=> if r2 then(
 if r1.2 then(
 (Jx (0:X) a0.Moves r1.1).bind fun r5=>
 if r5.2.2 then(
  O r5.2.1)
 else(
  O (-1:X)))
 else(
 O (-1:X))) else(
 O (-1:X))
def Ha(a1:V X1)(a0:X3):Z→X→W Y
| 0,_=>U
| n+1,v3=>
 if(decide (v3<(a1.length:X))) then(
 (ix a1 v3).bind fun x5=>
 (ix a1 (0:X)).bind fun x6=>
 if(x5.Ship !=x6.Ship) then(
  O E)
 else(
  (Az x5.Segment (0:X) (zK .i64 ((a0.Segments.length:X) - (1:X)))).bind fun r9=>
  if r9 then(
  if(v3==(0:X)) then(
   Ha a1 a0 n (zK .i64 (v3+(1:X))))
  else(
   (G4 a0 x5).bind fun r12=>
   (ix a1 (zK .i64 (v3 - (1:X)))).bind fun x13=>
   (G4 a0 x13).bind fun r14=>
   if(r12.1 !=r14.2) then(
   O E)
   else(
   if(decide (x5.Start<x13.End)) then(
    O E)
   else(
    Ha a1 a0 n (zK .i64 (v3+(1:X)))))))
  else(
  O E)))
 else(
 O F)
def OA(a0:X3)(a1:V X1):W Y:= (D8 a0).bind fun r1=> if r1 then(
 Ha a1 a0 bigN (0:X)) else(
 O E)
def JC(a1:V X4)(a2:V X1)(a0:X3):Z→X→W (Xb × Y)
| 0,_=>U
| n+1,v5=>
 if(decide (v5<(a2.length:X))) then(
 (ix a2 v5).bind fun x7=>
 (LK a0 a1 x7).bind fun r9=>
 if r9 then(
  JC a1 a2 a0 n (zK .i64 (v5+(1:X))))
 else(
  O ((⟨(0:X),(0:X),(0:X),(0:X)⟩:Xb),E)))
 else(
 (ix a2 (zK .i64 ((a2.length:X) - (1:X)))).bind fun x11=>
 (ix a2 (0:X)).bind fun x12=>
 (G4 a0 x12).bind fun r13=>
 (G4 a0 x11).bind fun r14=>
 O ((⟨x12.Start,x11.End,r13.1,r14.2⟩:Xb),F))
def OK(a1:V X4)(a2:V X1)(a0:X3)(v3:Y):W (Xb × Y):= if v3 then(
 O ((⟨(0:X),(0:X),(0:X),(0:X)⟩:Xb),E)) else(
 JC a1 a2 a0 bigN (0:X))
def OJ(a0:X3)(a1:V X4)(a2:V X1):W (Xb × Y):= if((a2.length:X)==(0:X)) then(
 OK a1 a2 a0 F) else(
 (OA a0 a2).bind fun r2=>
 OK a1 a2 a0 (!r2))
def Hc(a2:V X4)(a3:V (V X1))(a0:Xo)(a1:X3):Z→X→(V Xb)→W X
| 0,_,_=>U
| n+1,v3,v4=>
 if(decide (v3<(a3.length:X))) then(
 (ix a3 v3).bind fun x6=>
 if((x6.length:X)==(0:X)) then(
  Hc a2 a3 a0 a1 n (zK .i64 (v3+(1:X))) v4)
 else(
  (OJ a1 a2 x6).bind fun r9=>
  if r9.2 then(
  if Ad v4.length ([r9.1]:V Xb).length 32 then(
   Hc a2 a3 a0 a1 n (zK .i64 (v3+(1:X))) (v4++([r9.1]:V Xb)))
  else U)
  else(
  O (-1:X))))
 else(
 (Jx a0.Rest a0.Moves v4).bind fun r12=>
 if r12.2.2 then(
  O r12.2.1)
 else(
  O (-1:X)))
def OL(a0:Xo)(a1:X3)(a2:V X4)(a3:V (V X1)):W X:= (Js a0).bind fun r1=> if r1 then(
 Hc a2 a3 a0 a1 bigN (0:X) ([]:V Xb)) else(
 O (-1:X))
def Jt(a2:V X4)(a3:V (V X1))(a0:Xo)(a1:X3):Z→X→(V X1)→W Y
| 0,_,_=>U
| n+1,v1,v2=>
 if(decide (v1<(a3.length:X))) then(
 (ix a3 v1).bind fun x4=>
 if Ad v2.length x4.length 40 then(
  Jt a2 a3 a0 a1 n (zK .i64 (v1+(1:X))) (v2++x4))
 else U)
 else(
 (LL a0 a1 a2 v2).bind fun r6=>
 (Az r6 (0:X) a0.Tugs).bind fun r7=>
 if r7 then(
  (OL a0 a1 a2 a3).bind fun r9=>
  (Az r9 (0:X) a0.Pilots).bind fun r10=>
  O r10)
 else(
  O E))
def Ox(a0:Xo)(a1:X3)(a2:V X4)(a3:V (V X1)):W Y:= Jt a2 a3 a0 a1 bigN (0:X) ([]:V X1)
def Dp(rec_:Xf→(V X)→X→W Xf)(a1:V X)(a2:X)(a0:Xf)(v4:Y):Z→X→(V X0)→W Xf
| 0,_,_=>U
| n+1,v6,v7=>
 if(decide (v6<(a1.length:X))) then(
 (ix a1 v6).bind fun x9=>
 (ix a0.lists v6).bind fun x10=>
 (ix x10 x9).bind fun x11=>
 if Ad v7.length ([x11]:V X0).length 48 then(
  Dp rec_ a1 a2 a0 v4 n (zK .i64 (v6+(1:X))) (v7++([x11]:V X0)))
 else U)
 else(
 (Lz v7).bind fun r13=>
 (Ox a0.h.Crew a0.h.Chart a0.h.Fleet r13).bind fun r14=>
 if r14 then(
  if Ad ([]:V X).length a1.length 8 then(
  O (⟨a0.h,a0.lists,a0.clash,a0.rest,a1,a2,F⟩:Xf))
  else U)
 else(
  O (⟨a0.h,a0.lists,a0.clash,a0.rest,a0.best,a0.cost,v4⟩:Xf)))
def DI(rec_:Xf→(V X)→X→W Xf)(a1:V X)(a2 v18:X)(x17:V X0)(v19:X)(v20:V Xd)(v21:V Xa)(v22:V X8)(v23:V X2)(v24:V X4)(v25:X)(v26:Y)(v27 v28 v29:X)(v30:V X)(v31:V (V X0))(v32:V (V (V (V Y))))(v33:V X)(v34:X)(v35:Y)(x38:X0)(v36:V X)(K1:X→X→(V Xd)→(V Xa)→(V X8)→(V X2)→(V X4)→X→Y→X→X→X→(V X)→(V (V X0))→(V (V (V (V Y))))→(V X)→X→Y→(V X)→W Xf):Z→Y→X→W Xf
| 0,_,_=>U
| n+1,v39,v40=>
 if(decide (v40<(a1.length:X))) then(
 (ix a1 v40).bind fun x42=>
 (ix v32 (a1.length:X)).bind fun x43=>
 (ix x43 v40).bind fun x44=>
 (ix x44 v18).bind fun x45=>
 (ix x45 x42).bind fun x46=>
 if x46 then(
  DI rec_ a1 a2 v18 x17 v19 v20 v21 v22 v23 v24 v25 v26 v27 v28 v29 v30 v31 v32 v33 v34 v35 x38 v36 K1 n E (zK .i64 (v40+(1:X))))
 else(
  DI rec_ a1 a2 v18 x17 v19 v20 v21 v22 v23 v24 v25 v26 v27 v28 v29 v30 v31 v32 v33 v34 v35 x38 v36 K1 n v39 (zK .i64 (v40+(1:X)))))
 else(
 if v39 then(
  if Ad ([]:V X).length a1.length 8 then(
  if Ad a1.length ([v18]:V X).length 8 then(
   (rec_ (⟨(⟨(⟨(⟨v19,v20⟩:Xn),v21⟩:Xe),(⟨v22,v23⟩:X3),v24,(⟨v25,v26⟩:Xj),(⟨v27,v28,v29,v30⟩:Xo)⟩:X6),v31,v32,v33,v36,v34,v35⟩:Xf) (a1++([v18]:V X)) (zK .i64 (a2+x38.Cost))).bind fun r51=>
   K1 (zK .i64 (v18+(1:X))) r51.h.Forecast.Tide.Mean r51.h.Forecast.Tide.Parts r51.h.Forecast.Surges r51.h.Chart.Points r51.h.Chart.Segments r51.h.Fleet r51.h.Regime.Gap r51.h.Regime.NoMeet r51.h.Crew.Tugs r51.h.Crew.Pilots r51.h.Crew.Rest r51.h.Crew.Moves r51.lists r51.clash r51.rest r51.cost r51.found r51.best)
  else U)
  else U)
 else(
  K1 (zK .i64 (v18+(1:X))) v19 v20 v21 v22 v23 v24 v25 v26 v27 v28 v29 v30 v31 v32 v33 v34 v35 v36))
def ET(rec_:Xf→(V X)→X→W Xf)(a1:V X)(a2:X)(x17:V X0):Z→X→X→(V Xd)→(V Xa)→(V X8)→(V X2)→(V X4)→X→Y→X→X→X→(V X)→(V (V X0))→(V (V (V (V Y))))→(V X)→X→Y→(V X)→W Xf
| 0,_,_,_,_,_,_,_,_,_,_,_,_,_,_,_,_,_,_,_=>U
| n+1,v18,v19,v20,v21,v22,v23,v24,v25,v26,v27,v28,v29,v30,v31,v32,v33,v34,v35,v36=>
 if(decide (v18<(x17.length:X))) then(
 (ix x17 v18).bind fun x38=>
 DI rec_ a1 a2 v18 x17 v19 v20 v21 v22 v23 v24 v25 v26 v27 v28 v29 v30 v31 v32 v33 v34 v35 x38 v36 (ET rec_ a1 a2 x17 n) bigN F (0:X))
 else(
 O (⟨(⟨(⟨(⟨v19,v20⟩:Xn),v21⟩:Xe),(⟨v22,v23⟩:X3),v24,(⟨v25,v26⟩:Xj),(⟨v27,v28,v29,v30⟩:Xo)⟩:X6),v31,v32,v33,v36,v34,v35⟩:Xf))
def Hv(rec_:Xf→(V X)→X→W Xf)(a1:V X)(a2:X)(a0:Xf)(v4:Y):W Xf:= if((a1.length:X)==(a0.lists.length:X)) then(
 Dp rec_ a1 a2 a0 v4 bigN (0:X) ([]:V X0)) else(
 (ix a0.lists (a1.length:X)).bind fun x17=>
 ET rec_ a1 a2 x17 bigN (0:X) a0.h.Forecast.Tide.Mean a0.h.Forecast.Tide.Parts a0.h.Forecast.Surges a0.h.Chart.Points a0.h.Chart.Segments a0.h.Fleet a0.h.Regime.Gap a0.h.Regime.NoMeet a0.h.Crew.Tugs a0.h.Crew.Pilots a0.h.Crew.Rest a0.h.Crew.Moves a0.lists a0.clash a0.rest a0.cost v4 a0.best)
def RE(rec_:Xf→(V X)→X→W Xf)(a0:Xf)(a1:V X)(a2:X):W Xf:= if a0.found then(
 (ix a0.rest (a1.length:X)).bind fun x2=>
 if(decide (a0.cost≤(zK .i64 (a2+x2)))) then(
 O (⟨a0.h,a0.lists,a0.clash,a0.rest,a0.best,a0.cost,F⟩:Xf))
 else(
 Hv rec_ a1 a2 a0 F)) else(
 Hv rec_ a1 a2 a0 E)
def BU:Z→Xf→(V X)→X→W Xf
| 0,_,_,_=>U
| n+1,a0,a1,a2=>RE (BU n) a0 a1 a2
def TY(a0:Xf)(a1:V X)(a2:X):W Xf:=BU bigN a0 a1 a2
def JR(a1:V (V X0))(a0:X6)(r1:(V (V (V (V Y))))):Z→X→(V X)→W ((V X) × X × Y)
| 0,_,_=>U
| n+1,v3,v4=>
 if(decide ((0:X)≤v3)) then(
 (ix a1 v3).bind fun x6=>
 (Rq x6).bind fun r7=>
 if(decide (r7<(0:X))) then(
  O (([]:V X),(0:X),E))
 else(
  (ix v4 (zK .i64 (v3+(1:X)))).bind fun x9=>
  (ix x6 r7).bind fun x10=>
  (ix v4 v3).bind fun x11=>
  JR a1 a0 r1 n (zK .i64 (v3 - (1:X))) (v4.set (zB v3) (zK .i64 (x9+x10.Cost)))))
 else(
 (TY (⟨a0,a1,r1,v4,([]:V X),(0:X),E⟩:Xf) ([]:V X) (0:X)).bind fun r12=>
 if r12.found then(
  O (r12.best,r12.cost,F))
 else(
  O (([]:V X),(0:X),E)))
def P5(a0:X6)(a1:V (V X0)):W ((V X) × X × Y):= (P6 a0 a1).bind fun r1=> (BM (zK .i64 ((a1.length:X)+(1:X))) (zK .i64 ((a1.length:X)+(1:X))) 8).bind fun n2=> JR a1 a0 r1 bigN (zK .i64 ((a1.length:X) - (1:X))) (zF n2 (0:X))
def Jq(r7:(V X) × X × Y)(r6:(V (V X0))):Z→X→(V X0)→W ((V X0) × Y)
| 0,_,_=>U
| n+1,v9,v10=>
 if(decide (v9<(r7.1.length:X))) then(
 (ix r7.1 v9).bind fun x12=>
 (ix r6 v9).bind fun x13=>
 (ix x13 x12).bind fun x14=>
 if Ad v10.length ([x14]:V X0).length 48 then(
  Jq r7 r6 n (zK .i64 (v9+(1:X))) (v10++([x14]:V X0)))
 else U)
 else(
 O (v10,F))
def Ov(a1:V Xc)(a2:V X7)(a0:X6)(v4:Y):W ((V X0) × Y):= if v4 then(
 O (([]:V X0),E)) else(
 (RF a0 a1 a2).bind fun r6=>
 (P5 a0 r6).bind fun r7=>
 if r7.2.2 then(
 Jq r7 r6 bigN (0:X) ([]:V X0))
 else(
 O (([]:V X0),E)))
def H7(a0:X6)(a1:V Xc)(a2:V X7):W ((V X0) × Y):= (Oq a0 a1).bind fun r1=> if r1 then(
 (LA a0.Chart a2).bind fun r3=>
 Ov a1 a2 a0 (!r3)) else(
 Ov a1 a2 a0 F)
def BT(a0 a1 a2:X):W Y:= if(decide (a1≤a0)) then(
 O (decide (a0≤a2))) else(
 O E)
def L6(a0:X):W Y:= (BT a0 (4:X) (2880:X)).bind fun r1=> if r1 then(
 O ((zK .i64 (zI a0 (4:X)))==(0:X))) else(
 O E)
def Nd(a0:Xd):W Y:= (BT a0.Amp (0:X) (1000:X)).bind fun r1=> if r1 then(
 (L6 a0.Period).bind fun r3=>
 if r3 then(
 (BT a0.Phase (0:X) (zK .i64 (a0.Period - (1:X)))).bind fun r5=>
 O r5)
 else(
 O E)) else(
 O E)
def IB(a0:Xn):Z→X→W Y
| 0,_=>U
| n+1,v4=>
 if(decide (v4<(a0.Parts.length:X))) then(
 (ix a0.Parts v4).bind fun x6=>
 (Nd x6).bind fun r7=>
 if r7 then(
  IB a0 n (zK .i64 (v4+(1:X))))
 else(
  O E))
 else(
 O F)
def Np(a0:Xn):W Y:= (BT a0.Mean (-1000:X) (1000:X)).bind fun r1=> if r1 then(
 if(decide ((4:X)<(a0.Parts.length:X))) then(
 O E)
 else(
 IB a0 bigN (0:X))) else(
 O E)
def D7(a0:X):W Y:= (BT a0 (0:X) (2880:X)).bind fun r1=> O r1
def Nn(a0:Xa):W Y:= (D7 a0.From).bind fun r1=> if r1 then(
 if(decide ((-500:X)≤a0.Low)) then(
 if(decide (a0.Low≤a0.High)) then(
  O (decide (a0.High≤(500:X))))
 else(
  O E))
 else(
 O E)) else(
 O E)
def GP(a0:Xe):Z→X→W Y
| 0,_=>U
| n+1,v7=>
 if(decide (v7<(a0.Surges.length:X))) then(
 (ix a0.Surges v7).bind fun x9=>
 (Nn x9).bind fun r10=>
 if r10 then(
  if(decide ((0:X)<v7)) then(
  (ix a0.Surges (zK .i64 (v7 - (1:X)))).bind fun x13=>
  if(decide (x9.From≤x13.From)) then(
   O E)
  else(
   GP a0 n (zK .i64 (v7+(1:X)))))
  else(
  GP a0 n (zK .i64 (v7+(1:X)))))
 else(
  O E))
 else(
 O F)
def GO(a0:Xe):W Y:= (Np a0.Tide).bind fun r1=> if r1 then(
 (BT (a0.Surges.length:X) (1:X) (6:X)).bind fun r3=>
 if r3 then(
 (ix a0.Surges (0:X)).bind fun x5=>
 if(x5.From !=(0:X)) then(
  O E)
 else(
  GP a0 bigN (0:X)))
 else(
 O E)) else(
 O E)
def N7(a0:V zA)(v3:X)(EY:X→W Y):W Y:= EY (zK .i64 (v3+(1:X)))
def N6(a0:V zA)(v3:X)(EY:X→W Y)(v7:Y):W Y:= if v7 then(
 N7 a0 v3 EY) else(
 if(v3==(0:X)) then(
 O E)
 else(
 (ix a0 v3).bind fun b10=>
 if(decide ((b10.toNat:X)<(48:X))) then(
  O E)
 else(
  if(decide ((57:X)<(b10.toNat:X))) then(
  O E)
  else(
  N7 a0 v3 EY))))
def GQ(a0:V zA):Z→X→W Y
| 0,_=>U
| n+1,v3=>
 if(decide (v3<(a0.length:X))) then(
 (ix a0 v3).bind fun b5=>
 if(decide ((97:X)≤(b5.toNat:X))) then(
  N6 a0 v3 (GQ a0 n) (decide ((b5.toNat:X)≤(122:X))))
 else(
  N6 a0 v3 (GQ a0 n) E))
 else(
 O F)
def KU(a0:V zA):W Y:= (BT (a0.length:X) (1:X) (8:X)).bind fun r1=> if r1 then(
 GQ a0 bigN (0:X)) else(
 O E)
def Iy(a1:V zA)(a0:X3):Z→X→W X
| 0,_=>U
| n+1,v1=>
 if(decide (v1<(a0.Points.length:X))) then(
 (ix a0.Points v1).bind fun x3=>
 if(x3.Name==a1) then(
  O v1)
 else(
  Iy a1 a0 n (zK .i64 (v1+(1:X)))))
 else(
 O (-1:X))
def Nh(a0:X3)(a1:V zA):W X:= Iy a1 a0 bigN (0:X)
def Bv(a0 a1:X):W Y:= if(decide ((0:X)≤a0)) then(
 O (decide (a0<a1))) else(
 O E)
def Nj(a0:X2)(a1 a2:X):W Y:= if(a0.A==a1) then(
 if(a0.B==a2) then(
 O F)
 else(
 if(a0.A==a2) then(
  O (a0.B==a1))
 else(
  O E))) else(
 if(a0.A==a2) then(
 O (a0.B==a1))
 else(
 O E))
def Ij(a0:X3)(v11:X)(x13:X2)(y24:V X2)(y25:X)(Pu:X→W Y):Z→X→W Y
| 0,_=>U
| n+1,v26=>
 if(decide (v26<y25)) then(
 (ix y24 v26).bind fun x28=>
 (Nj x28 x13.A x13.B).bind fun r29=>
 if r29 then(
  O E)
 else(
  Ij a0 v11 x13 y24 y25 Pu n (zK .i64 (v26+(1:X)))))
 else(
 Pu (zK .i64 (v11+(1:X))))
def EH(a0:X3):Z→X→W Y
| 0,_=>U
| n+1,v11=>
 if(decide (v11<(a0.Segments.length:X))) then(
 (ix a0.Segments v11).bind fun x13=>
 (Bv x13.A (a0.Points.length:X)).bind fun r14=>
 if r14 then(
  (Bv x13.B (a0.Points.length:X)).bind fun r16=>
  if r16 then(
  if(x13.A==x13.B) then(
   O E)
  else(
   (BT x13.Depth (0:X) (3000:X)).bind fun r19=>
   if r19 then(
   (BT x13.Minutes (1:X) (240:X)).bind fun r21=>
   if r21 then(
    (bnd (a0.Segments.length:X) v11 (0:X) a0.Segments.length).bind fun p23=>
    Ij a0 v11 x13 ((a0.Segments.drop p23.1).take (p23.2 - p23.1)) (((a0.Segments.drop p23.1).take (p23.2 - p23.1)).length:X) (EH a0 n) bigN (0:X))
   else(
    O E))
   else(
   O E)))
  else(
  O E))
 else(
  O E))
 else(
 O F)
def Ii(a0:X3):Z→X→W Y
| 0,_=>U
| n+1,v3=>
 if(decide (v3<(a0.Points.length:X))) then(
 (ix a0.Points v3).bind fun x5=>
 (KU x5.Name).bind fun r6=>
 if r6 then(
  (Nh a0 x5.Name).bind fun r9=>
  if(r9 !=v3) then(
  O E)
  else(
  Ii a0 n (zK .i64 (v3+(1:X)))))
 else(
  O E))
 else(
 EH a0 bigN (0:X))
def Dn(a0:X3):W Y:= if(decide ((8:X)<(a0.Points.length:X))) then(
 O E) else(
 if(decide ((10:X)<(a0.Segments.length:X))) then(
 O E)
 else(
 Ii a0 bigN (0:X)))
def EJ(a0:X4):W Y:= (KU a0.Name).bind fun r1=> if r1 then(
 (BT a0.Length (10:X) (400:X)).bind fun r3=>
 if r3 then(
 (BT a0.Draught (100:X) (2000:X)).bind fun r5=>
 if r5 then(
  (Bv a0.Line (4:X)).bind fun r7=>
  if r7 then(
  (BT a0.Tugs (0:X) (4:X)).bind fun r9=>
  O r9)
  else(
  O E))
 else(
  O E))
 else(
 O E)) else(
 O E)
def IA(a1:V zA)(a0:V X4):Z→X→W X
| 0,_=>U
| n+1,v1=>
 if(decide (v1<(a0.length:X))) then(
 (ix a0 v1).bind fun x3=>
 if(x3.Name==a1) then(
  O v1)
 else(
  IA a1 a0 n (zK .i64 (v1+(1:X)))))
 else(
 O (-1:X))
def Nk(a0:V X4)(a1:V zA):W X:= IA a1 a0 bigN (0:X)
def It(a0:V X4):Z→X→W Y
| 0,_=>U
| n+1,v2=>
 if(decide (v2<(a0.length:X))) then(
 (ix a0 v2).bind fun x4=>
 (EJ x4).bind fun r5=>
 if r5 then(
  (Nk a0 x4.Name).bind fun r7=>
  if(r7 !=v2) then(
  O E)
  else(
  It a0 n (zK .i64 (v2+(1:X)))))
 else(
  O E))
 else(
 O F)
def KQ(a0:V X4):W Y:= if(decide ((6:X)<(a0.length:X))) then(
 O E) else(
 It a0 bigN (0:X))
def QT(a0:Xj):W Y:= (BT a0.Gap (0:X) (60:X)).bind fun r1=> O r1
def GZ(a0:V X):Z→X→W Y
| 0,_=>U
| n+1,v2=>
 if(decide (v2<(a0.length:X))) then(
 (ix a0 v2).bind fun x4=>
 (BT x4 (0:X) (240:X)).bind fun r5=>
 if r5 then(
  GZ a0 n (zK .i64 (v2+(1:X))))
 else(
  O E))
 else(
 O F)
def GY(a0:V X):W Y:= if((a0.length:X) !=(64:X)) then(
 O E) else(
 GZ a0 bigN (0:X))
def N1(a0:Xo):W Y:= (BT a0.Tugs (0:X) (12:X)).bind fun r1=> if r1 then(
 (BT a0.Pilots (0:X) (12:X)).bind fun r3=>
 if r3 then(
 (D7 a0.Rest).bind fun r5=>
 if r5 then(
  (GY a0.Moves).bind fun r7=>
  O r7)
 else(
  O E))
 else(
 O E)) else(
 O E)
def KR(a0:X6):W Y:= (GO a0.Forecast).bind fun r1=> if r1 then(
 (Dn a0.Chart).bind fun r3=>
 if r3 then(
 (KQ a0.Fleet).bind fun r5=>
 if r5 then(
  (QT a0.Regime).bind fun r7=>
  if r7 then(
  (N1 a0.Crew).bind fun r9=>
  O r9)
  else(
  O E))
 else(
  O E))
 else(
 O E)) else(
 O E)
def L1(a0:X6)(a1:Xc):W Y:= (Bv a1.Ship (a0.Fleet.length:X)).bind fun r1=> if r1 then(
 (Bv a1.From (a0.Chart.Points.length:X)).bind fun r3=>
 if r3 then(
 (Bv a1.To (a0.Chart.Points.length:X)).bind fun r5=>
 if r5 then(
  if(a1.From !=a1.To) then(
  (D7 a1.Ready).bind fun r9=>
  if r9 then(
   (BT a1.Due a1.Ready (2880:X)).bind fun r11=>
   O r11)
  else(
   O E))
  else(
  O E))
 else(
  O E))
 else(
 O E)) else(
 O E)
def Fx(a1:V Xc)(v4:X)(a0:X6)(x6:Xc)(y10:V Xc)(y11:X)(Pt:X→W Y):Z→X→W Y
| 0,_=>U
| n+1,v12=>
 if(decide (v12<y11)) then(
 (ix y10 v12).bind fun x14=>
 if(x14.Ship==x6.Ship) then(
  O E)
 else(
  Fx a1 v4 a0 x6 y10 y11 Pt n (zK .i64 (v12+(1:X)))))
 else(
 Pt (zK .i64 (v4+(1:X))))
def E9(a1:V Xc)(a0:X6):Z→X→W Y
| 0,_=>U
| n+1,v4=>
 if(decide (v4<(a1.length:X))) then(
 (ix a1 v4).bind fun x6=>
 (L1 a0 x6).bind fun r7=>
 if r7 then(
  (bnd (a1.length:X) v4 (0:X) a1.length).bind fun p9=>
  Fx a1 v4 a0 x6 ((a1.drop p9.1).take (p9.2 - p9.1)) (((a1.drop p9.1).take (p9.2 - p9.1)).length:X) (E9 a1 a0 n) bigN (0:X))
 else(
  O E))
 else(
 O F)
def MY(a0:X6)(a1:V Xc):W Y:= (KR a0).bind fun r1=> if r1 then(
 if(decide ((6:X)<(a1.length:X))) then(
 O E)
 else(
 E9 a1 a0 bigN (0:X))) else(
 O E)
def Io(a1:V X7)(a0:X3):Z→X→W Y
| 0,_=>U
| n+1,v4=>
 if(decide (v4<(a1.length:X))) then(
 (ix a1 v4).bind fun x6=>
 (Bv x6.Segment (a0.Segments.length:X)).bind fun r7=>
 if r7 then(
  if(decide (x6.From<(0:X))) then(
  O E)
  else(
  if(decide (x6.To≤x6.From)) then(
   O E)
  else(
   if(decide ((2880:X)<x6.To)) then(
   O E)
   else(
   Io a1 a0 n (zK .i64 (v4+(1:X)))))))
 else(
  O E))
 else(
 O F)
def GN(a0:X3)(a1:V X7):W Y:= (Dn a0).bind fun r1=> if r1 then(
 if(decide ((4:X)<(a1.length:X))) then(
 O E)
 else(
 Io a1 a0 bigN (0:X))) else(
 O E)
def KO(a0:X6)(a1:Xc):W Y:= (KR a0).bind fun r1=> if r1 then(
 (L1 a0 a1).bind fun r3=>
 O r3) else(
 O E)
def Ec(a0:V X):W (V X):= (BM (0:X) (a0.length:X) 8).bind fun n1=> if Ad (zF n1 (0:X)).length a0.length 8 then(
 O ((zF n1 (0:X))++a0)) else U
def KY(a0:X2)(a1:X):W X:= if(a1==a0.A) then(
 O a0.B) else(
 if(a1==a0.B) then(
 O a0.A)
 else(
 O (-1:X)))
def Im(rec_:X3→X→X→(V X)→X9→(V (V X))→W (V (V X)))(a1 a2:X)(a3:V X)(v6 r11:X)(a0:X3)(y7:X9)(v8:V (V X))(Pv:X→(V (V X))→W (V (V X)))(v16:Y):W (V (V X)):= if v16 then(
 (Ec a3).bind fun r18=>
 if Ad r18.length ([v6]:V X).length 8 then(
 (rec_ a0 r11 a2 (r18++([v6]:V X)) y7 v8).bind fun r20=>
 Pv (zK .i64 (v6+(1:X))) r20)
 else U) else(
 Pv (zK .i64 (v6+(1:X))) v8)
def GL(rec_:X3→X→X→(V X)→X9→(V (V X))→W (V (V X)))(a1 a2:X)(a3:V X)(a0:X3)(y7:X9):Z→X→(V (V X))→W (V (V X))
| 0,_,_=>U
| n+1,v6,v8=>
 if(decide (v6<(a0.Segments.length:X))) then(
 (ix a0.Segments v6).bind fun x10=>
 (KY x10 a1).bind fun r11=>
 if(decide ((0:X)≤r11)) then(
  if decide ((0:X)≤r11)&&decide (r11<(8:X)) then(
  (ix ([y7.i0,y7.i1,y7.i2,y7.i3,y7.i4,y7.i5,y7.i6,y7.i7]:V Y) r11).bind fun x14=>
  Im rec_ a1 a2 a3 v6 r11 a0 y7 v8 (GL rec_ a1 a2 a3 a0 y7 n) (!x14))
  else U)
 else(
  Im rec_ a1 a2 a3 v6 r11 a0 y7 v8 (GL rec_ a1 a2 a3 a0 y7 n) E))
 else(
 O v8)
def QQ(rec_:X3→X→X→(V X)→X9→(V (V X))→W (V (V X)))(a0:X3)(a1 a2:X)(a3:V X)(a4:X9)(a5:V (V X)):W (V (V X)):= if(a1==a2) then(
 (Ec a3).bind fun r2=>
 if Ad a5.length ([r2]:V (V X)).length 24 then(
 O (a5++([r2]:V (V X))))
 else U) else(
 if decide ((0:X)≤a1)&&decide (a1<(8:X)) then(
 GL rec_ a1 a2 a3 a0 (⟨((X9.set a4 (zB a1) F)).i0,((X9.set a4 (zB a1) F)).i1,((X9.set a4 (zB a1) F)).i2,((X9.set a4 (zB a1) F)).i3,((X9.set a4 (zB a1) F)).i4,((X9.set a4 (zB a1) F)).i5,((X9.set a4 (zB a1) F)).i6,((X9.set a4 (zB a1) F)).i7⟩:X9) bigN (0:X) a5)
 else U)
def GM:Z→X3→X→X→(V X)→X9→(V (V X))→W (V (V X))
| 0,_,_,_,_,_,_=>U
| n+1,a0,a1,a2,a3,a4,a5=>QQ (GM n) a0 a1 a2 a3 a4 a5
def TT(a0:X3)(a1 a2:X)(a3:V X)(a4:X9)(a5:V (V X)):W (V (V X)):=GM bigN a0 a1 a2 a3 a4 a5
def Ni(a0:X3)(a1 a2:X):W (V (V X)):= (Dn a0).bind fun r1=> if r1 then(
 (Bv a1 (a0.Points.length:X)).bind fun r3=>
 if r3 then(
 (Bv a2 (a0.Points.length:X)).bind fun r5=>
 if r5 then(
  (TT a0 a1 a2 ([]:V X) (⟨E,E,E,E,E,E,E,E⟩:X9) ([]:V (V X))).bind fun r7=>
  O r7)
 else(
  O ([]:V (V X))))
 else(
 O ([]:V (V X)))) else(
 O ([]:V (V X)))
def Iz(a1:V X)(a0:X3):Z→X→X→W X
| 0,_,_=>U
| n+1,v3,v4=>
 if(decide (v4<(a1.length:X))) then(
 (ix a1 v4).bind fun x6=>
 (Bv x6 (a0.Segments.length:X)).bind fun r7=>
 if r7 then(
  (ix a0.Segments x6).bind fun x9=>
  Iz a1 a0 n (zK .i64 (v3+x9.Minutes)) (zK .i64 (v4+(1:X))))
 else(
  O (-1:X)))
 else(
 O v3)
def GS(a0:X3)(a1:V X):W X:= (Dn a0).bind fun r1=> if r1 then(
 Iz a1 a0 bigN (0:X) (0:X)) else(
 O (-1:X))
def Fw(r1:(V (V X)))(a0:X3):Z→(V X)→X→W ((V X) × Y)
| 0,_,_=>U
| n+1,v4,v5=>
 if(decide (v5<(r1.length:X))) then(
 (ix r1 v5).bind fun x7=>
 (GS a0 x7).bind fun r9=>
 (GS a0 v4).bind fun r10=>
 if(decide (r9<r10)) then(
  Fw r1 a0 n x7 (zK .i64 (v5+(1:X))))
 else(
  Fw r1 a0 n v4 (zK .i64 (v5+(1:X)))))
 else(
 O (v4,F))
def MX(a0:X3)(a1 a2:X):W ((V X) × Y):= (Ni a0 a1 a2).bind fun r1=> if((r1.length:X)==(0:X)) then(
 O (([]:V X),E)) else(
 (ix r1 (0:X)).bind fun x3=>
 Fw r1 a0 bigN x3 (0:X))
def Il(r14:X)(a2:V X)(v6:X)(a0:X3)(v7:X9)(v8:V X)(Sd:X→X→X9→(V X)→W ((V X) × Y))(v19:Y):W ((V X) × Y):= if v19 then(
 O (([]:V X),E)) else(
 if decide ((0:X)≤r14)&&decide (r14<(8:X)) then(
 if Ad v8.length ([r14]:V X).length 8 then(
  Sd r14 (zK .i64 (v6+(1:X))) (⟨((X9.set v7 (zB r14) F)).i0,((X9.set v7 (zB r14) F)).i1,((X9.set v7 (zB r14) F)).i2,((X9.set v7 (zB r14) F)).i3,((X9.set v7 (zB r14) F)).i4,((X9.set v7 (zB r14) F)).i5,((X9.set v7 (zB r14) F)).i6,((X9.set v7 (zB r14) F)).i7⟩:X9) (v8++([r14]:V X)))
 else U)
 else U)
def GK(a2:V X)(a0:X3):Z→X→X→X9→(V X)→W ((V X) × Y)
| 0,_,_,_,_=>U
| n+1,v5,v6,v7,v8=>
 if(decide (v6<(a2.length:X))) then(
 (ix a2 v6).bind fun x10=>
 (Bv x10 (a0.Segments.length:X)).bind fun r11=>
 if r11 then(
  (ix a0.Segments x10).bind fun x13=>
  (KY x13 v5).bind fun r14=>
  if(decide (r14<(0:X))) then(
  Il r14 a2 v6 a0 v7 v8 (GK a2 a0 n) F)
  else(
  if decide ((0:X)≤r14)&&decide (r14<(8:X)) then(
   (ix ([v7.i0,v7.i1,v7.i2,v7.i3,v7.i4,v7.i5,v7.i6,v7.i7]:V Y) r14).bind fun x17=>
   Il r14 a2 v6 a0 v7 v8 (GK a2 a0 n) x17)
  else U))
 else(
  O (([]:V X),E)))
 else(
 O (v8,F))
def Ik(a0:X3)(a1:X)(a2:V X):W ((V X) × Y):= (Bv a1 (a0.Points.length:X)).bind fun r1=> if r1 then(
 if decide ((0:X)≤a1)&&decide (a1<(8:X)) then(
 GK a2 a0 bigN a1 (0:X) (⟨((X9.set (⟨E,E,E,E,E,E,E,E⟩:X9) (zB a1) F)).i0,((X9.set (⟨E,E,E,E,E,E,E,E⟩:X9) (zB a1) F)).i1,((X9.set (⟨E,E,E,E,E,E,E,E⟩:X9) (zB a1) F)).i2,((X9.set (⟨E,E,E,E,E,E,E,E⟩:X9) (zB a1) F)).i3,((X9.set (⟨E,E,E,E,E,E,E,E⟩:X9) (zB a1) F)).i4,((X9.set (⟨E,E,E,E,E,E,E,E⟩:X9) (zB a1) F)).i5,((X9.set (⟨E,E,E,E,E,E,E,E⟩:X9) (zB a1) F)).i6,((X9.set (⟨E,E,E,E,E,E,E,E⟩:X9) (zB a1) F)).i7⟩:X9) ([a1]:V X))
 else U) else(
 O (([]:V X),E))
def Eb(a0:X3)(a1:X)(a2:V X):W (V X):= (Dn a0).bind fun r1=> if r1 then(
 (Ik a0 a1 a2).bind fun r3=>
 O r3.1) else(
 O ([]:V X))
def Fz(a0:X3)(a1:X)(a2:V X):W Y:= (Dn a0).bind fun r1=> if r1 then(
 (Ik a0 a1 a2).bind fun r3=>
 O r3.2) else(
 O E)
def FA(a0:X4)(a1:X2):W X:= if a0.Slow then(
 O (zK .i64 ((2:X)*a1.Minutes))) else(
 O a1.Minutes)
def IJ(a0:X3)(a1:X)(a2:X4):W Y:= (Dn a0).bind fun r1=> if r1 then(
 (EJ a2).bind fun r3=>
 if r3 then(
 (Bv a1 (a0.Segments.length:X)).bind fun r5=>
 O r5)
 else(
 O E)) else(
 O E)
def QV(a0:X4):W X:= if a0.Slow then(
 O (zK .i64 (zE a0.Draught (50:X)))) else(
 O (zK .i64 (zE a0.Draught (20:X))))
def QU(a0:X4):W X:= (QV a0).bind fun r1=> O (zK .i64 ((zK .i64 (a0.Draught+r1))+(50:X)))
def N9(a0:X3)(a1:X)(a2:X4):W X:= (IJ a0 a1 a2).bind fun r1=> if r1 then(
 (QU a2).bind fun r3=>
 (ix a0.Segments a1).bind fun x4=>
 O (zK .i64 (r3 - x4.Depth))) else(
 O (0:X))
def IS(a0:X→W Y)(v2:X)(Gf:Y→X→(V X5)→W (V X5))(v11:Y)(v12:V X5):W (V X5):= Gf v11 (zK .i64 (v2+(1:X))) v12
def La(a0:X→W Y)(v2:X)(Gf:Y→X→(V X5)→W (V X5))(v9:V X5):W (V X5):= (ix v9 (zK .i64 ((v9.length:X) - (1:X)))).bind fun x10=> IS a0 v2 Gf F (v9.set (zB (zK .i64 ((v9.length:X) - (1:X)))) (⟨x10.From,v2⟩:X5))
def FI(a0:X→W Y):Z→Y→X→(V X5)→W (V X5)
| 0,_,_,_=>U
| n+1,v1,v2,v3=>
 if(decide (v2≤(2880:X))) then(
 (a0 v2).bind fun r5=>
 if r5 then(
  if v1 then(
  La a0 v2 (FI a0 n) v3)
  else(
  if Ad v3.length ([(⟨v2,(0:X)⟩:X5)]:V X5).length 16 then(
   La a0 v2 (FI a0 n) (v3++([(⟨v2,(0:X)⟩:X5)]:V X5)))
  else U))
 else(
  IS a0 v2 (FI a0 n) E v3))
 else(
 O v3)
def NG(a0:X→W Y):W (V X5):= FI a0 bigN E (0:X) ([]:V X5)
def Nq(a0 a1:X):W X:= (L6 a1).bind fun r1=> if r1 then(
 if a1==0 then U else
 if a1==0 then U else
 if(decide ((zK .i64 (zE a1 (2:X)))≤(zK .i64 (zI (zK .i64 ((zK .i64 (zI a0 a1))+a1)) a1)))) then(
 if(zK .i64 ((zK .i64 (zE a1 (2:X)))*(zK .i64 (zE a1 (2:X)))))==0 then U else
 O (zK .i64 (0 - (zK .i64 (zE (zK .i64 ((zK .i64 ((40000:X)*(zK .i64 ((zK .i64 (zI (zK .i64 ((zK .i64 (zI a0 a1))+a1)) a1)) - (zK .i64 (zE a1 (2:X)))))))*(zK .i64 ((zK .i64 (zE a1 (2:X))) - (zK .i64 ((zK .i64 (zI (zK .i64 ((zK .i64 (zI a0 a1))+a1)) a1)) - (zK .i64 (zE a1 (2:X))))))))) (zK .i64 ((zK .i64 (zE a1 (2:X)))*(zK .i64 (zE a1 (2:X))))))))))
 else(
 if(zK .i64 ((zK .i64 (zE a1 (2:X)))*(zK .i64 (zE a1 (2:X)))))==0 then U else
 O (zK .i64 (zE (zK .i64 ((zK .i64 ((40000:X)*(zK .i64 (zI (zK .i64 ((zK .i64 (zI a0 a1))+a1)) a1))))*(zK .i64 ((zK .i64 (zE a1 (2:X))) - (zK .i64 (zI (zK .i64 ((zK .i64 (zI a0 a1))+a1)) a1)))))) (zK .i64 ((zK .i64 (zE a1 (2:X)))*(zK .i64 (zE a1 (2:X))))))))) else(
 O (0:X))
def IC(a1:X)(a0:Xn):Z→X→X→W X
| 0,_,_=>U
| n+1,v1,v2=>
 if(decide (v2<(a0.Parts.length:X))) then(
 (ix a0.Parts v2).bind fun x4=>
 (Nq (zK .i64 (a1+x4.Phase)) x4.Period).bind fun r5=>
 IC a1 a0 n (zK .i64 (v1+(zK .i64 (zE (zK .i64 (x4.Amp*r5)) (10000:X))))) (zK .i64 (v2+(1:X))))
 else(
 O v1)
def QX(a0:Xn)(a1:X):W X:= IC a1 a0 bigN a0.Mean (0:X)
def Fy(a1:X)(a0:Xe):Z→X→X→W X
| 0,_,_=>U
| n+1,v1,v2=>
 if(decide (v2<(a0.Surges.length:X))) then(
 (ix a0.Surges v2).bind fun x4=>
 if(decide (x4.From≤a1)) then(
  Fy a1 a0 n v2 (zK .i64 (v2+(1:X))))
 else(
  Fy a1 a0 n v1 (zK .i64 (v2+(1:X)))))
 else(
 O v1)
def N3(a0:Xe)(a1:X):W X:= Fy a1 a0 bigN (0:X) (0:X)
def N2(a0:Xe)(a1:X):W X:= (QX a0.Tide a1).bind fun r1=> (N3 a0 a1).bind fun r2=> (ix a0.Surges r2).bind fun x3=> O (zK .i64 (r1+x3.Low))
def QS(a0:X)(c0:Xe)(c1:X):W Y:= (N2 c0 a0).bind fun r1=> O (decide (c1≤r1))
def Na(a0:Xe)(a1:X):W (V X5):= (GO a0).bind fun r1=> if r1 then(
 (NG (fun z0=>QS z0 a0 a1)).bind fun r3=>
 O r3) else(
 O ([]:V X5))
def Nb(a0:X3)(a1:X)(a2:X4):W X:= (Dn a0).bind fun r1=> if r1 then(
 (EJ a2).bind fun r3=>
 if r3 then(
 (Bv a1 (a0.Segments.length:X)).bind fun r5=>
 if r5 then(
  (ix a0.Segments a1).bind fun x7=>
  (FA a2 x7).bind fun r9=>
  O r9)
 else(
  O (0:X)))
 else(
 O (0:X))) else(
 O (0:X))
def FD(a0:V X5):Z→X→W Y
| 0,_=>U
| n+1,v1=>
 if(decide (v1<(a0.length:X))) then(
 (ix a0 v1).bind fun x3=>
 if(decide (x3.From<(0:X))) then(
  O E)
 else(
  if(decide (x3.To<x3.From)) then(
  O E)
  else(
  if(decide ((2880:X)<x3.To)) then(
   O E)
  else(
   if(decide ((0:X)<v1)) then(
   (ix a0 (zK .i64 (v1 - (1:X)))).bind fun x8=>
   if(decide (x3.From≤(zK .i64 (x8.To+(1:X))))) then(
    O E)
   else(
    FD a0 n (zK .i64 (v1+(1:X)))))
   else(
   FD a0 n (zK .i64 (v1+(1:X))))))))
 else(
 O F)
def KZ(a0:V X5):W Y:= FD a0 bigN (0:X)
def FB(a1:X)(a0:V X5):Z→X→(V X5)→W (V X5)
| 0,_,_=>U
| n+1,v5,v6=>
 if(decide (v5<(a0.length:X))) then(
 (ix a0 v5).bind fun x8=>
 if(decide (a1≤(zK .i64 (x8.To - x8.From)))) then(
  if Ad v6.length ([(⟨x8.From,(zK .i64 (x8.To - a1))⟩:X5)]:V X5).length 16 then(
  FB a1 a0 n (zK .i64 (v5+(1:X))) (v6++([(⟨x8.From,(zK .i64 (x8.To - a1))⟩:X5)]:V X5)))
  else U)
 else(
  FB a1 a0 n (zK .i64 (v5+(1:X))) v6))
 else(
 O v6)
def QW(a0:V X5)(a1:X):W (V X5):= (KZ a0).bind fun r1=> if r1 then(
 (D7 a1).bind fun r3=>
 if r3 then(
 FB a1 a0 bigN (0:X) ([]:V X5))
 else(
 O ([]:V X5))) else(
 O ([]:V X5))
def Nm(a0:Xe)(a1:X3)(a2:X)(a3:X4):W (V X5):= (GO a0).bind fun r1=> if r1 then(
 (IJ a1 a2 a3).bind fun r3=>
 if r3 then(
 (N9 a1 a2 a3).bind fun r5=>
 (Na a0 r5).bind fun r6=>
 (Nb a1 a2 a3).bind fun r7=>
 (QW r6 r7).bind fun r9=>
 O r9)
 else(
 O ([]:V X5))) else(
 O ([]:V X5))
def IQ(a4:V X)(a0:Xe)(a1:X3)(a2:X4)(y11:V X)(y12:X):Z→X→(V Y)→(V X)→(V (V X5))→W (Xm × Y)
| 0,_,_,_,_=>U
| n+1,v13,v14,v15,v16=>
 if(decide (v13<y12)) then(
 (ix y11 v13).bind fun x18=>
 (ix a1.Points x18).bind fun x19=>
 if Ad v14.length ([x19.Wait]:V Y).length 1 then(
  (ix a4 v13).bind fun x21=>
  (ix a1.Segments x21).bind fun x22=>
  (FA a2 x22).bind fun r23=>
  if Ad v15.length ([r23]:V X).length 8 then(
  (Nm a0 a1 x21 a2).bind fun r25=>
  if Ad v16.length ([r25]:V (V X5)).length 24 then(
   IQ a4 a0 a1 a2 y11 y12 n (zK .i64 (v13+(1:X))) (v14++([x19.Wait]:V Y)) (v15++([r23]:V X)) (v16++([r25]:V (V X5))))
  else U)
  else U)
 else U)
 else(
 O ((⟨v14,v15,v16⟩:Xm),F))
def IP(a3:X)(a4:V X)(a0:Xe)(a1:X3)(a2:X4)(v7:Y):W (Xm × Y):= if v7 then(
 O ((⟨([]:V Y),([]:V X),([]:V (V X5))⟩:Xm),E)) else(
 (Eb a1 a3 a4).bind fun r9=>
 (bnd (r9.length:X) (a4.length:X) (0:X) r9.length).bind fun p10=>
 IQ a4 a0 a1 a2 ((r9.drop p10.1).take (p10.2 - p10.1)) (((r9.drop p10.1).take (p10.2 - p10.1)).length:X) bigN (0:X) ([]:V Y) ([]:V X) ([]:V (V X5)))
def IN(a0:Xe)(a1:X3)(a2:X4)(a3:X)(a4:V X):W (Xm × Y):= (GO a0).bind fun r1=> if r1 then(
 (EJ a2).bind fun r3=>
 if r3 then(
 (Fz a1 a3 a4).bind fun r5=>
 if r5 then(
  IP a3 a4 a0 a1 a2 ((a4.length:X)==(0:X)))
 else(
  IP a3 a4 a0 a1 a2 F))
 else(
 IP a3 a4 a0 a1 a2 F)) else(
 IP a3 a4 a0 a1 a2 F)
def L2(a2:V X)(a0:X6)(a1:Xc)(v4:Y):W (Xm × Y):= if v4 then(
 O ((⟨([]:V Y),([]:V X),([]:V (V X5))⟩:Xm),E)) else(
 (ix a0.Fleet a1.Ship).bind fun x6=>
 (IN a0.Forecast a0.Chart x6 a1.From a2).bind fun r7=>
 O (r7.1,r7.2))
def ID(a0:X6)(a1:Xc)(a2:V X):W (Xm × Y):= (Eb a0.Chart a1.From a2).bind fun r1=> if((r1.length:X)==(0:X)) then(
 L2 a2 a0 a1 F) else(
 (ix r1 (zK .i64 ((r1.length:X) - (1:X)))).bind fun x3=>
 L2 a2 a0 a1 (x3 !=a1.To))
def Iv(a1:X)(a0:V X5):Z→X→W Y
| 0,_=>U
| n+1,v1=>
 if(decide (v1<(a0.length:X))) then(
 (ix a0 v1).bind fun x3=>
 (BT a1 x3.From x3.To).bind fun r4=>
 if r4 then(
  O F)
 else(
  Iv a1 a0 n (zK .i64 (v1+(1:X)))))
 else(
 O E)
def N4(a0:V X5)(a1:X):W Y:= Iv a1 a0 bigN (0:X)
def Iw(a1:X)(a0:V X5):Z→X→W X
| 0,_=>U
| n+1,v3=>
 if(decide (v3<(a0.length:X))) then(
 (ix a0 v3).bind fun x5=>
 if(decide (a1≤x5.To)) then(
  O (if x5.From<a1 then a1 else x5.From))
 else(
  Iw a1 a0 n (zK .i64 (v3+(1:X)))))
 else(
 O (-1:X))
def Nc(a0:V X5)(a1:X):W X:= (KZ a0).bind fun r1=> if r1 then(
 Iw a1 a0 bigN (0:X)) else(
 O (-1:X))
def IR(v4 r10:X)(a0:Xm)(v5:V X)(Sg:X→(V X)→W ((V X) × Y))(v14:Y):W ((V X) × Y):= if v14 then(
 O (([]:V X),E)) else(
 if Ad v5.length ([r10]:V X).length 8 then(
 Sg (zK .i64 (v4+(1:X))) (v5++([r10]:V X)))
 else U)
def EL(a0:Xm):Z→X→(V X)→W ((V X) × Y)
| 0,_,_=>U
| n+1,v4,v5=>
 if(decide (v4<(a0.sure.length:X))) then(
 (ix v5 (zK .i64 (v4 - (1:X)))).bind fun x7=>
 (ix a0.minutes (zK .i64 (v4 - (1:X)))).bind fun x8=>
 (ix a0.sure v4).bind fun x9=>
 (Nc x9 (zK .i64 (x7+x8))).bind fun r10=>
 if(decide (r10<(0:X))) then(
  IR v4 r10 a0 v5 (EL a0 n) F)
 else(
  if(decide ((zK .i64 (x7+x8))<r10)) then(
  (ix a0.waits v4).bind fun x13=>
  IR v4 r10 a0 v5 (EL a0 n) (!x13))
  else(
  IR v4 r10 a0 v5 (EL a0 n) E)))
 else(
 O (v5,F))
def NE(a0:Xm)(a1:X):W ((V X) × Y):= (ix a0.sure (0:X)).bind fun x1=> (N4 x1 a1).bind fun r2=> if r2 then(
 EL a0 bigN (1:X) ([a1]:V X)) else(
 O (([]:V X),E))
def Ix(a1:X)(a5 a4:V X)(a0:X3)(a2:X4)(r6:(V X)):Z→X→(V X1)→W (V X1)
| 0,_,_=>U
| n+1,v7,v8=>
 if(decide (v7<(a4.length:X))) then(
 (ix a4 v7).bind fun x10=>
 (ix a5 v7).bind fun x11=>
 (D7 x11).bind fun r12=>
 if r12 then(
  (ix a0.Segments x10).bind fun x14=>
  (ix r6 v7).bind fun x15=>
  (FA a2 x14).bind fun r16=>
  if Ad v8.length ([(⟨a1,x10,(x15==x14.A),x11,(zK .i64 (x11+r16))⟩:X1)]:V X1).length 40 then(
  Ix a1 a5 a4 a0 a2 r6 n (zK .i64 (v7+(1:X))) (v8++([(⟨a1,x10,(x15==x14.A),x11,(zK .i64 (x11+r16))⟩:X1)]:V X1)))
  else U)
 else(
  O ([]:V X1)))
 else(
 O v8)
def Ng(a0:X3)(a1:X)(a2:X4)(a3:X)(a4 a5:V X):W (V X1):= (Fz a0 a3 a4).bind fun r1=> if r1 then(
 (EJ a2).bind fun r3=>
 if r3 then(
 if((a4.length:X) !=(a5.length:X)) then(
  O ([]:V X1))
 else(
  (Eb a0 a3 a4).bind fun r6=>
  Ix a1 a5 a4 a0 a2 r6 bigN (0:X) ([]:V X1)))
 else(
 O ([]:V X1))) else(
 O ([]:V X1))
def MW(a0:X3)(a1:X4)(a2 a3:V X):W X:= (GS a0 a2).bind fun r1=> if(decide (r1<(0:X))) then(
 O (-1:X)) else(
 (EJ a1).bind fun r3=>
 if r3 then(
 if((a2.length:X)==(0:X)) then(
  O (-1:X))
 else(
  if((a2.length:X) !=(a3.length:X)) then(
  O (-1:X))
  else(
  (ix a3 (zK .i64 ((a2.length:X) - (1:X)))).bind fun x7=>
  (D7 x7).bind fun r9=>
  if r9 then(
   (ix a2 (zK .i64 ((a2.length:X) - (1:X)))).bind fun x11=>
   (ix a0.Segments x11).bind fun x12=>
   (FA a1 x12).bind fun r13=>
   O (zK .i64 (x7+r13)))
  else(
   O (-1:X)))))
 else(
 O (-1:X)))
def H0(a2:Xm)(a4 r5:X)(r4:(V X1)):Z→X→X→W (X0 × Y)
| 0,_,_=>U
| n+1,v6,v7=>
 if(decide (v6<(a2.minutes.length:X))) then(
 (ix a2.minutes v6).bind fun x9=>
 H0 a2 a4 r5 r4 n (zK .i64 (v6+(1:X))) (zK .i64 (v7 - x9)))
 else(
 O ((⟨a4,r5,v7,r4⟩:X0),(decide (r5≤(2880:X)))))
def IK(a0:X6)(a1:Xc)(a2:Xm)(a3:V X)(a4:X):W (X0 × Y):= (NE a2 a4).bind fun r1=> if r1.2 then(
 (ix a0.Fleet a1.Ship).bind fun x3=>
 (Ng a0.Chart a1.Ship x3 a1.From a3 r1.1).bind fun r4=>
 (MW a0.Chart x3 a3 r1.1).bind fun r5=>
 H0 a2 a4 r5 r4 bigN (0:X) (zK .i64 (r5 - a1.Ready))) else(
 O ((⟨(0:X),(0:X),(0:X),([]:V X1)⟩:X0),E))
def GR(r3:(V X) × Y)(v7:X)(a0:X6)(a1:Xc)(r4:Xm × Y)(Se:X→(V X0)→W (V X0))(v14:V X0):W (V X0):= Se (zK .i64 (v7+(15:X))) v14
def EI(r3:(V X) × Y)(a0:X6)(a1:Xc)(r4:Xm × Y):Z→X→(V X0)→W (V X0)
| 0,_,_=>U
| n+1,v7,v8=>
 if(decide (v7≤a1.Due)) then(
 if(decide ((v8.length:X)<(8:X))) then(
  (IK a0 a1 r4.1 r3.1 v7).bind fun r11=>
  if r11.2 then(
  if Ad v8.length ([r11.1]:V X0).length 48 then(
   GR r3 v7 a0 a1 r4 (EI r3 a0 a1 r4 n) (v8++([r11.1]:V X0)))
  else U)
  else(
  GR r3 v7 a0 a1 r4 (EI r3 a0 a1 r4 n) v8))
 else(
  O v8))
 else(
 O v8)
def DE(a0:X6)(a1:Xc):W (V X0):= (KO a0 a1).bind fun r1=> if r1 then(
 (MX a0.Chart a1.From a1.To).bind fun r3=>
 (ID a0 a1 r3.1).bind fun r4=>
 if r3.2 then(
 if r4.2 then(
  EI r3 a0 a1 r4 bigN a1.Ready ([]:V X0))
 else(
  O ([]:V X0)))
 else(
 O ([]:V X0))) else(
 O ([]:V X0))
def Jj(a1:X0→W Y)(a0:V X0):Z→X→W X
| 0,_=>U
| n+1,v1=>
 if(decide (v1<(a0.length:X))) then(
 (ix a0 v1).bind fun x3=>
 (a1 x3).bind fun r4=>
 if r4 then(
  O v1)
 else(
  Jj a1 a0 n (zK .i64 (v1+(1:X)))))
 else(
 O (-1:X))
def Ro(a0:V X0)(a1:X0→W Y):W X:= Jj a1 a0 bigN (0:X)
def Lu(a1:X0→W Y)(v4:X)(k_slices_DeleteFunc_Option_1:X→X→(V X0)→W (V X0))(v12:X)(v13:V X0):W (V X0):= k_slices_DeleteFunc_Option_1 v12 (zK .i64 (v4+(1:X))) v13
def H6(a1:X0→W Y):Z→X→X→(V X0)→W (V X0)
| 0,_,_,_=>U
| n+1,v3,v4,v5=>
 if(decide (v4<(v5.length:X))) then(
 (ix v5 v4).bind fun x7=>
 (a1 x7).bind fun r9=>
 if r9 then(
  Lu a1 v4 (H6 a1 n) v3 v5)
 else(
  (ix v5 v3).bind fun x11=>
  Lu a1 v4 (H6 a1 n) (zK .i64 (v3+(1:X))) (v5.set (zB v3) x7)))
 else(
 (bnd (v5.length:X) (v5.length:X) v3 v5.length).bind fun p14=>
 (bnd ((v5.take p14.1++zF (p14.2 - p14.1) (⟨(0:X),(0:X),(0:X),([]:V X1)⟩:X0)).length:X) v3 0 (v5.take p14.1++zF (p14.2 - p14.1) (⟨(0:X),(0:X),(0:X),([]:V X1)⟩:X0)).length).bind fun p15=>
 O ((v5.take p14.1++zF (p14.2 - p14.1) (⟨(0:X),(0:X),(0:X),([]:V X1)⟩:X0)).take p15.2))
def Om(a0:V X0)(a1:X0→W Y):W (V X0):= (Ro a0 a1).bind fun r1=> if(r1==(-1:X)) then(
 O a0) else(
 H6 a1 bigN r1 (zK .i64 (r1+(1:X))) a0)
def Jk(a1:X1→W Y)(a0:V X1):Z→X→W X
| 0,_=>U
| n+1,v1=>
 if(decide (v1<(a0.length:X))) then(
 (ix a0 v1).bind fun x3=>
 (a1 x3).bind fun r4=>
 if r4 then(
  O v1)
 else(
  Jk a1 a0 n (zK .i64 (v1+(1:X)))))
 else(
 O (-1:X))
def Rp(a0:V X1)(a1:X1→W Y):W X:= Jk a1 a0 bigN (0:X)
def Rm(a0:V X1)(a1:X1→W Y):W Y:= (Rp a0 a1).bind fun r1=> O (decide ((0:X)≤r1))
def Ji(a1:X7→W Y)(a0:V X7):Z→X→W X
| 0,_=>U
| n+1,v1=>
 if(decide (v1<(a0.length:X))) then(
 (ix a0 v1).bind fun x3=>
 (a1 x3).bind fun r4=>
 if r4 then(
  O v1)
 else(
  Ji a1 a0 n (zK .i64 (v1+(1:X)))))
 else(
 O (-1:X))
def Rn(a0:V X7)(a1:X7→W Y):W X:= Ji a1 a0 bigN (0:X)
def Rl(a0:V X7)(a1:X7→W Y):W Y:= (Rn a0 a1).bind fun r1=> O (decide ((0:X)≤r1))
def KT(a0:X7)(c0:X1):W Y:= if(a0.Segment==c0.Segment) then(
 O (decide ((if a0.From<c0.Start then c0.Start else a0.From)<(if c0.End<a0.To then c0.End else a0.To)))) else(
 O E)
def N5(a0:X1)(a1:V X7):W Y:= (Rl a1 (fun z0=>KT z0 a0)).bind fun r1=> O r1
def Nl(a0:X1)(c0:V X7):W Y:= (N5 a0 c0).bind fun r1=> O r1
def GT(a0:X0)(a1:V X7):W Y:= (Rm a0.Passages (fun z0=>Nl z0 a1)).bind fun r1=> O r1
def KV(a0:X0)(c0:V X7):W Y:= (GT a0 c0).bind fun r1=> O r1
def CX(a0:X6)(a1:Xc)(a2:V X7):W (V X0):= (KO a0 a1).bind fun r1=> if r1 then(
 (GN a0.Chart a2).bind fun r3=>
 if r3 then(
 (DE a0 a1).bind fun r5=>
 (Om r5 (fun z0=>KV z0 a2)).bind fun r6=>
 O r6)
 else(
 O ([]:V X0))) else(
 O ([]:V X0))
def NF(a0 a1:Xk):W Y:= if(decide (a0.i0<a1.i0)) then(
 O F) else(
 if(a0.i0==a1.i0) then(
 O (decide (a0.i1<a1.i1)))
 else(
 O E))
def KW(a0 a1:X1):W Y:= O (decide ((if a0.Start<a1.Start then a1.Start else a0.Start)<(if a1.End<a0.End then a1.End else a0.End)))
def L9(a0 a1 a2:X):W Y:= O (decide ((IntKind.u64.wrap ((IntKind.u64.wrap (if a0<a1 then a1 else a0)) - (IntKind.u64.wrap (if a1<a0 then a1 else a0))))<(IntKind.u64.wrap a2)))
def Nv(a2 a3:X1)(v22:Y):W X:= if v22 then(
 O (3:X)) else(
 if(decide (a2.Start<a3.Start)) then(
 if(decide (a3.End<a2.End)) then(
  O (4:X))
 else(
  if(decide (a3.Start<a2.Start)) then(
  if(decide (a2.End<a3.End)) then(
   O (4:X))
  else(
   O (0:X)))
  else(
  O (0:X))))
 else(
 if(decide (a3.Start<a2.Start)) then(
  if(decide (a2.End<a3.End)) then(
  O (4:X))
  else(
  O (0:X)))
 else(
  O (0:X))))
def IG(a1:Xj)(a2 a3:X1)(v15 v16:Y):W X:= if v15 then(
 O (2:X)) else(
 if(a2.Toward==a3.Toward) then(
 (L9 a2.Start a3.Start a1.Gap).bind fun r19=>
 if r19 then(
  Nv a2 a3 F)
 else(
  (L9 a2.End a3.End a1.Gap).bind fun r21=>
  Nv a2 a3 r21))
 else(
 O (0:X)))
def Nu(a0:X3)(a1:Xj)(a2 a3:X1)(v7:Y):W X:= if v7 then(
 O (1:X)) else(
 if(a2.Ship==a3.Ship) then(
 O (0:X))
 else(
 if(a2.Toward==a3.Toward) then(
  IG a1 a2 a3 E a1.NoMeet)
 else(
  (KW a2 a3).bind fun r11=>
  if r11 then(
  if a1.NoMeet then(
   IG a1 a2 a3 F F)
  else(
   (ix a0.Segments a2.Segment).bind fun x14=>
   IG a1 a2 a3 (!x14.Meet) E))
  else(
  IG a1 a2 a3 E a1.NoMeet))))
def Nt(a0:X3)(a1:Xj)(a2 a3:X1)(v3:Y):W X:= if v3 then(
 O (0:X)) else(
 if(a2.Ship==a3.Ship) then(
 (KW a2 a3).bind fun r6=>
 Nu a0 a1 a2 a3 r6)
 else(
 Nu a0 a1 a2 a3 E))
def Ns(a0:X3)(a1:Xj)(a2 a3:X1):W X:= if(a2.Segment !=a3.Segment) then(
 Nt a0 a1 a2 a3 F) else(
 (Bv a2.Segment (a0.Segments.length:X)).bind fun r2=>
 Nt a0 a1 a2 a3 (!r2))
def IF(a3 a2:V X1)(v1:X)(a0:X3)(a1:Xj)(x3:X1)(Pw:X→W Y):Z→X→W Y
| 0,_=>U
| n+1,v4=>
 if(decide (v4<(a3.length:X))) then(
 (ix a3 v4).bind fun x6=>
 (Ns a0 a1 x3 x6).bind fun r7=>
 if(r7 !=(0:X)) then(
  O F)
 else(
  IF a3 a2 v1 a0 a1 x3 Pw n (zK .i64 (v4+(1:X)))))
 else(
 Pw (zK .i64 (v1+(1:X))))
def FE(a3 a2:V X1)(a0:X3)(a1:Xj):Z→X→W Y
| 0,_=>U
| n+1,v1=>
 if(decide (v1<(a2.length:X))) then(
 (ix a2 v1).bind fun x3=>
 IF a3 a2 v1 a0 a1 x3 (FE a3 a2 a0 a1 n) bigN (0:X))
 else(
 O E)
def Nr(a0:X3)(a1:Xj)(a2 a3:V X1):W Y:= FE a3 a2 a0 a1 bigN (0:X)
def L3(a0:V X0):W (V X0):= (BM (0:X) (a0.length:X) 48).bind fun n1=> if Ad (zF n1 (⟨(0:X),(0:X),(0:X),([]:V X1)⟩:X0)).length a0.length 48 then(
 O ((zF n1 (⟨(0:X),(0:X),(0:X),([]:V X1)⟩:X0))++a0)) else U
def KX(a0:X1)(a1:X3):W (X × X):= (ix a1.Segments a0.Segment).bind fun x1=> if a0.Toward then(
 O (x1.A,x1.B)) else(
 O (x1.B,x1.A))
def L5(a0:X3)(a1 a2:X1):W Xb:= (KX a1 a0).bind fun r1=> (KX a2 a0).bind fun r2=> O (⟨a1.Start,a2.End,r1.1,r2.2⟩:Xb)
def NB(a0:X3)(a1:V X4)(a2:X1):W Y:= (Bv a2.Ship (a1.length:X)).bind fun r1=> if r1 then(
 (Bv a2.Segment (a0.Segments.length:X)).bind fun r3=>
 if r3 then(
 (D7 a2.Start).bind fun r5=>
 if r5 then(
  if(decide ((2880:X)<a2.End)) then(
  O E)
  else(
  (ix a1 a2.Ship).bind fun x8=>
  (ix a0.Segments a2.Segment).bind fun x9=>
  (FA x8 x9).bind fun r10=>
  O (a2.End==(zK .i64 (a2.Start+r10)))))
 else(
  O E))
 else(
 O E)) else(
 O E)
def Nf(a0:X3)(a1:V X4)(a2:X1):W Y:= (Dn a0).bind fun r1=> if r1 then(
 (KQ a1).bind fun r3=>
 if r3 then(
 (NB a0 a1 a2).bind fun r5=>
 O r5)
 else(
 O E)) else(
 O E)
def H1(a1:V X4)(a2:V X1)(v1:X)(x7:X4)(a0:X3)(x4:X1)(Pz:X→(V Xb)→W ((V Xb) × Y)):Z→X→(V Xb)→W ((V Xb) × Y)
| 0,_,_=>U
| n+1,v8,v9=>
 if(decide (v8<x7.Tugs)) then(
 (L5 a0 x4 x4).bind fun r11=>
 if Ad v9.length ([r11]:V Xb).length 32 then(
  H1 a1 a2 v1 x7 a0 x4 Pz n (zK .i64 (v8+(1:X))) (v9++([r11]:V Xb)))
 else U)
 else(
 if(decide ((12:X)<(v9.length:X))) then(
  O (([]:V Xb),E))
 else(
  Pz (zK .i64 (v1+(1:X))) v9))
def FH(a1:V X4)(a2:V X1)(a0:X3):Z→X→(V Xb)→W ((V Xb) × Y)
| 0,_,_=>U
| n+1,v1,v2=>
 if(decide (v1<(a2.length:X))) then(
 (ix a2 v1).bind fun x4=>
 (Nf a0 a1 x4).bind fun r5=>
 if r5 then(
  (ix a1 x4.Ship).bind fun x7=>
  H1 a1 a2 v1 x7 a0 x4 (FH a1 a2 a0 n) bigN (0:X) v2)
 else(
  O (([]:V Xb),E)))
 else(
 O (v2,F))
def ND(a0:X3)(a1:V X4)(a2:V X1):W ((V Xb) × Y):= FH a1 a2 a0 bigN (0:X) ([]:V Xb)
def Ir(a0:V Xb):Z→X→W Y
| 0,_=>U
| n+1,v2=>
 if(decide (v2<(a0.length:X))) then(
 (ix a0 v2).bind fun x4=>
 if(decide (x4.From<(0:X))) then(
  O E)
 else(
  if(decide (x4.To≤x4.From)) then(
  O E)
  else(
  if(decide ((2880:X)<x4.To)) then(
   O E)
  else(
   (Bv x4.A (8:X)).bind fun r9=>
   if r9 then(
   (Bv x4.B (8:X)).bind fun r11=>
   if r11 then(
    Ir a0 n (zK .i64 (v2+(1:X))))
   else(
    O E))
   else(
   O E)))))
 else(
 O F)
def Iq(a0:V Xb):W Y:= if(decide ((12:X)<(a0.length:X))) then(
 O E) else(
 Ir a0 bigN (0:X))
def QY(a0:X)(a1:V X)(a2:V Xb):W Y:= (Iq a2).bind fun r1=> if r1 then(
 (D7 a0).bind fun r3=>
 if r3 then(
 (GY a1).bind fun r5=>
 O r5)
 else(
 O E)) else(
 O E)
def Iu(a0:X)(a1:V X)(a2 a3:Xb)(v8:Y):W (X × Y):= if v8 then(
 O ((0:X),E)) else(
 (ix a1 (zK .i64 ((zK .i64 ((8:X)*a2.B))+a3.A))).bind fun x10=>
 O ((zK .i64 (a0+x10)),F))
def QR(a0:X)(a1:V X)(a2 a3:Xb):W (X × Y):= (D7 a0).bind fun r1=> if r1 then(
 (GY a1).bind fun r3=>
 if r3 then(
 (Bv a2.B (8:X)).bind fun r5=>
 if r5 then(
  (Bv a3.A (8:X)).bind fun r7=>
  Iu a0 a1 a2 a3 (!r7))
 else(
  Iu a0 a1 a2 a3 F))
 else(
 Iu a0 a1 a2 a3 F)) else(
 Iu a0 a1 a2 a3 F)
def KP(a0:X)(a1:V X)(a2 a3:Xb):W Y:= (QR a0 a1 a2 a3).bind fun r1=> if r1.2 then(
 (Iq ([a2]:V Xb)).bind fun r3=>
 if r3 then(
 (Iq ([a3]:V Xb)).bind fun r5=>
 if r5 then(
  O (decide ((zK .i64 (a2.To+r1.1))≤a3.From)))
 else(
  O E))
 else(
 O E)) else(
 O E)
def IL(a0:X)(a1:V X)(a2:V Xb)(v2 v6:X)(x5:Xb)(v7:V X)(Py:X→(V X)→W (V X))(v14:Y):W (V X):= if v14 then(
 (ix v7 v2).bind fun x16=>
 if decide (v6<0) then U else
 Py (zK .i64 (v6+(1:X))) (v7.set (zB v2) (Bk .or .u64 x16 (Bs .u64 (1:X) v6)))) else(
 Py (zK .i64 (v6+(1:X))) v7)
def Ee(a0:X)(a1:V X)(a2:V Xb)(v2:X)(x5:Xb)(K0:X→(V X)→W (V X)):Z→X→(V X)→W (V X)
| 0,_,_=>U
| n+1,v6,v7=>
 if(decide (v6<(a2.length:X))) then(
 (ix a2 v6).bind fun x9=>
 if(v2 !=v6) then(
  (KP a0 a1 x5 x9).bind fun r11=>
  if r11 then(
  IL a0 a1 a2 v2 v6 x5 v7 (Ee a0 a1 a2 v2 x5 K0 n) F)
  else(
  (KP a0 a1 x9 x5).bind fun r13=>
  IL a0 a1 a2 v2 v6 x5 v7 (Ee a0 a1 a2 v2 x5 K0 n) r13))
 else(
  IL a0 a1 a2 v2 v6 x5 v7 (Ee a0 a1 a2 v2 x5 K0 n) E))
 else(
 K0 (zK .i64 (v2+(1:X))) v7)
def FG(a0:X)(a1:V X)(a2:V Xb):Z→X→(V X)→W (V X)
| 0,_,_=>U
| n+1,v2,v3=>
 if(decide (v2<(a2.length:X))) then(
 (ix a2 v2).bind fun x5=>
 Ee a0 a1 a2 v2 x5 (FG a0 a1 a2 n) bigN (0:X) v3)
 else(
 O v3)
def NA(a0:X)(a1:V X)(a2:V Xb):W (V X):= (BM (a2.length:X) (a2.length:X) 8).bind fun n1=> FG a0 a1 a2 bigN (0:X) (zF n1 (0:X))
def Lt(v8 v9:X):W X:= (ix ([0,1,2,2,3,3,3,3,4,4,4,4,4,4,4,4,5,5,5,5,5,5,5,5,5,5,5,5,5,5,5,5,6,6,6,6,6,6,6,6,6,6,6,6,6,6,6,6,6,6,6,6,6,6,6,6,6,6,6,6,6,6,6,6,7,7,7,7,7,7,7,7,7,7,7,7,7,7,7,7,7,7,7,7,7,7,7,7,7,7,7,7,7,7,7,7,7,7,7,7,7,7,7,7,7,7,7,7,7,7,7,7,7,7,7,7,7,7,7,7,7,7,7,7,7,7,7,7,8,8,8,8,8,8,8,8,8,8,8,8,8,8,8,8,8,8,8,8,8,8,8,8,8,8,8,8,8,8,8,8,8,8,8,8,8,8,8,8,8,8,8,8,8,8,8,8,8,8,8,8,8,8,8,8,8,8,8,8,8,8,8,8,8,8,8,8,8,8,8,8,8,8,8,8,8,8,8,8,8,8,8,8,8,8,8,8,8,8,8,8,8,8,8,8,8,8,8,8,8,8,8,8,8,8,8,8,8,8,8,8,8,8,8,8,8,8,8,8,8,8,8,8,8,8,8,8]:V zA) (IntKind.u8.wrap v8)).bind fun b10=> O (zK .i64 (v9+(zK .i64 (b10.toNat:X))))
def Ol(v5 v6:X):W X:= if(decide ((256:X)≤v5)) then(
 Lt (CA .u64 v5 8) (zK .i64 (v6+(8:X)))) else(
 Lt v5 v6)
def Oj(v2 v3:X):W X:= if(decide ((65536:X)≤v2)) then(
 Ol (CA .u64 v2 16) (zK .i64 (v3+(16:X)))) else(
 Ol v2 v3)
def Rk(a0:X):W X:= if(decide ((4294967296:X)≤a0)) then(
 Oj (CA .u64 a0 32) (32:X)) else(
 Oj a0 (0:X))
def Ls(a0:X):W X:= (Rk a0).bind fun r1=> O r1
def L8(a0:V X)(y5 v6:X)(v17 v18 v21:X)(v19:V Y)(Cw:X→(V Y)→(V X)→W X)(Sf:X→(V X)→W X)(v28:V X):W X:= if(v21==(0:X)) then(
 Cw (zK .i64 (v6+(1:X))) v19 v28) else(
 Sf (Bk .and .i64 (zK .i64 (v21 - (1:X))) v18) v28)
def GX(a0:V X)(y5 v6:X)(v17 v18:X)(v19:V Y)(Cw:X→(V Y)→(V X)→W X):Z→X→(V X)→W X
| 0,_,_=>U
| n+1,v21,v22=>
 if decide (v17<0) then U else
 (ix v19 (Bk .or .i64 v21 (Bs .i64 (1:X) v17))).bind fun x24=>
 if x24 then(
 (ix v22 v6).bind fun x26=>
 (ix v22 (Bk .andNot .i64 v18 v21)).bind fun x27=>
 L8 a0 y5 v6 v17 v18 v21 v19 Cw (GX a0 y5 v6 v17 v18 v19 Cw n) (v22.set (zB v6) (if(zK .i64 ((1:X)+x27))<x26 then(zK .i64 ((1:X)+x27)) else x26)))
 else(
 L8 a0 y5 v6 v17 v18 v21 v19 Cw (GX a0 y5 v6 v17 v18 v19 Cw n) v22)
def L7(a0:V X)(y5 v6:X)(v8:V X)(Cw:X→(V Y)→(V X)→W X)(v17 v18:X)(v19:V Y):W X:= (ix v8 v6).bind fun x20=> GX a0 y5 v6 v17 v18 v19 Cw bigN v18 (v8.set (zB v6) (a0.length:X))
def EK(a0:V X)(y5:X):Z→X→(V Y)→(V X)→W X
| 0,_,_,_=>U
| n+1,v6,v7,v8=>
 if(decide (v6<y5)) then(
 (Ls (IntKind.u64.wrap v6)).bind fun r10=>
 if decide ((zK .i64 (r10 - (1:X)))<0) then U else
 (ix v7 (Bk .andNot .i64 v6 (Bs .i64 (1:X) (zK .i64 (r10 - (1:X)))))).bind fun x12=>
 if x12 then(
  (ix a0 (zK .i64 (r10 - (1:X)))).bind fun x14=>
  (ix v7 v6).bind fun x15=>
  L7 a0 y5 v6 v8 (EK a0 y5 n) (zK .i64 (r10 - (1:X))) (Bk .andNot .i64 v6 (Bs .i64 (1:X) (zK .i64 (r10 - (1:X))))) (v7.set (zB v6) ((Bk .andNot .u64 (IntKind.u64.wrap (Bk .andNot .i64 v6 (Bs .i64 (1:X) (zK .i64 (r10 - (1:X)))))) x14)==(0:X))))
 else(
  (ix v7 v6).bind fun x16=>
  L7 a0 y5 v6 v8 (EK a0 y5 n) (zK .i64 (r10 - (1:X))) (Bk .andNot .i64 v6 (Bs .i64 (1:X) (zK .i64 (r10 - (1:X))))) (v7.set (zB v6) E)))
 else(
 (ix v8 (zK .i64 (y5 - (1:X)))).bind fun x30=>
 O x30)
def Ny(a0:V X):W X:= if decide ((a0.length:X)<0) then U else (BM (Bs .i64 (1:X) (a0.length:X)) (Bs .i64 (1:X) (a0.length:X)) 1).bind fun n2=> (BM (Bs .i64 (1:X) (a0.length:X)) (Bs .i64 (1:X) (a0.length:X)) 8).bind fun n3=> (ix (zF n2 E) (0:X)).bind fun x4=> EK a0 (Bs .i64 (1:X) (a0.length:X)) bigN (1:X) ((zF n2 E).set (zB (0:X)) F) (zF n3 (0:X))
def IH(rec_:Xh→W (Y × Xh))(a0:Xh)(v2:X)(EZ:X→(V X)→X→(V X)→(V X)→W (Y × Xh))(v22:V X)(v23:X)(v24 v25:V X):W (Y × Xh):= (ix v24 v2).bind fun x26=> if(x26==(0:X)) then(
 (bnd (v24.length:X) v2 0 v24.length).bind fun p28=>
 O (E,(⟨v22,v23,(v24.take p28.2),v25⟩:Xh))) else(
 EZ (zK .i64 (v2+(1:X))) v22 v23 v24 v25)
def L4(rec_:Xh→W (Y × Xh))(a0:Xh)(v2:X)(v3:V X)(v4:X)(v6:V X)(EZ:X→(V X)→X→(V X)→(V X)→W (Y × Xh))(v11:V X):W (Y × Xh):= (ix v11 v2).bind fun x12=> (ix v3 (a0.who.length:X)).bind fun x13=> if((Bk .andNot .u64 x12 x13)==(0:X)) then(
 if decide ((a0.who.length:X)<0) then U else
 if Ad v6.length ([v2]:V X).length 8 then(
 (rec_ (⟨v3,v4,(v11.set (zB v2) (Bk .or .u64 x12 (Bs .u64 (1:X) (a0.who.length:X)))),(v6++([v2]:V X))⟩:Xh)).bind fun r17=>
 if r17.1 then(
  O (F,r17.2))
 else(
  (bnd (r17.2.who.length:X) (a0.who.length:X) 0 r17.2.who.length).bind fun p19=>
  (ix r17.2.groups v2).bind fun x20=>
  if decide ((a0.who.length:X)<0) then U else
  IH rec_ a0 v2 EZ r17.2.sets r17.2.most (r17.2.groups.set (zB v2) (Bk .andNot .u64 x20 (Bs .u64 (1:X) (a0.who.length:X)))) (r17.2.who.take p19.2)))
 else U) else(
 IH rec_ a0 v2 EZ v3 v4 v11 v6)
def FF(rec_:Xh→W (Y × Xh))(a0:Xh):Z→X→(V X)→X→(V X)→(V X)→W (Y × Xh)
| 0,_,_,_,_,_=>U
| n+1,v2,v3,v4,v5,v6=>
 if(decide (v2≤(v5.length:X))) then(
 if(decide (v2<v4)) then(
  if(v2==(v5.length:X)) then(
  if Ad v5.length ([(0:X)]:V X).length 8 then(
   L4 rec_ a0 v2 v3 v4 v6 (FF rec_ a0 n) (v5++([(0:X)]:V X)))
  else U)
  else(
  L4 rec_ a0 v2 v3 v4 v6 (FF rec_ a0 n) v5))
 else(
  O (E,(⟨v3,v4,v5,v6⟩:Xh))))
 else(
 O (E,(⟨v3,v4,v5,v6⟩:Xh)))
def Nw(rec_:Xh→W (Y × Xh))(a0:Xh):W (Y × Xh):= if((a0.who.length:X)==(a0.sets.length:X)) then(
 O (F,a0)) else(
 FF rec_ a0 bigN (0:X) a0.sets a0.most a0.groups a0.who)
def Ed:Z→Xh→W (Y × Xh)
| 0,_=>U
| n+1,a0=>Nw (Ed n) a0
def TU(a0:Xh):W (Y × Xh):=Ed bigN a0
def N8(a0:X)(a1:V X)(a2:V Xb):W ((V X) × X × Y):= (QY a0 a1 a2).bind fun r1=> if r1 then(
 (NA a0 a1 a2).bind fun r3=>
 (Ny r3).bind fun r4=>
 (TU (⟨r3,r4,([]:V X),([]:V X)⟩:Xh)).bind fun r5=>
 O (r5.2.who,r5.2.most,F)) else(
 O (([]:V X),(0:X),E))
def GU(a0:X)(a1:V X)(a2:V Xb)(a3:X):W Y:= if(decide ((a2.length:X)≤a3)) then(
 O F) else(
 (N8 a0 a1 a2).bind fun r2=>
 O (decide (r2.2.1≤a3)))
def GW(a1:V X0)(a0:X6):Z→X→(V X1)→(V Xb)→W Y
| 0,_,_,_=>U
| n+1,v1,v2,v3=>
 if(decide (v1<(a1.length:X))) then(
 (ix a1 v1).bind fun x5=>
 if Ad v2.length x5.Passages.length 40 then(
  if(decide ((0:X)<(x5.Passages.length:X))) then(
  (ix x5.Passages (0:X)).bind fun x8=>
  (ix x5.Passages (zK .i64 ((x5.Passages.length:X) - (1:X)))).bind fun x9=>
  (L5 a0.Chart x8 x9).bind fun r10=>
  if Ad v3.length ([r10]:V Xb).length 32 then(
   GW a1 a0 n (zK .i64 (v1+(1:X))) (v2++x5.Passages) (v3++([r10]:V Xb)))
  else U)
  else(
  GW a1 a0 n (zK .i64 (v1+(1:X))) (v2++x5.Passages) v3))
 else U)
 else(
 (ND a0.Chart a0.Fleet v2).bind fun r12=>
 if r12.2 then(
  (GU (0:X) a0.Crew.Moves r12.1 a0.Crew.Tugs).bind fun r14=>
  if r14 then(
  (GU a0.Crew.Rest a0.Crew.Moves v3 a0.Crew.Pilots).bind fun r16=>
  O r16)
  else(
  O E))
 else(
  O E))
def GV(a0:X6)(a1:V X0):W Y:= GW a1 a0 bigN (0:X) ([]:V X1) ([]:V Xb)
def II(a1:V X0)(a0:X6)(a2:X0):Z→X→W Y
| 0,_=>U
| n+1,v1=>
 if(decide (v1<(a1.length:X))) then(
 (ix a1 v1).bind fun x3=>
 (Nr a0.Chart a0.Regime x3.Passages a2.Passages).bind fun r4=>
 if r4 then(
  O E)
 else(
  II a1 a0 a2 n (zK .i64 (v1+(1:X)))))
 else(
 (L3 a1).bind fun r6=>
 if Ad r6.length ([a2]:V X0).length 48 then(
  (GV a0 (r6++([a2]:V X0))).bind fun r9=>
  O r9)
 else U)
def Nx(a0:X6)(a1:V X0)(a2:X0):W Y:= II a1 a0 a2 bigN (0:X)
def Ef(w0:(V X0)→W Xk)(rec_:Xi→W Xi)(a0:Xi)(x8:V X0):Z→X→X6→(V (V X0))→X→X→Y→(V X0)→(V X)→(V X)→W Xi
| 0,_,_,_,_,_,_,_,_,_=>U
| n+1,v9,v10,v11,v12,v13,v14,v15,v16,v17=>
 if(decide (v9<(x8.length:X))) then(
 (ix x8 v9).bind fun x19=>
 (Nx v10 v15 x19).bind fun r20=>
 if r20 then(
  if Ad v15.length ([x19]:V X0).length 48 then(
  if Ad v16.length ([v9]:V X).length 8 then(
   (rec_ (⟨v10,v11,(v15++([x19]:V X0)),(v16++([v9]:V X)),v17,(⟨v12,v13⟩:Xk),v14⟩:Xi)).bind fun r24=>
   (bnd (r24.plan.length:X) (a0.plan.length:X) 0 r24.plan.length).bind fun p25=>
   (bnd (r24.choice.length:X) (a0.plan.length:X) 0 r24.choice.length).bind fun p26=>
   Ef w0 rec_ a0 x8 n (zK .i64 (v9+(1:X))) r24.h r24.choices r24.least.i0 r24.least.i1 r24.found (r24.plan.take p25.2) (r24.choice.take p26.2) r24.best)
  else U)
  else U)
 else(
  Ef w0 rec_ a0 x8 n (zK .i64 (v9+(1:X))) v10 v11 v12 v13 v14 v15 v16 v17))
 else(
 O (⟨v10,v11,v15,v16,v17,(⟨v12,v13⟩:Xk),v14⟩:Xi))
def IM(w0:(V X0)→W Xk)(rec_:Xi→W Xi)(a0:Xi)(r1:Xk)(v5:Y):W Xi:= if((a0.plan.length:X)==(a0.choices.length:X)) then(
 (Ec a0.choice).bind fun r7=>
 O (⟨a0.h,a0.choices,a0.plan,a0.choice,r7,r1,F⟩:Xi)) else(
 (ix a0.choices (a0.plan.length:X)).bind fun x8=>
 Ef w0 rec_ a0 x8 bigN (0:X) a0.h a0.choices a0.least.i0 a0.least.i1 v5 a0.plan a0.choice a0.best)
def NC(w0:(V X0)→W Xk)(rec_:Xi→W Xi)(a0:Xi):W Xi:= (w0 a0.plan).bind fun r1=> if a0.found then(
 (NF r1 a0.least).bind fun r3=>
 if r3 then(
 IM w0 rec_ a0 r1 F)
 else(
 O (⟨a0.h,a0.choices,a0.plan,a0.choice,a0.best,a0.least,F⟩:Xi))) else(
 IM w0 rec_ a0 r1 E)
def DG(w0:(V X0)→W Xk):Z→Xi→W Xi
| 0,_=>U
| n+1,a0=>NC w0 (DG w0 n) a0
def TW(w0:(V X0)→W Xk)(a0:Xi):W Xi:=DG w0 bigN a0
def Nz(a0:X6)(a1:V (V X0))(a2:(V X0)→W Xk):W ((V X) × Xk × Y):= (TW a2 (⟨a0,a1,([]:V X0),([]:V X),([]:V X),(⟨(0:X),(0:X)⟩:Xk),E⟩:Xi)).bind fun r1=> O (r1.best,r1.least,r1.found)
def Ip(a0:V X0):Z→X→X→W X
| 0,_,_=>U
| n+1,v1,v2=>
 if(decide (v2<(a0.length:X))) then(
 (ix a0 v2).bind fun x4=>
 Ip a0 n (zK .i64 (v1+x4.Cost)) (zK .i64 (v2+(1:X))))
 else(
 O v1)
def N0(a0:V X0):W X:= Ip a0 bigN (0:X) (0:X)
def L0(a0:V X0):W Xk:= (N0 a0).bind fun r1=> O (⟨r1,(0:X)⟩:Xk)
def DF(a0:V (V X0))(a1:V X):Z→X→(V X0)→W (V X0)
| 0,_,_=>U
| n+1,v1,v2=>
 if(decide (v1<(a1.length:X))) then(
 (ix a1 v1).bind fun x4=>
 (ix a0 v1).bind fun x5=>
 (ix x5 x4).bind fun x6=>
 if Ad v2.length ([x6]:V X0).length 48 then(
  DF a0 a1 n (zK .i64 (v1+(1:X))) (v2++([x6]:V X0)))
 else U)
 else(
 O v2)
def IE(a0:V (V X0))(a1:V X):W (V X0):= DF a0 a1 bigN (0:X) ([]:V X0)
def In(a2:V X7)(a1:V Xc)(a0:X6):Z→X→(V (V X0))→W ((V X0) × Y)
| 0,_,_=>U
| n+1,v6,v7=>
 if(decide (v6<(a1.length:X))) then(
 (ix a1 v6).bind fun x9=>
 (CX a0 x9 a2).bind fun r10=>
 if Ad v7.length ([r10]:V (V X0)).length 24 then(
  In a2 a1 a0 n (zK .i64 (v6+(1:X))) (v7++([r10]:V (V X0))))
 else U)
 else(
 (Nz a0 v7 (fun z0=>L0 z0)).bind fun r12=>
 if r12.2.2 then(
  (IE v7 r12.1).bind fun r14=>
  O (r14,F))
 else(
  O (([]:V X0),E)))
def MZ(a1:V Xc)(a2:V X7)(a0:X6)(v4:Y):W ((V X0) × Y):= if v4 then(
 O (([]:V X0),E)) else(
 In a2 a1 a0 bigN (0:X) ([]:V (V X0)))
def Ea(a0:X6)(a1:V Xc)(a2:V X7):W ((V X0) × Y):= (MY a0 a1).bind fun r1=> if r1 then(
 (GN a0.Chart a2).bind fun r3=>
 MZ a1 a2 a0 (!r3)) else(
 MZ a1 a2 a0 F)
def NQ(a0 a1:X1):W Y:= if(a0.Ship !=a1.Ship) then(
 O E) else(
 if(a0.Segment !=a1.Segment) then(
 O E)
 else(
 if(a0.Toward==a1.Toward) then(
  if(a0.Start !=a1.Start) then(
  O E)
  else(
  if(a0.End !=a1.End) then(
   O E)
  else(
   O F)))
 else(
  O E)))
def IY(a0 a1:V X1):Z→X→W Y
| 0,_=>U
| n+1,v2=>
 if(decide (v2<(a0.length:X))) then(
 (ix a0 v2).bind fun x4=>
 (ix a1 v2).bind fun x5=>
 (NQ x4 x5).bind fun r6=>
 if r6 then(
  IY a0 a1 n (zK .i64 (v2+(1:X))))
 else(
  O E))
 else(
 O F)
def NR(a0 a1:V X1):W Y:= if((a0.length:X) !=(a1.length:X)) then(
 O E) else(
 IY a0 a1 bigN (0:X))
def NN(a0 a1:X0):W Y:= if(a0.Start !=a1.Start) then(
 O E) else(
 if(a0.Arrival !=a1.Arrival) then(
 O E)
 else(
 if(a0.Cost !=a1.Cost) then(
  O E)
 else(
  (NR a0.Passages a1.Passages).bind fun r4=>
  if r4 then(
  O F)
  else(
  O E))))
def IW(a0 a1:V X0):Z→X→W Y
| 0,_=>U
| n+1,v2=>
 if(decide (v2<(a0.length:X))) then(
 (ix a0 v2).bind fun x4=>
 (ix a1 v2).bind fun x5=>
 (NN x4 x5).bind fun r6=>
 if r6 then(
  IW a0 a1 n (zK .i64 (v2+(1:X))))
 else(
  O E))
 else(
 O F)
def H2(a0 a1:V X0):W Y:= if((a0.length:X) !=(a1.length:X)) then(
 O E) else(
 IW a0 a1 bigN (0:X))
def NO(a0 a1:Xd):W Y:= if(a0.Amp !=a1.Amp) then(
 O E) else(
 if(a0.Period !=a1.Period) then(
 O E)
 else(
 if(a0.Phase !=a1.Phase) then(
  O E)
 else(
  O F)))
def IX(a0 a1:V Xd):Z→X→W Y
| 0,_=>U
| n+1,v2=>
 if(decide (v2<(a0.length:X))) then(
 (ix a0 v2).bind fun x4=>
 (ix a1 v2).bind fun x5=>
 (NO x4 x5).bind fun r6=>
 if r6 then(
  IX a0 a1 n (zK .i64 (v2+(1:X))))
 else(
  O E))
 else(
 O F)
def NP(a0 a1:V Xd):W Y:= if((a0.length:X) !=(a1.length:X)) then(
 O E) else(
 IX a0 a1 bigN (0:X))
def R7(a0 a1:Xn):W Y:= if(a0.Mean !=a1.Mean) then(
 O E) else(
 (NP a0.Parts a1.Parts).bind fun r2=>
 if r2 then(
 O F)
 else(
 O E))
def NY(a0 a1:Xa):W Y:= if(a0.From !=a1.From) then(
 O E) else(
 if(a0.Low !=a1.Low) then(
 O E)
 else(
 if(a0.High !=a1.High) then(
  O E)
 else(
  O F)))
def J2(a0 a1:V Xa):Z→X→W Y
| 0,_=>U
| n+1,v2=>
 if(decide (v2<(a0.length:X))) then(
 (ix a0 v2).bind fun x4=>
 (ix a1 v2).bind fun x5=>
 (NY x4 x5).bind fun r6=>
 if r6 then(
  J2 a0 a1 n (zK .i64 (v2+(1:X))))
 else(
  O E))
 else(
 O F)
def NZ(a0 a1:V Xa):W Y:= if((a0.length:X) !=(a1.length:X)) then(
 O E) else(
 J2 a0 a1 bigN (0:X))
def NK(a0 a1:Xe):W Y:= (R7 a0.Tide a1.Tide).bind fun r1=> if r1 then(
 (NZ a0.Surges a1.Surges).bind fun r3=>
 if r3 then(
 O F)
 else(
 O E)) else(
 O E)
def NS(a0 a1:X8):W Y:= if(a0.Name==a1.Name) then(
 if(a0.Wait==a1.Wait) then(
 O F)
 else(
 O E)) else(
 O E)
def IZ(a0 a1:V X8):Z→X→W Y
| 0,_=>U
| n+1,v2=>
 if(decide (v2<(a0.length:X))) then(
 (ix a0 v2).bind fun x4=>
 (ix a1 v2).bind fun x5=>
 (NS x4 x5).bind fun r6=>
 if r6 then(
  IZ a0 a1 n (zK .i64 (v2+(1:X))))
 else(
  O E))
 else(
 O F)
def NT(a0 a1:V X8):W Y:= if((a0.length:X) !=(a1.length:X)) then(
 O E) else(
 IZ a0 a1 bigN (0:X))
def NU(a0 a1:X2):W Y:= if(a0.A !=a1.A) then(
 O E) else(
 if(a0.B !=a1.B) then(
 O E)
 else(
 if(a0.Depth !=a1.Depth) then(
  O E)
 else(
  if(a0.Minutes !=a1.Minutes) then(
  O E)
  else(
  if(a0.Meet==a1.Meet) then(
   O F)
  else(
   O E)))))
def J0(a0 a1:V X2):Z→X→W Y
| 0,_=>U
| n+1,v2=>
 if(decide (v2<(a0.length:X))) then(
 (ix a0 v2).bind fun x4=>
 (ix a1 v2).bind fun x5=>
 (NU x4 x5).bind fun r6=>
 if r6 then(
  J0 a0 a1 n (zK .i64 (v2+(1:X))))
 else(
  O E))
 else(
 O F)
def NV(a0 a1:V X2):W Y:= if((a0.length:X) !=(a1.length:X)) then(
 O E) else(
 J0 a0 a1 bigN (0:X))
def NI(a0 a1:X3):W Y:= (NT a0.Points a1.Points).bind fun r1=> if r1 then(
 (NV a0.Segments a1.Segments).bind fun r3=>
 if r3 then(
 O F)
 else(
 O E)) else(
 O E)
def NW(a0 a1:X4):W Y:= if(a0.Name==a1.Name) then(
 if(a0.Length !=a1.Length) then(
 O E)
 else(
 if(a0.Draught !=a1.Draught) then(
  O E)
 else(
  if(a0.Line !=a1.Line) then(
  O E)
  else(
  if(a0.Tugs !=a1.Tugs) then(
   O E)
  else(
   if(a0.Slow==a1.Slow) then(
   O F)
   else(
   O E)))))) else(
 O E)
def J1(a0 a1:V X4):Z→X→W Y
| 0,_=>U
| n+1,v2=>
 if(decide (v2<(a0.length:X))) then(
 (ix a0 v2).bind fun x4=>
 (ix a1 v2).bind fun x5=>
 (NW x4 x5).bind fun r6=>
 if r6 then(
  J1 a0 a1 n (zK .i64 (v2+(1:X))))
 else(
  O E))
 else(
 O F)
def NX(a0 a1:V X4):W Y:= if((a0.length:X) !=(a1.length:X)) then(
 O E) else(
 J1 a0 a1 bigN (0:X))
def R6(a0 a1:Xj):W Y:= if(a0.Gap !=a1.Gap) then(
 O E) else(
 if(a0.NoMeet==a1.NoMeet) then(
 O F)
 else(
 O E))
def IV(a0 a1:V X):Z→X→W Y
| 0,_=>U
| n+1,v2=>
 if(decide (v2<(a0.length:X))) then(
 (ix a0 v2).bind fun x4=>
 (ix a1 v2).bind fun x5=>
 if(x4 !=x5) then(
  O E)
 else(
  IV a0 a1 n (zK .i64 (v2+(1:X)))))
 else(
 O F)
def NM(a0 a1:V X):W Y:= if((a0.length:X) !=(a1.length:X)) then(
 O E) else(
 IV a0 a1 bigN (0:X))
def R5(a0 a1:Xo):W Y:= if(a0.Tugs !=a1.Tugs) then(
 O E) else(
 if(a0.Pilots !=a1.Pilots) then(
 O E)
 else(
 if(a0.Rest !=a1.Rest) then(
  O E)
 else(
  (NM a0.Moves a1.Moves).bind fun r4=>
  if r4 then(
  O F)
  else(
  O E))))
def NL(a0 a1:X6):W Y:= (NK a0.Forecast a1.Forecast).bind fun r1=> if r1 then(
 (NI a0.Chart a1.Chart).bind fun r3=>
 if r3 then(
 (NX a0.Fleet a1.Fleet).bind fun r5=>
 if r5 then(
  (R6 a0.Regime a1.Regime).bind fun r7=>
  if r7 then(
  (R5 a0.Crew a1.Crew).bind fun r9=>
  if r9 then(
   O F)
  else(
   O E))
  else(
  O E))
 else(
  O E))
 else(
 O E)) else(
 O E)
def R4(a0 a1:Xc):W Y:= if(a0.Ship !=a1.Ship) then(
 O E) else(
 if(a0.From !=a1.From) then(
 O E)
 else(
 if(a0.To !=a1.To) then(
  O E)
 else(
  if(a0.Ready !=a1.Ready) then(
  O E)
  else(
  if(a0.Due !=a1.Due) then(
   O E)
  else(
   O F)))))
def IT(a0 a1:V Xc):Z→X→W Y
| 0,_=>U
| n+1,v2=>
 if(decide (v2<(a0.length:X))) then(
 (ix a0 v2).bind fun x4=>
 (ix a1 v2).bind fun x5=>
 (R4 x4 x5).bind fun r6=>
 if r6 then(
  IT a0 a1 n (zK .i64 (v2+(1:X))))
 else(
  O E))
 else(
 O F)
def NH(a0 a1:V Xc):W Y:= if((a0.length:X) !=(a1.length:X)) then(
 O E) else(
 IT a0 a1 bigN (0:X))
def NJ(a0 a1:X7):W Y:= if(a0.Segment !=a1.Segment) then(
 O E) else(
 if(a0.From !=a1.From) then(
 O E)
 else(
 if(a0.To !=a1.To) then(
  O E)
 else(
  O F)))
def IU(a0 a1:V X7):Z→X→W Y
| 0,_=>U
| n+1,v2=>
 if(decide (v2<(a0.length:X))) then(
 (ix a0 v2).bind fun x4=>
 (ix a1 v2).bind fun x5=>
 (NJ x4 x5).bind fun r6=>
 if r6 then(
  IU a0 a1 n (zK .i64 (v2+(1:X))))
 else(
  O E))
 else(
 O F)
def Lb(a0 a1:V X7):W Y:= if((a0.length:X) !=(a1.length:X)) then(
 O E) else(
 IU a0 a1 bigN (0:X))
def FO:Z→X→X→(V Xd)→W (X × V Xd)
| 0,_,_,_=>U
| n+1,v1,v2,v3=>
 if(decide (v2<(v3.length:X))) then(
 (ix v3 v2).bind fun x5=>
 (ix (v3.set (zB v2) (⟨v1,x5.Period,x5.Phase⟩:Xd)) v2).bind fun x6=>
 (ix ((v3.set (zB v2) (⟨v1,x5.Period,x5.Phase⟩:Xd)).set (zB v2) (⟨x6.Amp,(zK .i64 (v1+(1:X))),x6.Phase⟩:Xd)) v2).bind fun x7=>
 FO n (zK .i64 ((zK .i64 ((zK .i64 (v1+(1:X)))+(1:X)))+(1:X))) (zK .i64 (v2+(1:X))) (((v3.set (zB v2) (⟨v1,x5.Period,x5.Phase⟩:Xd)).set (zB v2) (⟨x6.Amp,(zK .i64 (v1+(1:X))),x6.Phase⟩:Xd)).set (zB v2) (⟨x7.Amp,x7.Period,(zK .i64 ((zK .i64 (v1+(1:X)))+(1:X)))⟩:Xd)))
 else(
 O (v1,v3))
def Lk(a0:V Xd)(a1:X):W (X × V Xd):= FO bigN a1 (0:X) a0
def Lr(a0:Xn)(a1:X):W (X × V Xd):= (Lk a0.Parts a1).bind fun r1=> O (r1.1,r1.2)
def FT:Z→X→X→(V Xa)→W (X × V Xa)
| 0,_,_,_=>U
| n+1,v1,v2,v3=>
 if(decide (v2<(v3.length:X))) then(
 (ix v3 v2).bind fun x5=>
 (ix (v3.set (zB v2) (⟨v1,x5.Low,x5.High⟩:Xa)) v2).bind fun x6=>
 (ix ((v3.set (zB v2) (⟨v1,x5.Low,x5.High⟩:Xa)).set (zB v2) (⟨x6.From,(zK .i64 (v1+(1:X))),x6.High⟩:Xa)) v2).bind fun x7=>
 FT n (zK .i64 ((zK .i64 ((zK .i64 (v1+(1:X)))+(1:X)))+(1:X))) (zK .i64 (v2+(1:X))) (((v3.set (zB v2) (⟨v1,x5.Low,x5.High⟩:Xa)).set (zB v2) (⟨x6.From,(zK .i64 (v1+(1:X))),x6.High⟩:Xa)).set (zB v2) (⟨x7.From,x7.Low,(zK .i64 ((zK .i64 (v1+(1:X)))+(1:X)))⟩:Xa)))
 else(
 O (v1,v3))
def Lp(a0:V Xa)(a1:X):W (X × V Xa):= FT bigN a1 (0:X) a0
def Li(a0:Xe)(a1:X):W (X × V Xd × V Xa):= (Lr a0.Tide a1).bind fun r1=> (Lp a0.Surges r1.1).bind fun r2=> O (r2.1,r1.2,r2.2)
def J6:Z→X→(V zA)→W (V zA)
| 0,_,_=>U
| n+1,v2,v3=>
 if(decide ((0:X)<v2)) then(
 if Ft ([(IntKind.u8.wrap (zK .i64 ((48:X)+(zK .i64 (zI v2 (10:X))))))]:V X).length v3.length then(
  J6 n (zK .i64 (zE v2 (10:X))) ((zC eK ([(IntKind.u8.wrap (zK .i64 ((48:X)+(zK .i64 (zI v2 (10:X))))))]:V X))++v3))
 else U)
 else(
 if Ft ([109]:V zA).length v3.length then(
  O (([109]:V zA)++v3))
 else U)
def Lq(a0:X):W (V zA):= if(decide (a0≤(0:X))) then(
 O ([109,48]:V zA)) else(
 J6 bigN a0 ([]:V zA))
def FQ:Z→X→X→(V X8)→W (X × V X8)
| 0,_,_,_=>U
| n+1,v1,v2,v3=>
 if(decide (v2<(v3.length:X))) then(
 (Lq v1).bind fun r5=>
 (ix v3 v2).bind fun x6=>
 (ix (v3.set (zB v2) (⟨r5,x6.Wait⟩:X8)) v2).bind fun x7=>
 FQ n (zK .i64 ((zK .i64 (v1+(1:X)))+(1:X))) (zK .i64 (v2+(1:X))) ((v3.set (zB v2) (⟨r5,x6.Wait⟩:X8)).set (zB v2) (⟨x7.Name,((zK .i64 (zI (zK .i64 (v1+(1:X))) (3:X)))==(0:X))⟩:X8)))
 else(
 O (v1,v3))
def Ll(a0:V X8)(a1:X):W (X × V X8):= FQ bigN a1 (0:X) a0
def FR:Z→X→X→(V X2)→W (X × V X2)
| 0,_,_,_=>U
| n+1,v1,v2,v3=>
 if(decide (v2<(v3.length:X))) then(
 (ix v3 v2).bind fun x5=>
 (ix (v3.set (zB v2) (⟨v1,x5.B,x5.Depth,x5.Minutes,x5.Meet⟩:X2)) v2).bind fun x6=>
 (ix ((v3.set (zB v2) (⟨v1,x5.B,x5.Depth,x5.Minutes,x5.Meet⟩:X2)).set (zB v2) (⟨x6.A,(zK .i64 (v1+(1:X))),x6.Depth,x6.Minutes,x6.Meet⟩:X2)) v2).bind fun x7=>
 (ix (((v3.set (zB v2) (⟨v1,x5.B,x5.Depth,x5.Minutes,x5.Meet⟩:X2)).set (zB v2) (⟨x6.A,(zK .i64 (v1+(1:X))),x6.Depth,x6.Minutes,x6.Meet⟩:X2)).set (zB v2) (⟨x7.A,x7.B,(zK .i64 ((zK .i64 (v1+(1:X)))+(1:X))),x7.Minutes,x7.Meet⟩:X2)) v2).bind fun x8=>
 (ix ((((v3.set (zB v2) (⟨v1,x5.B,x5.Depth,x5.Minutes,x5.Meet⟩:X2)).set (zB v2) (⟨x6.A,(zK .i64 (v1+(1:X))),x6.Depth,x6.Minutes,x6.Meet⟩:X2)).set (zB v2) (⟨x7.A,x7.B,(zK .i64 ((zK .i64 (v1+(1:X)))+(1:X))),x7.Minutes,x7.Meet⟩:X2)).set (zB v2) (⟨x8.A,x8.B,x8.Depth,(zK .i64 ((zK .i64 ((zK .i64 (v1+(1:X)))+(1:X)))+(1:X))),x8.Meet⟩:X2)) v2).bind fun x9=>
 FR n (zK .i64 ((zK .i64 ((zK .i64 ((zK .i64 ((zK .i64 (v1+(1:X)))+(1:X)))+(1:X)))+(1:X)))+(1:X))) (zK .i64 (v2+(1:X))) (((((v3.set (zB v2) (⟨v1,x5.B,x5.Depth,x5.Minutes,x5.Meet⟩:X2)).set (zB v2) (⟨x6.A,(zK .i64 (v1+(1:X))),x6.Depth,x6.Minutes,x6.Meet⟩:X2)).set (zB v2) (⟨x7.A,x7.B,(zK .i64 ((zK .i64 (v1+(1:X)))+(1:X))),x7.Minutes,x7.Meet⟩:X2)).set (zB v2) (⟨x8.A,x8.B,x8.Depth,(zK .i64 ((zK .i64 ((zK .i64 (v1+(1:X)))+(1:X)))+(1:X))),x8.Meet⟩:X2)).set (zB v2) (⟨x9.A,x9.B,x9.Depth,x9.Minutes,((zK .i64 (zI (zK .i64 ((zK .i64 ((zK .i64 ((zK .i64 (v1+(1:X)))+(1:X)))+(1:X)))+(1:X))) (3:X)))==(0:X))⟩:X2)))
 else(
 O (v1,v3))
def Ln(a0:V X2)(a1:X):W (X × V X2):= FR bigN a1 (0:X) a0
def Le(a0:X3)(a1:X):W (X × V X8 × V X2):= (Ll a0.Points a1).bind fun r1=> (Ln a0.Segments r1.1).bind fun r2=> O (r2.1,r1.2,r2.2)
def Fsz:Z→X→X→(V X4)→W (X × V X4)
| 0,_,_,_=>U
| n+1,v1,v2,v3=>
 if(decide (v2<(v3.length:X))) then(
 (Lq v1).bind fun r5=>
 (ix v3 v2).bind fun x6=>
 (ix (v3.set (zB v2) (⟨r5,x6.Length,x6.Draught,x6.Line,x6.Tugs,x6.Slow⟩:X4)) v2).bind fun x7=>
 (ix ((v3.set (zB v2) (⟨r5,x6.Length,x6.Draught,x6.Line,x6.Tugs,x6.Slow⟩:X4)).set (zB v2) (⟨x7.Name,(zK .i64 (v1+(1:X))),x7.Draught,x7.Line,x7.Tugs,x7.Slow⟩:X4)) v2).bind fun x8=>
 (ix (((v3.set (zB v2) (⟨r5,x6.Length,x6.Draught,x6.Line,x6.Tugs,x6.Slow⟩:X4)).set (zB v2) (⟨x7.Name,(zK .i64 (v1+(1:X))),x7.Draught,x7.Line,x7.Tugs,x7.Slow⟩:X4)).set (zB v2) (⟨x8.Name,x8.Length,(zK .i64 ((zK .i64 (v1+(1:X)))+(1:X))),x8.Line,x8.Tugs,x8.Slow⟩:X4)) v2).bind fun x9=>
 (ix ((((v3.set (zB v2) (⟨r5,x6.Length,x6.Draught,x6.Line,x6.Tugs,x6.Slow⟩:X4)).set (zB v2) (⟨x7.Name,(zK .i64 (v1+(1:X))),x7.Draught,x7.Line,x7.Tugs,x7.Slow⟩:X4)).set (zB v2) (⟨x8.Name,x8.Length,(zK .i64 ((zK .i64 (v1+(1:X)))+(1:X))),x8.Line,x8.Tugs,x8.Slow⟩:X4)).set (zB v2) (⟨x9.Name,x9.Length,x9.Draught,(zK .i64 ((zK .i64 ((zK .i64 (v1+(1:X)))+(1:X)))+(1:X))),x9.Tugs,x9.Slow⟩:X4)) v2).bind fun x10=>
 (ix (((((v3.set (zB v2) (⟨r5,x6.Length,x6.Draught,x6.Line,x6.Tugs,x6.Slow⟩:X4)).set (zB v2) (⟨x7.Name,(zK .i64 (v1+(1:X))),x7.Draught,x7.Line,x7.Tugs,x7.Slow⟩:X4)).set (zB v2) (⟨x8.Name,x8.Length,(zK .i64 ((zK .i64 (v1+(1:X)))+(1:X))),x8.Line,x8.Tugs,x8.Slow⟩:X4)).set (zB v2) (⟨x9.Name,x9.Length,x9.Draught,(zK .i64 ((zK .i64 ((zK .i64 (v1+(1:X)))+(1:X)))+(1:X))),x9.Tugs,x9.Slow⟩:X4)).set (zB v2) (⟨x10.Name,x10.Length,x10.Draught,x10.Line,(zK .i64 ((zK .i64 ((zK .i64 ((zK .i64 (v1+(1:X)))+(1:X)))+(1:X)))+(1:X))),x10.Slow⟩:X4)) v2).bind fun x11=>
 Fsz n (zK .i64 ((zK .i64 ((zK .i64 ((zK .i64 ((zK .i64 ((zK .i64 (v1+(1:X)))+(1:X)))+(1:X)))+(1:X)))+(1:X)))+(1:X))) (zK .i64 (v2+(1:X))) ((((((v3.set (zB v2) (⟨r5,x6.Length,x6.Draught,x6.Line,x6.Tugs,x6.Slow⟩:X4)).set (zB v2) (⟨x7.Name,(zK .i64 (v1+(1:X))),x7.Draught,x7.Line,x7.Tugs,x7.Slow⟩:X4)).set (zB v2) (⟨x8.Name,x8.Length,(zK .i64 ((zK .i64 (v1+(1:X)))+(1:X))),x8.Line,x8.Tugs,x8.Slow⟩:X4)).set (zB v2) (⟨x9.Name,x9.Length,x9.Draught,(zK .i64 ((zK .i64 ((zK .i64 (v1+(1:X)))+(1:X)))+(1:X))),x9.Tugs,x9.Slow⟩:X4)).set (zB v2) (⟨x10.Name,x10.Length,x10.Draught,x10.Line,(zK .i64 ((zK .i64 ((zK .i64 ((zK .i64 (v1+(1:X)))+(1:X)))+(1:X)))+(1:X))),x10.Slow⟩:X4)).set (zB v2) (⟨x11.Name,x11.Length,x11.Draught,x11.Line,x11.Tugs,((zK .i64 (zI (zK .i64 ((zK .i64 ((zK .i64 ((zK .i64 ((zK .i64 (v1+(1:X)))+(1:X)))+(1:X)))+(1:X)))+(1:X))) (3:X)))==(0:X))⟩:X4)))
 else(
 O (v1,v3))
def Lo(a0:V X4)(a1:X):W (X × V X4):= Fsz bigN a1 (0:X) a0
def FM:Z→X→X→(V X)→W (X × V X)
| 0,_,_,_=>U
| n+1,v1,v2,v3=>
 if(decide (v2<(v3.length:X))) then(
 (ix v3 v2).bind fun x5=>
 FM n (zK .i64 (v1+(1:X))) (zK .i64 (v2+(1:X))) (v3.set (zB v2) v1))
 else(
 O (v1,v3))
def Lj(a0:V X)(a1:X):W (X × V X):= FM bigN a1 (0:X) a0
def Lg(a0:Xo)(a1:X):W (X × V X):= (Lj a0.Moves a1).bind fun r1=> O (r1.1,r1.2)
def J5(a0:X6)(a1:X):W (X × V Xd × V Xa × V X8 × V X2 × V X4 × V X):= (Li a0.Forecast a1).bind fun r1=> (Le a0.Chart r1.1).bind fun r2=> (Lo a0.Fleet r2.1).bind fun r3=> (Lg a0.Crew r3.1).bind fun r4=> O (r4.1,r1.2.1,r1.2.2,r2.2.1,r2.2.2,r3.2,r4.2)
def FJ:Z→X→X→(V Xc)→W (X × V Xc)
| 0,_,_,_=>U
| n+1,v1,v2,v3=>
 if(decide (v2<(v3.length:X))) then(
 (ix v3 v2).bind fun x5=>
 (ix (v3.set (zB v2) (⟨v1,x5.From,x5.To,x5.Ready,x5.Due⟩:Xc)) v2).bind fun x6=>
 (ix ((v3.set (zB v2) (⟨v1,x5.From,x5.To,x5.Ready,x5.Due⟩:Xc)).set (zB v2) (⟨x6.Ship,(zK .i64 (v1+(1:X))),x6.To,x6.Ready,x6.Due⟩:Xc)) v2).bind fun x7=>
 (ix (((v3.set (zB v2) (⟨v1,x5.From,x5.To,x5.Ready,x5.Due⟩:Xc)).set (zB v2) (⟨x6.Ship,(zK .i64 (v1+(1:X))),x6.To,x6.Ready,x6.Due⟩:Xc)).set (zB v2) (⟨x7.Ship,x7.From,(zK .i64 ((zK .i64 (v1+(1:X)))+(1:X))),x7.Ready,x7.Due⟩:Xc)) v2).bind fun x8=>
 (ix ((((v3.set (zB v2) (⟨v1,x5.From,x5.To,x5.Ready,x5.Due⟩:Xc)).set (zB v2) (⟨x6.Ship,(zK .i64 (v1+(1:X))),x6.To,x6.Ready,x6.Due⟩:Xc)).set (zB v2) (⟨x7.Ship,x7.From,(zK .i64 ((zK .i64 (v1+(1:X)))+(1:X))),x7.Ready,x7.Due⟩:Xc)).set (zB v2) (⟨x8.Ship,x8.From,x8.To,(zK .i64 ((zK .i64 ((zK .i64 (v1+(1:X)))+(1:X)))+(1:X))),x8.Due⟩:Xc)) v2).bind fun x9=>
 FJ n (zK .i64 ((zK .i64 ((zK .i64 ((zK .i64 ((zK .i64 (v1+(1:X)))+(1:X)))+(1:X)))+(1:X)))+(1:X))) (zK .i64 (v2+(1:X))) (((((v3.set (zB v2) (⟨v1,x5.From,x5.To,x5.Ready,x5.Due⟩:Xc)).set (zB v2) (⟨x6.Ship,(zK .i64 (v1+(1:X))),x6.To,x6.Ready,x6.Due⟩:Xc)).set (zB v2) (⟨x7.Ship,x7.From,(zK .i64 ((zK .i64 (v1+(1:X)))+(1:X))),x7.Ready,x7.Due⟩:Xc)).set (zB v2) (⟨x8.Ship,x8.From,x8.To,(zK .i64 ((zK .i64 ((zK .i64 (v1+(1:X)))+(1:X)))+(1:X))),x8.Due⟩:Xc)).set (zB v2) (⟨x9.Ship,x9.From,x9.To,x9.Ready,(zK .i64 ((zK .i64 ((zK .i64 ((zK .i64 (v1+(1:X)))+(1:X)))+(1:X)))+(1:X)))⟩:Xc)))
 else(
 O (v1,v3))
def Ld(a0:V Xc)(a1:X):W (X × V Xc):= FJ bigN a1 (0:X) a0
def FL:Z→X→X→(V X7)→W (X × V X7)
| 0,_,_,_=>U
| n+1,v1,v2,v3=>
 if(decide (v2<(v3.length:X))) then(
 (ix v3 v2).bind fun x5=>
 (ix (v3.set (zB v2) (⟨v1,x5.From,x5.To⟩:X7)) v2).bind fun x6=>
 (ix ((v3.set (zB v2) (⟨v1,x5.From,x5.To⟩:X7)).set (zB v2) (⟨x6.Segment,(zK .i64 (v1+(1:X))),x6.To⟩:X7)) v2).bind fun x7=>
 FL n (zK .i64 ((zK .i64 ((zK .i64 (v1+(1:X)))+(1:X)))+(1:X))) (zK .i64 (v2+(1:X))) (((v3.set (zB v2) (⟨v1,x5.From,x5.To⟩:X7)).set (zB v2) (⟨x6.Segment,(zK .i64 (v1+(1:X))),x6.To⟩:X7)).set (zB v2) (⟨x7.Segment,x7.From,(zK .i64 ((zK .i64 (v1+(1:X)))+(1:X)))⟩:X7)))
 else(
 O (v1,v3))
def Lf(a0:V X7)(a1:X):W (X × V X7):= FL bigN a1 (0:X) a0
def FP:Z→X→X→(V X1)→W (X × V X1)
| 0,_,_,_=>U
| n+1,v1,v2,v3=>
 if(decide (v2<(v3.length:X))) then(
 (ix v3 v2).bind fun x5=>
 (ix (v3.set (zB v2) (⟨v1,x5.Segment,x5.Toward,x5.Start,x5.End⟩:X1)) v2).bind fun x6=>
 (ix ((v3.set (zB v2) (⟨v1,x5.Segment,x5.Toward,x5.Start,x5.End⟩:X1)).set (zB v2) (⟨x6.Ship,(zK .i64 (v1+(1:X))),x6.Toward,x6.Start,x6.End⟩:X1)) v2).bind fun x7=>
 (ix (((v3.set (zB v2) (⟨v1,x5.Segment,x5.Toward,x5.Start,x5.End⟩:X1)).set (zB v2) (⟨x6.Ship,(zK .i64 (v1+(1:X))),x6.Toward,x6.Start,x6.End⟩:X1)).set (zB v2) (⟨x7.Ship,x7.Segment,((zK .i64 (zI (zK .i64 ((zK .i64 (v1+(1:X)))+(1:X))) (3:X)))==(0:X)),x7.Start,x7.End⟩:X1)) v2).bind fun x8=>
 (ix ((((v3.set (zB v2) (⟨v1,x5.Segment,x5.Toward,x5.Start,x5.End⟩:X1)).set (zB v2) (⟨x6.Ship,(zK .i64 (v1+(1:X))),x6.Toward,x6.Start,x6.End⟩:X1)).set (zB v2) (⟨x7.Ship,x7.Segment,((zK .i64 (zI (zK .i64 ((zK .i64 (v1+(1:X)))+(1:X))) (3:X)))==(0:X)),x7.Start,x7.End⟩:X1)).set (zB v2) (⟨x8.Ship,x8.Segment,x8.Toward,(zK .i64 ((zK .i64 ((zK .i64 (v1+(1:X)))+(1:X)))+(1:X))),x8.End⟩:X1)) v2).bind fun x9=>
 FP n (zK .i64 ((zK .i64 ((zK .i64 ((zK .i64 ((zK .i64 (v1+(1:X)))+(1:X)))+(1:X)))+(1:X)))+(1:X))) (zK .i64 (v2+(1:X))) (((((v3.set (zB v2) (⟨v1,x5.Segment,x5.Toward,x5.Start,x5.End⟩:X1)).set (zB v2) (⟨x6.Ship,(zK .i64 (v1+(1:X))),x6.Toward,x6.Start,x6.End⟩:X1)).set (zB v2) (⟨x7.Ship,x7.Segment,((zK .i64 (zI (zK .i64 ((zK .i64 (v1+(1:X)))+(1:X))) (3:X)))==(0:X)),x7.Start,x7.End⟩:X1)).set (zB v2) (⟨x8.Ship,x8.Segment,x8.Toward,(zK .i64 ((zK .i64 ((zK .i64 (v1+(1:X)))+(1:X)))+(1:X))),x8.End⟩:X1)).set (zB v2) (⟨x9.Ship,x9.Segment,x9.Toward,x9.Start,(zK .i64 ((zK .i64 ((zK .i64 ((zK .i64 (v1+(1:X)))+(1:X)))+(1:X)))+(1:X)))⟩:X1)))
 else(
 O (v1,v3))
def H3(a0:V X1)(a1:X):W (X × V X1):= FP bigN a1 (0:X) a0
def J4(a0:V X1):Z→X→X→W X
| 0,_,_=>U
| n+1,v1,v2=>
 if(decide (v2<(a0.length:X))) then(
 (ix a0 v2).bind fun x4=>
 if(x4.Ship !=v1) then(
  O (-1:X))
 else(
  if(x4.Segment !=(zK .i64 (v1+(1:X)))) then(
  O (-1:X))
  else(
  if(x4.Toward==((zK .i64 (zI (zK .i64 ((zK .i64 (v1+(1:X)))+(1:X))) (3:X)))==(0:X))) then(
   if(x4.Start !=(zK .i64 ((zK .i64 ((zK .i64 (v1+(1:X)))+(1:X)))+(1:X)))) then(
   O (-1:X))
   else(
   if(x4.End !=(zK .i64 ((zK .i64 ((zK .i64 ((zK .i64 (v1+(1:X)))+(1:X)))+(1:X)))+(1:X)))) then(
    O (-1:X))
   else(
    J4 a0 n (zK .i64 ((zK .i64 ((zK .i64 ((zK .i64 ((zK .i64 (v1+(1:X)))+(1:X)))+(1:X)))+(1:X)))+(1:X))) (zK .i64 (v2+(1:X))))))
  else(
   O (-1:X)))))
 else(
 O v1)
def O0(a0:V X1)(a1:X):W X:= J4 a0 bigN a1 (0:X)
def J3(a0:V X0):Z→X→X→W X
| 0,_,_=>U
| n+1,v1,v2=>
 if(decide (v2<(a0.length:X))) then(
 (ix a0 v2).bind fun x4=>
 if(x4.Start !=v1) then(
  O (-1:X))
 else(
  if(x4.Arrival !=(zK .i64 (v1+(1:X)))) then(
  O (-1:X))
  else(
  if(x4.Cost !=(zK .i64 ((zK .i64 (v1+(1:X)))+(1:X)))) then(
   O (-1:X))
  else(
   (O0 x4.Passages (zK .i64 ((zK .i64 ((zK .i64 (v1+(1:X)))+(1:X)))+(1:X)))).bind fun r9=>
   if(decide (r9<(0:X))) then(
   O (-1:X))
   else(
   J3 a0 n r9 (zK .i64 (v2+(1:X))))))))
 else(
 O v1)
def Lc(a0:V X0)(a1:X):W X:= J3 a0 bigN a1 (0:X)
class Ct (f:Z) (T:outParam Prop):Prop where
 c:T
theorem Ab{f:Z}{T:Prop}(I:Ct f T):T:=I.c
section
variable {P : Program} {k : V Fr} {Q : Xl → St → Prop} {σ : St} {its : V AItem} {d f : Z} {args : V Opd} {xs : V DV} {rs : V R1} {T : Prop} [I : Ct f T]
theorem nK(hf:T→FC P f xs rs)(h:go P (.ops its::k) Q .normal (O (σ.inst d rs)))(h1:σ.toIVs args=O xs:=by exact rfl)(h3:σ.fresh d=F:=by first | exact rfl | (simp only[St.fresh,List.all_cons,List.all_nil,D4]; simp[AV.cells,V1.cells,AC.uses]))(h4:Nat.ble (rs.flatMap R1.cells).length 64=F:=by exact rfl) :
  go P (.ops ((U,.call d f args)::its)::k) Q .normal (O σ):=AF (hf I.c) h h1 h3 h4
theorem ph{N:V Z}{ds:V AZ}(hf:T→FC P f xs rs)(h:go P (.dops ds::k) Q .normal (O (σ.inst d rs)))(h1:(σ.less N).toIVs args=O xs:=by exact rfl)(h3:σ.fresh d=F:=by first | exact rfl | (simp only[St.fresh,List.all_cons,List.all_nil,D4]; simp[AV.cells,V1.cells,AC.uses]))(h4:Nat.ble (rs.flatMap R1.cells).length 64=F:=by exact rfl) :
  go P (.dops ((O N,U,.call d f args)::ds)::k) Q .normal (O σ):=D6 (hf I.c) h h1 h3 h4
theorem nL(hf:T→FC P f xs rs)(h:go P (.ops its::k) Q .normal (O (σ.inst d rs)))(h1:σ.toDVs args=O xs:=by exact rfl)(h2:Cu rs:=by first | exact B1 rfl | exact BD rfl ⟨AN,⟨⟩⟩ | exact BD rfl ⟨AN,rfl,⟨⟩⟩ | exact BD rfl ⟨AN,rfl,rfl,⟨⟩⟩ | exact BD rfl ⟨rfl,rfl,rfl,AN,rfl,⟨⟩⟩)(h3:σ.fresh d=F:=by first | exact rfl | (simp only[St.fresh,List.all_cons,List.all_nil,D4]; simp[AV.cells,V1.cells,AC.uses]))(h4:Nat.ble (rs.flatMap R1.cells).length 64=F:=by exact rfl) :
  go P (.ops ((U,.call d f args)::its)::k) Q .normal (O σ):=AT (hf I.c) h1 h2 h3 (zD h4) h
theorem pi{N:V Z}{ds:V AZ}(hf:T→FC P f xs rs)(h:go P (.dops ds::k) Q .normal (O (σ.inst d rs)))(h1:(σ.less N).toDVs args=O xs:=by exact rfl)(h2:Cu rs:=by first | exact B1 rfl | exact BD rfl ⟨AN,⟨⟩⟩ | exact BD rfl ⟨AN,rfl,⟨⟩⟩)(h3:σ.fresh d=F:=by first | exact rfl | (simp only[St.fresh,List.all_cons,List.all_nil,D4]; simp[AV.cells,V1.cells,AC.uses]))(h4:Nat.ble (rs.flatMap R1.cells).length 64=F:=by exact rfl) :
  go P (.dops ((O N,U,.call d f args)::ds)::k) Q .normal (O σ):=U5 (hf I.c) h1 h2 h3 (zD h4) h
end
theorem Aw(es:V (V D)){P:Program}{k:V Fr}{Q:Xl→St→Prop}{σ:St}{its:V AItem}{d sz:Z}{zs:V D}{len:Z}{ps:V (Z × Opd)}(H:go P (.ops its::k) Q .normal (O {(σ.set d (.v (.sc (.own (d*64))))) with rows:=put σ.rows (d*64) (sz,es) }))(hm:σ.made (.bslice d sz zs len ps)=O (.row d sz es):=by exact rfl)(hf:σ.fresh d=F:=by first | exact rfl | (simp only[St.fresh,List.all_cons,List.all_nil,D4]; simp[AV.cells,V1.cells,AC.uses])) :
  go P (.ops ((U,.bslice d sz zs len ps)::its)::k) Q .normal (O σ):=U2 hm hf H
theorem Et{α:Type}(row:α→V D)(z:α){P:Program}{k:V Fr}{Q:Xl→St→Prop}{σ:St}{its:V AItem}{d:Z}{L C:Opd}{l c:X}{bytes n sz:Z}{zs:V D}(hb:BM l c bytes=O n)
  (H:go P (.ops its::k) Q .normal (O {(σ.set d (.v (.sc (.own (d*64))))) with rows:=put σ.rows (d*64) (sz,zC row (zF n z)) })) (hl:C4 (σ.val L)=O l:=by exact rfl) (hc:C4 (σ.val C)=O c:=by exact rfl) (hz:zs.length=sz:=by exact rfl) (he:row z=zs:=by exact rfl) (hf:σ.fresh d=F:=by exact rfl):go P (.ops ((U,.mksl d sz bytes zs L C)::its)::k) Q .normal (O σ):=U7 hl hc hb hz (SE he) hf H
theorem Ez{α:Type}(row:α→V D)(y:α){P:Program}{k:V Fr}{Q:Xl→St→Prop}{env bx rows}{id sz off n:Z}{i:X}{xs:V α}{x:α}{yv:V1}{dd:V D}(hx:ix xs i=O x)(H:go P k Q .normal (O ⟨env,bx,put rows id (sz,zC row (xs.set i.toNat y))⟩))(hd:yv.toDs=O dd:=by exact rfl)(hf:A1 rows id=O (sz,zC row xs):=by exact rfl)
  (hn:dd.length=n:=by exact rfl) (ho:Nat.ble (off+n) (row x).length=F:=by exact rfl) (hy:Gt (row x) off dd=row y:=by exact rfl) :
  go P k Q .normal (St.storeV ⟨env,bx,rows⟩ n (.v (.sc (.pe id i.toNat off))) (.v yv)):=AK hd hf (Am hx) hn ho hy H
theorem gc{G:Prop}(k:G:=by
 first | intro S hS | intro hS
 conv at hS=>rhs; reduce
 try simp only[Int.reduceOfNat,Int.reduceNegSucc,W2,UInt8.reduceOfNat] at hS
 subst hS;first | refine AB (As ?_) | refine As ?_ | skip
 repeat' (first | refine TA ?_ | refine Ku ?_ | refine CY ?_ | refine El ?_ | (obtain⟨_,hc,h⟩:=ob h; first | refine nK (by intro k; apply k; exact hc) ?_ | refine ph (by intro k; apply k; exact hc) ?_ | refine nL (by intro k; apply k; exact hc) ?_ | refine pi (by intro k; apply k; exact hc) ?_ | refine s0 hc ?_ | refine s1 hc ?_) | simp only[*,Nat.reduceBEq,Nat.reduceMul,Nat.reduceAdd,Nat.reduceDiv,Int.reduceBEq,J] | (first | refine s0 ?_ | refine s0 _ ?_ | refine s0 ‹_› ?_ | refine s0 _ ‹_› ?_ | refine s0 _ _ ‹_› ?_ | refine s1 ?_ | refine s1 _ ?_ | refine s1 ‹_› ?_ | refine s1 _ ‹_› ?_ | refine s1 _ _ ‹_› ?_ | refine s2 ?_ | refine s2 _ ?_ | refine s2 ‹_› ?_ | refine s2 _ ‹_› ?_ | refine s2 _ _ ‹_› ?_ | refine s3 ?_ | refine s3 _ ?_ | refine s3 ‹_› ?_ | refine s3 _ ‹_› ?_ | refine s3 _ _ ‹_› ?_) | ((first | show go _ (.code (.loop _)::_) _ _ _ | show go _ (.code (HL _)::_) _ _ _); (first | refine ih h ?_ (by kernel_rfl) | refine k0 h ?_ (by kernel_rfl) | refine k0 ‹_› h ?_ (by kernel_rfl) | refine k0 ‹_› ‹_› h ?_ (by kernel_rfl) | refine k0 ‹_› ‹_› ‹_› h ?_ (by kernel_rfl) | refine k1 h ?_ (by kernel_rfl) | refine k1 ‹_› h ?_ (by kernel_rfl) | refine k1 ‹_› ‹_› h ?_ (by kernel_rfl) | refine k1 ‹_› ‹_› ‹_› h ?_ (by kernel_rfl) | refine k2 h ?_ (by kernel_rfl) | refine k2 ‹_› h ?_ (by kernel_rfl) | refine k2 ‹_› ‹_› h ?_ (by kernel_rfl) | refine k2 ‹_› ‹_› ‹_› h ?_ (by kernel_rfl) | refine k3 h ?_ (by kernel_rfl) | refine k3 ‹_› h ?_ (by kernel_rfl) | refine k3 ‹_› ‹_› h ?_ (by kernel_rfl) | refine k3 ‹_› ‹_› ‹_› h ?_ (by kernel_rfl)))<;>try simp only[*,Nat.reduceBEq,Nat.reduceMul,Nat.reduceAdd,Nat.reduceDiv,Int.reduceBEq,J,pL,aM,List.map_nil] | (obtain⟨_,_,h⟩:=ob h) | (obtain⟨_,h⟩:=B2 h) | (obtain⟨_,h⟩:=K7 h) | (obtain⟨_,h⟩ | ⟨_,h⟩:=ic h) | (cases h; first | exact t0 | trivial | (repeat' constructor; done)))
 done):G:=k
theorem sg{G G':Prop}(h:G')(e:G'→G:=by
 intro w;repeat (first | refine TA ?_ | refine Ku ?_ | refine CY ?_ | refine El ?_ | simp only[*,-w,Nat.reduceBEq,Nat.reduceMul,Nat.reduceAdd,Nat.reduceDiv,Int.reduceBEq,J])
 exact w):G:=e h
theorem sq{G:Prop}(k:G:=by simp only[*,Nat.reduceBEq,Nat.reduceMul,Nat.reduceAdd,Nat.reduceDiv,Int.reduceBEq,J,pL,aM,List.map_nil]):G:=k
theorem kr{G:Prop}(k:G:=by kernel_rfl):G:=k
end Go.Vi
