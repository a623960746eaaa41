/-
Plain definitions of functions. No condition.
-/
import Derived.Test.YtfoohbeloilepaaGreatDVi41
namespace Go.Vi
set_option linter.all false
open Int renaming toNat → zB, tdiv → zF, tmod → zJ
open List renaming map → zC, replicate → zG, not_mem_nil → zH, mem_cons → zI, all_cons → zK, all_nil → zL
open Nat renaming le_of_ble_eq_true → zD
open And renaming intro → zE
open IntKind renaming wrap → zM
open Bool renaming true → F, false → E
open Option renaming some → O, none → U
open _root_ renaming List → V, Option → W, Int → X, Bool → Y, Nat → Z, UInt8 → zA
def CG(k:IntKind)(x:X)(n:Z):X:=k.wrap (x.fdiv (2 ^ min n k.bits))
theorem kz{k:IntKind}{x:X}:Cs .shr (.v (.sc (.dat (.int k x)))) (.v (.sc (.dat (.int .u64 8))))=O (.v (.sc (.dat (.int k (CG k x 8))))):=by simp[Cs,AN,CG]
theorem uw{k:IntKind}{x:X}:AN .shr k x 8=O (.int k (CG k x 8)):=by simp[AN,CG]
theorem kx{k:IntKind}{x:X}:Cs .shr (.v (.sc (.dat (.int k x)))) (.v (.sc (.dat (.int .u64 16))))=O (.v (.sc (.dat (.int k (CG k x 16))))):=by simp[Cs,AN,CG]
theorem uu{k:IntKind}{x:X}:AN .shr k x 16=O (.int k (CG k x 16)):=by simp[AN,CG]
theorem ky{k:IntKind}{x:X}:Cs .shr (.v (.sc (.dat (.int k x)))) (.v (.sc (.dat (.int .u64 32))))=O (.v (.sc (.dat (.int k (CG k x 32))))):=by simp[Cs,AN,CG]
theorem uv{k:IntKind}{x:X}:AN .shr k x 32=O (.int k (CG k x 32)):=by simp[AN,CG]
def PH(k:IntKind)(x y:X):X:=k.wrap (x.fdiv (2 ^ min y.toNat k.bits))
theorem kw{k:IntKind}{x y:X}:Cs .shr (.v (.sc (.dat (.int k x)))) (.v (.sc (.dat (.int .i64 y))))=bif decide (y<0) then U else O (.v (.sc (.dat (.int k (PH k x y))))):=by
 by_cases h:y<0<;>simp[Cs,AN,PH,h]
theorem ut{x y:X}:AN .shr .i64 x y=bif decide (y<0) then U else O (.int .i64 (PH .i64 x y)):=by
 by_cases h:y<0<;>simp[AN,PH,h]
structure Xd where
 Amp:X
 Period:X
 Phase:X
 deriving DecidableEq
def Xd.row(x:Xd):V D:= [.int .i64 x.Amp,.int .i64 x.Period,.int .i64 x.Phase]
theorem Xd.row_eq(x:Xd):Xd.row x= [.int .i64 x.Amp,.int .i64 x.Period,.int .i64 x.Phase]:=rfl
instance:Row Xd.row 3:=⟨fun _=>rfl,zD rfl⟩
instance:FlatRow Xd.row:=⟨fun x d hd=>by simp only[Xd.row_eq,zI,zH,or_false] at hd; rcases hd with rfl | rfl | rfl<;>rfl⟩
instance:OfTy (.st [(.int .i64),(.int .i64),(.int .i64)]) Xd.row:=⟨fun ds h=>by
 obtain⟨a0,b0,h0,t0,rfl⟩:=h;obtain⟨a1,b1,h1,t1,rfl⟩:=t0;obtain⟨a2,b2,h2,t2,rfl⟩:=t1;obtain rfl:=t2;obtain⟨x0,rfl⟩:=OfTy.of (row:=rI) _ h0;obtain⟨x1,rfl⟩:=OfTy.of (row:=rI) _ h1;obtain⟨x2,rfl⟩:=OfTy.of (row:=rI) _ h2;exact⟨⟨x0,x1,x2⟩,rfl⟩⟩
structure Xm where
 Mean:X
 Parts:V Xd
 deriving DecidableEq
def Xm.row(x:Xm):V D:= [.int .i64 x.Mean,.sl (zC Xd.row x.Parts)]
theorem Xm.row_eq(x:Xm):Xm.row x= [.int .i64 x.Mean,.sl (zC Xd.row x.Parts)]:=rfl
instance:Row Xm.row 2:=⟨fun _=>rfl,zD rfl⟩
instance:OfTy (.st [(.int .i64),(.sl (.st [(.int .i64),(.int .i64),(.int .i64)]))]) Xm.row:=⟨fun ds h=>by
 obtain⟨a0,b0,h0,t0,rfl⟩:=h;obtain⟨a1,b1,h1,t1,rfl⟩:=t0;obtain rfl:=t1;obtain⟨x0,rfl⟩:=OfTy.of (row:=rI) _ h0;obtain⟨x1,rfl⟩:=OfTy.of (row:=(rL Xd.row)) _ h1;exact⟨⟨x0,x1⟩,rfl⟩⟩
structure Xa where
 From:X
 Low:X
 High:X
 deriving DecidableEq
def Xa.row(x:Xa):V D:= [.int .i64 x.From,.int .i64 x.Low,.int .i64 x.High]
theorem Xa.row_eq(x:Xa):Xa.row x= [.int .i64 x.From,.int .i64 x.Low,.int .i64 x.High]:=rfl
instance:Row Xa.row 3:=⟨fun _=>rfl,zD rfl⟩
instance:FlatRow Xa.row:=⟨fun x d hd=>by simp only[Xa.row_eq,zI,zH,or_false] at hd; rcases hd with rfl | rfl | rfl<;>rfl⟩
instance:OfTy (.st [(.int .i64),(.int .i64),(.int .i64)]) Xa.row:=⟨fun ds h=>by
 obtain⟨a0,b0,h0,t0,rfl⟩:=h;obtain⟨a1,b1,h1,t1,rfl⟩:=t0;obtain⟨a2,b2,h2,t2,rfl⟩:=t1;obtain rfl:=t2;obtain⟨x0,rfl⟩:=OfTy.of (row:=rI) _ h0;obtain⟨x1,rfl⟩:=OfTy.of (row:=rI) _ h1;obtain⟨x2,rfl⟩:=OfTy.of (row:=rI) _ h2;exact⟨⟨x0,x1,x2⟩,rfl⟩⟩
structure Xe where
 Tide:Xm
 Surges:V Xa
 deriving DecidableEq
def Xe.row(x:Xe):V D:= [.int .i64 x.Tide.Mean,.sl (zC Xd.row x.Tide.Parts),.sl (zC Xa.row x.Surges)]
theorem Xe.row_eq(x:Xe):Xe.row x= [.int .i64 x.Tide.Mean,.sl (zC Xd.row x.Tide.Parts),.sl (zC Xa.row x.Surges)]:=rfl
instance:Row Xe.row 3:=⟨fun _=>rfl,zD rfl⟩
instance:OfTy (.st [(.st [(.int .i64),(.sl (.st [(.int .i64),(.int .i64),(.int .i64)]))]),(.sl (.st [(.int .i64),(.int .i64),(.int .i64)]))]) Xe.row:=⟨fun ds h=>by
 obtain⟨a0,b0,h0,t0,rfl⟩:=h;obtain⟨a1,b1,h1,t1,rfl⟩:=t0;obtain rfl:=t1;obtain⟨x0,rfl⟩:=OfTy.of (row:=Xm.row) _ h0;obtain⟨x1,rfl⟩:=OfTy.of (row:=(rL Xa.row)) _ h1;exact⟨⟨x0,x1⟩,rfl⟩⟩
structure X7 where
 Name:V zA
 Wait:Y
 deriving DecidableEq
def X7.row(x:X7):V D:= [.str x.Name,.bool x.Wait]
theorem X7.row_eq(x:X7):X7.row x= [.str x.Name,.bool x.Wait]:=rfl
instance:Row X7.row 2:=⟨fun _=>rfl,zD rfl⟩
instance:FlatRow X7.row:=⟨fun x d hd=>by simp only[X7.row_eq,zI,zH,or_false] at hd; rcases hd with rfl | rfl<;>rfl⟩
instance:OfTy (.st [.str,.bool]) X7.row:=⟨fun ds h=>by
 obtain⟨a0,b0,h0,t0,rfl⟩:=h;obtain⟨a1,b1,h1,t1,rfl⟩:=t0;obtain rfl:=t1;obtain⟨x0,rfl⟩:=OfTy.of (row:=rS) _ h0;obtain⟨x1,rfl⟩:=OfTy.of (row:=rB) _ h1;exact⟨⟨x0,x1⟩,rfl⟩⟩
structure X2 where
 A:X
 B:X
 Depth:X
 Minutes:X
 Meet:Y
 deriving DecidableEq
def X2.row(x:X2):V D:= [.int .i64 x.A,.int .i64 x.B,.int .i64 x.Depth,.int .i64 x.Minutes,.bool x.Meet]
theorem X2.row_eq(x:X2):X2.row x= [.int .i64 x.A,.int .i64 x.B,.int .i64 x.Depth,.int .i64 x.Minutes,.bool x.Meet]:=rfl
instance:Row X2.row 5:=⟨fun _=>rfl,zD rfl⟩
instance:FlatRow X2.row:=⟨fun x d hd=>by simp only[X2.row_eq,zI,zH,or_false] at hd; rcases hd with rfl | rfl | rfl | rfl | rfl<;>rfl⟩
instance:OfTy (.st [(.int .i64),(.int .i64),(.int .i64),(.int .i64),.bool]) X2.row:=⟨fun ds h=>by
 obtain⟨a0,b0,h0,t0,rfl⟩:=h;obtain⟨a1,b1,h1,t1,rfl⟩:=t0;obtain⟨a2,b2,h2,t2,rfl⟩:=t1;obtain⟨a3,b3,h3,t3,rfl⟩:=t2;obtain⟨a4,b4,h4,t4,rfl⟩:=t3;obtain rfl:=t4;obtain⟨x0,rfl⟩:=OfTy.of (row:=rI) _ h0;obtain⟨x1,rfl⟩:=OfTy.of (row:=rI) _ h1;obtain⟨x2,rfl⟩:=OfTy.of (row:=rI) _ h2;obtain⟨x3,rfl⟩:=OfTy.of (row:=rI) _ h3;obtain⟨x4,rfl⟩:=OfTy.of (row:=rB) _ h4;exact⟨⟨x0,x1,x2,x3,x4⟩,rfl⟩⟩
structure X1 where
 Points:V X7
 Segments:V X2
 deriving DecidableEq
def X1.row(x:X1):V D:= [.sl (zC X7.row x.Points),.sl (zC X2.row x.Segments)]
theorem X1.row_eq(x:X1):X1.row x= [.sl (zC X7.row x.Points),.sl (zC X2.row x.Segments)]:=rfl
instance:Row X1.row 2:=⟨fun _=>rfl,zD rfl⟩
instance:OfTy (.st [(.sl (.st [.str,.bool])),(.sl (.st [(.int .i64),(.int .i64),(.int .i64),(.int .i64),.bool]))]) X1.row:=⟨fun ds h=>by
 obtain⟨a0,b0,h0,t0,rfl⟩:=h;obtain⟨a1,b1,h1,t1,rfl⟩:=t0;obtain rfl:=t1;obtain⟨x0,rfl⟩:=OfTy.of (row:=(rL X7.row)) _ h0;obtain⟨x1,rfl⟩:=OfTy.of (row:=(rL X2.row)) _ h1;exact⟨⟨x0,x1⟩,rfl⟩⟩
structure X4 where
 Name:V zA
 Length:X
 Draught:X
 Line:X
 Tugs:X
 Slow:Y
 deriving DecidableEq
def X4.row(x:X4):V D:= [.str x.Name,.int .i64 x.Length,.int .i64 x.Draught,.int .i64 x.Line,.int .i64 x.Tugs,.bool x.Slow]
theorem X4.row_eq(x:X4):X4.row x= [.str x.Name,.int .i64 x.Length,.int .i64 x.Draught,.int .i64 x.Line,.int .i64 x.Tugs,.bool x.Slow]:=rfl
instance:Row X4.row 6:=⟨fun _=>rfl,zD rfl⟩
instance:FlatRow X4.row:=⟨fun x d hd=>by simp only[X4.row_eq,zI,zH,or_false] at hd; rcases hd with rfl | rfl | rfl | rfl | rfl | rfl<;>rfl⟩
instance:OfTy (.st [.str,(.int .i64),(.int .i64),(.int .i64),(.int .i64),.bool]) X4.row:=⟨fun ds h=>by
 obtain⟨a0,b0,h0,t0,rfl⟩:=h;obtain⟨a1,b1,h1,t1,rfl⟩:=t0;obtain⟨a2,b2,h2,t2,rfl⟩:=t1;obtain⟨a3,b3,h3,t3,rfl⟩:=t2;obtain⟨a4,b4,h4,t4,rfl⟩:=t3;obtain⟨a5,b5,h5,t5,rfl⟩:=t4;obtain rfl:=t5;obtain⟨x0,rfl⟩:=OfTy.of (row:=rS) _ h0;obtain⟨x1,rfl⟩:=OfTy.of (row:=rI) _ h1;obtain⟨x2,rfl⟩:=OfTy.of (row:=rI) _ h2;obtain⟨x3,rfl⟩:=OfTy.of (row:=rI) _ h3;obtain⟨x4,rfl⟩:=OfTy.of (row:=rI) _ h4;obtain⟨x5,rfl⟩:=OfTy.of (row:=rB) _ h5;exact⟨⟨x0,x1,x2,x3,x4,x5⟩,rfl⟩⟩
structure Xi where
 Gap:X
 NoMeet:Y
 deriving DecidableEq
def Xi.row(x:Xi):V D:= [.int .i64 x.Gap,.bool x.NoMeet]
theorem Xi.row_eq(x:Xi):Xi.row x= [.int .i64 x.Gap,.bool x.NoMeet]:=rfl
instance:Row Xi.row 2:=⟨fun _=>rfl,zD rfl⟩
instance:FlatRow Xi.row:=⟨fun x d hd=>by simp only[Xi.row_eq,zI,zH,or_false] at hd; rcases hd with rfl | rfl<;>rfl⟩
instance:OfTy (.st [(.int .i64),.bool]) Xi.row:=⟨fun ds h=>by
 obtain⟨a0,b0,h0,t0,rfl⟩:=h;obtain⟨a1,b1,h1,t1,rfl⟩:=t0;obtain rfl:=t1;obtain⟨x0,rfl⟩:=OfTy.of (row:=rI) _ h0;obtain⟨x1,rfl⟩:=OfTy.of (row:=rB) _ h1;exact⟨⟨x0,x1⟩,rfl⟩⟩
structure Xn where
 Tugs:X
 Pilots:X
 Rest:X
 Moves:V X
 deriving DecidableEq
def Xn.row(x:Xn):V D:= [.int .i64 x.Tugs,.int .i64 x.Pilots,.int .i64 x.Rest,.sl (zC rI x.Moves)]
theorem Xn.row_eq(x:Xn):Xn.row x= [.int .i64 x.Tugs,.int .i64 x.Pilots,.int .i64 x.Rest,.sl (zC rI x.Moves)]:=rfl
instance:Row Xn.row 4:=⟨fun _=>rfl,zD rfl⟩
instance:OfTy (.st [(.int .i64),(.int .i64),(.int .i64),(.sl (.int .i64))]) Xn.row:=⟨fun ds h=>by
 obtain⟨a0,b0,h0,t0,rfl⟩:=h;obtain⟨a1,b1,h1,t1,rfl⟩:=t0;obtain⟨a2,b2,h2,t2,rfl⟩:=t1;obtain⟨a3,b3,h3,t3,rfl⟩:=t2;obtain rfl:=t3;obtain⟨x0,rfl⟩:=OfTy.of (row:=rI) _ h0;obtain⟨x1,rfl⟩:=OfTy.of (row:=rI) _ h1;obtain⟨x2,rfl⟩:=OfTy.of (row:=rI) _ h2;obtain⟨x3,rfl⟩:=OfTy.of (row:=(rL rI)) _ h3;exact⟨⟨x0,x1,x2,x3⟩,rfl⟩⟩
structure X5 where
 Forecast:Xe
 Chart:X1
 Fleet:V X4
 Regime:Xi
 Crew:Xn
 deriving DecidableEq
def X5.row(x:X5):V D:= [.int .i64 x.Forecast.Tide.Mean,.sl (zC Xd.row x.Forecast.Tide.Parts),.sl (zC Xa.row x.Forecast.Surges),.sl (zC X7.row x.Chart.Points),.sl (zC X2.row x.Chart.Segments),.sl (zC X4.row x.Fleet),.int .i64 x.Regime.Gap,.bool x.Regime.NoMeet,.int .i64 x.Crew.Tugs,.int .i64 x.Crew.Pilots,.int .i64 x.Crew.Rest,.sl (zC rI x.Crew.Moves)]
theorem X5.row_eq(x:X5):X5.row x= [.int .i64 x.Forecast.Tide.Mean,.sl (zC Xd.row x.Forecast.Tide.Parts),.sl (zC Xa.row x.Forecast.Surges),.sl (zC X7.row x.Chart.Points),.sl (zC X2.row x.Chart.Segments),.sl (zC X4.row x.Fleet),.int .i64 x.Regime.Gap,.bool x.Regime.NoMeet,.int .i64 x.Crew.Tugs,.int .i64 x.Crew.Pilots,.int .i64 x.Crew.Rest,.sl (zC rI x.Crew.Moves)]:=rfl
instance:Row X5.row 12:=⟨fun _=>rfl,zD rfl⟩
instance:OfTy (.st [(.st [(.st [(.int .i64),(.sl (.st [(.int .i64),(.int .i64),(.int .i64)]))]),(.sl (.st [(.int .i64),(.int .i64),(.int .i64)]))]),(.st [(.sl (.st [.str,.bool])),(.sl (.st [(.int .i64),(.int .i64),(.int .i64),(.int .i64),.bool]))]),(.sl (.st [.str,(.int .i64),(.int .i64),(.int .i64),(.int .i64),.bool])),(.st [(.int .i64),.bool]),(.st [(.int .i64),(.int .i64),(.int .i64),(.sl (.int .i64))])]) X5.row:=⟨fun ds h=>by
 obtain⟨a0,b0,h0,t0,rfl⟩:=h;obtain⟨a1,b1,h1,t1,rfl⟩:=t0;obtain⟨a2,b2,h2,t2,rfl⟩:=t1;obtain⟨a3,b3,h3,t3,rfl⟩:=t2;obtain⟨a4,b4,h4,t4,rfl⟩:=t3;obtain rfl:=t4;obtain⟨x0,rfl⟩:=OfTy.of (row:=Xe.row) _ h0;obtain⟨x1,rfl⟩:=OfTy.of (row:=X1.row) _ h1;obtain⟨x2,rfl⟩:=OfTy.of (row:=(rL X4.row)) _ h2;obtain⟨x3,rfl⟩:=OfTy.of (row:=Xi.row) _ h3;obtain⟨x4,rfl⟩:=OfTy.of (row:=Xn.row) _ h4;exact⟨⟨x0,x1,x2,x3,x4⟩,rfl⟩⟩
structure Xb where
 Ship:X
 From:X
 To:X
 Ready:X
 Due:X
 deriving DecidableEq
def Xb.row(x:Xb):V D:= [.int .i64 x.Ship,.int .i64 x.From,.int .i64 x.To,.int .i64 x.Ready,.int .i64 x.Due]
theorem Xb.row_eq(x:Xb):Xb.row x= [.int .i64 x.Ship,.int .i64 x.From,.int .i64 x.To,.int .i64 x.Ready,.int .i64 x.Due]:=rfl
instance:Row Xb.row 5:=⟨fun _=>rfl,zD rfl⟩
instance:FlatRow Xb.row:=⟨fun x d hd=>by simp only[Xb.row_eq,zI,zH,or_false] at hd; rcases hd with rfl | rfl | rfl | rfl | rfl<;>rfl⟩
instance:OfTy (.st [(.int .i64),(.int .i64),(.int .i64),(.int .i64),(.int .i64)]) Xb.row:=⟨fun ds h=>by
 obtain⟨a0,b0,h0,t0,rfl⟩:=h;obtain⟨a1,b1,h1,t1,rfl⟩:=t0;obtain⟨a2,b2,h2,t2,rfl⟩:=t1;obtain⟨a3,b3,h3,t3,rfl⟩:=t2;obtain⟨a4,b4,h4,t4,rfl⟩:=t3;obtain rfl:=t4;obtain⟨x0,rfl⟩:=OfTy.of (row:=rI) _ h0;obtain⟨x1,rfl⟩:=OfTy.of (row:=rI) _ h1;obtain⟨x2,rfl⟩:=OfTy.of (row:=rI) _ h2;obtain⟨x3,rfl⟩:=OfTy.of (row:=rI) _ h3;obtain⟨x4,rfl⟩:=OfTy.of (row:=rI) _ h4;exact⟨⟨x0,x1,x2,x3,x4⟩,rfl⟩⟩
structure X9 where
 Segment:X
 From:X
 To:X
 deriving DecidableEq
def X9.row(x:X9):V D:= [.int .i64 x.Segment,.int .i64 x.From,.int .i64 x.To]
theorem X9.row_eq(x:X9):X9.row x= [.int .i64 x.Segment,.int .i64 x.From,.int .i64 x.To]:=rfl
instance:Row X9.row 3:=⟨fun _=>rfl,zD rfl⟩
instance:FlatRow X9.row:=⟨fun x d hd=>by simp only[X9.row_eq,zI,zH,or_false] at hd; rcases hd with rfl | rfl | rfl<;>rfl⟩
instance:OfTy (.st [(.int .i64),(.int .i64),(.int .i64)]) X9.row:=⟨fun ds h=>by
 obtain⟨a0,b0,h0,t0,rfl⟩:=h;obtain⟨a1,b1,h1,t1,rfl⟩:=t0;obtain⟨a2,b2,h2,t2,rfl⟩:=t1;obtain rfl:=t2;obtain⟨x0,rfl⟩:=OfTy.of (row:=rI) _ h0;obtain⟨x1,rfl⟩:=OfTy.of (row:=rI) _ h1;obtain⟨x2,rfl⟩:=OfTy.of (row:=rI) _ h2;exact⟨⟨x0,x1,x2⟩,rfl⟩⟩
structure X3 where
 Ship:X
 Segment:X
 Toward:Y
 Start:X
 End:X
 deriving DecidableEq
def X3.row(x:X3):V D:= [.int .i64 x.Ship,.int .i64 x.Segment,.bool x.Toward,.int .i64 x.Start,.int .i64 x.End]
theorem X3.row_eq(x:X3):X3.row x= [.int .i64 x.Ship,.int .i64 x.Segment,.bool x.Toward,.int .i64 x.Start,.int .i64 x.End]:=rfl
instance:Row X3.row 5:=⟨fun _=>rfl,zD rfl⟩
instance:FlatRow X3.row:=⟨fun x d hd=>by simp only[X3.row_eq,zI,zH,or_false] at hd; rcases hd with rfl | rfl | rfl | rfl | rfl<;>rfl⟩
instance:OfTy (.st [(.int .i64),(.int .i64),.bool,(.int .i64),(.int .i64)]) X3.row:=⟨fun ds h=>by
 obtain⟨a0,b0,h0,t0,rfl⟩:=h;obtain⟨a1,b1,h1,t1,rfl⟩:=t0;obtain⟨a2,b2,h2,t2,rfl⟩:=t1;obtain⟨a3,b3,h3,t3,rfl⟩:=t2;obtain⟨a4,b4,h4,t4,rfl⟩:=t3;obtain rfl:=t4;obtain⟨x0,rfl⟩:=OfTy.of (row:=rI) _ h0;obtain⟨x1,rfl⟩:=OfTy.of (row:=rI) _ h1;obtain⟨x2,rfl⟩:=OfTy.of (row:=rB) _ h2;obtain⟨x3,rfl⟩:=OfTy.of (row:=rI) _ h3;obtain⟨x4,rfl⟩:=OfTy.of (row:=rI) _ h4;exact⟨⟨x0,x1,x2,x3,x4⟩,rfl⟩⟩
structure X0 where
 Start:X
 Arrival:X
 Cost:X
 Passages:V X3
 deriving DecidableEq
def X0.row(x:X0):V D:= [.int .i64 x.Start,.int .i64 x.Arrival,.int .i64 x.Cost,.sl (zC X3.row x.Passages)]
theorem X0.row_eq(x:X0):X0.row x= [.int .i64 x.Start,.int .i64 x.Arrival,.int .i64 x.Cost,.sl (zC X3.row x.Passages)]:=rfl
instance:Row X0.row 4:=⟨fun _=>rfl,zD rfl⟩
instance:OfTy (.st [(.int .i64),(.int .i64),(.int .i64),(.sl (.st [(.int .i64),(.int .i64),.bool,(.int .i64),(.int .i64)]))]) X0.row:=⟨fun ds h=>by
 obtain⟨a0,b0,h0,t0,rfl⟩:=h;obtain⟨a1,b1,h1,t1,rfl⟩:=t0;obtain⟨a2,b2,h2,t2,rfl⟩:=t1;obtain⟨a3,b3,h3,t3,rfl⟩:=t2;obtain rfl:=t3;obtain⟨x0,rfl⟩:=OfTy.of (row:=rI) _ h0;obtain⟨x1,rfl⟩:=OfTy.of (row:=rI) _ h1;obtain⟨x2,rfl⟩:=OfTy.of (row:=rI) _ h2;obtain⟨x3,rfl⟩:=OfTy.of (row:=(rL X3.row)) _ h3;exact⟨⟨x0,x1,x2,x3⟩,rfl⟩⟩
structure X6 where
 From:X
 To:X
 deriving DecidableEq
def X6.row(x:X6):V D:= [.int .i64 x.From,.int .i64 x.To]
theorem X6.row_eq(x:X6):X6.row x= [.int .i64 x.From,.int .i64 x.To]:=rfl
instance:Row X6.row 2:=⟨fun _=>rfl,zD rfl⟩
instance:FlatRow X6.row:=⟨fun x d hd=>by simp only[X6.row_eq,zI,zH,or_false] at hd; rcases hd with rfl | rfl<;>rfl⟩
instance:OfTy (.st [(.int .i64),(.int .i64)]) X6.row:=⟨fun ds h=>by
 obtain⟨a0,b0,h0,t0,rfl⟩:=h;obtain⟨a1,b1,h1,t1,rfl⟩:=t0;obtain rfl:=t1;obtain⟨x0,rfl⟩:=OfTy.of (row:=rI) _ h0;obtain⟨x1,rfl⟩:=OfTy.of (row:=rI) _ h1;exact⟨⟨x0,x1⟩,rfl⟩⟩
structure Xf where
 h:X5
 lists:V (V X0)
 clash:V (V (V (V Y)))
 rest:V X
 best:V X
 cost:X
 found:Y
 deriving DecidableEq
def Xf.row(x:Xf):V D:= [.int .i64 x.h.Forecast.Tide.Mean,.sl (zC Xd.row x.h.Forecast.Tide.Parts),.sl (zC Xa.row x.h.Forecast.Surges),.sl (zC X7.row x.h.Chart.Points),.sl (zC X2.row x.h.Chart.Segments),.sl (zC X4.row x.h.Fleet),.int .i64 x.h.Regime.Gap,.bool x.h.Regime.NoMeet,.int .i64 x.h.Crew.Tugs,.int .i64 x.h.Crew.Pilots,.int .i64 x.h.Crew.Rest,.sl (zC rI x.h.Crew.Moves),.sl (zC (rL X0.row) x.lists),.sl (zC (rL (rL (rL rB))) x.clash),.sl (zC rI x.rest),.sl (zC rI x.best),.int .i64 x.cost,.bool x.found]
theorem Xf.row_eq(x:Xf):Xf.row x= [.int .i64 x.h.Forecast.Tide.Mean,.sl (zC Xd.row x.h.Forecast.Tide.Parts),.sl (zC Xa.row x.h.Forecast.Surges),.sl (zC X7.row x.h.Chart.Points),.sl (zC X2.row x.h.Chart.Segments),.sl (zC X4.row x.h.Fleet),.int .i64 x.h.Regime.Gap,.bool x.h.Regime.NoMeet,.int .i64 x.h.Crew.Tugs,.int .i64 x.h.Crew.Pilots,.int .i64 x.h.Crew.Rest,.sl (zC rI x.h.Crew.Moves),.sl (zC (rL X0.row) x.lists),.sl (zC (rL (rL (rL rB))) x.clash),.sl (zC rI x.rest),.sl (zC rI x.best),.int .i64 x.cost,.bool x.found]:=rfl
instance:Row Xf.row 18:=⟨fun _=>rfl,zD rfl⟩
instance:OfTy (.st [(.st [(.st [(.st [(.int .i64),(.sl (.st [(.int .i64),(.int .i64),(.int .i64)]))]),(.sl (.st [(.int .i64),(.int .i64),(.int .i64)]))]),(.st [(.sl (.st [.str,.bool])),(.sl (.st [(.int .i64),(.int .i64),(.int .i64),(.int .i64),.bool]))]),(.sl (.st [.str,(.int .i64),(.int .i64),(.int .i64),(.int .i64),.bool])),(.st [(.int .i64),.bool]),(.st [(.int .i64),(.int .i64),(.int .i64),(.sl (.int .i64))])]),(.sl (.sl (.st [(.int .i64),(.int .i64),(.int .i64),(.sl (.st [(.int .i64),(.int .i64),.bool,(.int .i64),(.int .i64)]))]))),(.sl (.sl (.sl (.sl .bool)))),(.sl (.int .i64)),(.sl (.int .i64)),(.int .i64),.bool]) Xf.row:=⟨fun ds h=>by
 obtain⟨a0,b0,h0,t0,rfl⟩:=h;obtain⟨a1,b1,h1,t1,rfl⟩:=t0;obtain⟨a2,b2,h2,t2,rfl⟩:=t1;obtain⟨a3,b3,h3,t3,rfl⟩:=t2;obtain⟨a4,b4,h4,t4,rfl⟩:=t3;obtain⟨a5,b5,h5,t5,rfl⟩:=t4;obtain⟨a6,b6,h6,t6,rfl⟩:=t5;obtain rfl:=t6;obtain⟨x0,rfl⟩:=OfTy.of (row:=X5.row) _ h0;obtain⟨x1,rfl⟩:=OfTy.of (row:=(rL (rL X0.row))) _ h1;obtain⟨x2,rfl⟩:=OfTy.of (row:=(rL (rL (rL (rL rB))))) _ h2;obtain⟨x3,rfl⟩:=OfTy.of (row:=(rL rI)) _ h3;obtain⟨x4,rfl⟩:=OfTy.of (row:=(rL rI)) _ h4;obtain⟨x5,rfl⟩:=OfTy.of (row:=rI) _ h5;obtain⟨x6,rfl⟩:=OfTy.of (row:=rB) _ h6;exact⟨⟨x0,x1,x2,x3,x4,x5,x6⟩,rfl⟩⟩
abbrev AY(x:Xf):V XC:= [.d (.int .i64 x.h.Forecast.Tide.Mean),.d (.sl (zC Xd.row x.h.Forecast.Tide.Parts)),.d (.sl (zC Xa.row x.h.Forecast.Surges)),.d (.sl (zC X7.row x.h.Chart.Points)),.d (.sl (zC X2.row x.h.Chart.Segments)),.d (.sl (zC X4.row x.h.Fleet)),.d (.int .i64 x.h.Regime.Gap),.d (.bool x.h.Regime.NoMeet),.d (.int .i64 x.h.Crew.Tugs),.d (.int .i64 x.h.Crew.Pilots),.d (.int .i64 x.h.Crew.Rest),.d (.sl (zC rI x.h.Crew.Moves)),.d (.sl (zC (rL X0.row) x.lists)),.d (.sl (zC (rL (rL (rL rB))) x.clash)),.d (.sl (zC rI x.rest)),.r 0,.d (.int .i64 x.cost),.d (.bool x.found)]
abbrev AZ(x:Xf):Aq:= [(1,zC rI x.best)]
structure Xc where
 From:X
 To:X
 A:X
 B:X
 deriving DecidableEq
def Xc.row(x:Xc):V D:= [.int .i64 x.From,.int .i64 x.To,.int .i64 x.A,.int .i64 x.B]
theorem Xc.row_eq(x:Xc):Xc.row x= [.int .i64 x.From,.int .i64 x.To,.int .i64 x.A,.int .i64 x.B]:=rfl
instance:Row Xc.row 4:=⟨fun _=>rfl,zD rfl⟩
instance:FlatRow Xc.row:=⟨fun x d hd=>by simp only[Xc.row_eq,zI,zH,or_false] at hd; rcases hd with rfl | rfl | rfl | rfl<;>rfl⟩
instance:OfTy (.st [(.int .i64),(.int .i64),(.int .i64),(.int .i64)]) Xc.row:=⟨fun ds h=>by
 obtain⟨a0,b0,h0,t0,rfl⟩:=h;obtain⟨a1,b1,h1,t1,rfl⟩:=t0;obtain⟨a2,b2,h2,t2,rfl⟩:=t1;obtain⟨a3,b3,h3,t3,rfl⟩:=t2;obtain rfl:=t3;obtain⟨x0,rfl⟩:=OfTy.of (row:=rI) _ h0;obtain⟨x1,rfl⟩:=OfTy.of (row:=rI) _ h1;obtain⟨x2,rfl⟩:=OfTy.of (row:=rI) _ h2;obtain⟨x3,rfl⟩:=OfTy.of (row:=rI) _ h3;exact⟨⟨x0,x1,x2,x3⟩,rfl⟩⟩
structure X8 where
 i0:Y
 i1:Y
 i2:Y
 i3:Y
 i4:Y
 i5:Y
 i6:Y
 i7:Y
 deriving DecidableEq
def X8.row(x:X8):V D:= [.bool x.i0,.bool x.i1,.bool x.i2,.bool x.i3,.bool x.i4,.bool x.i5,.bool x.i6,.bool x.i7]
theorem X8.row_eq(x:X8):X8.row x= [.bool x.i0,.bool x.i1,.bool x.i2,.bool x.i3,.bool x.i4,.bool x.i5,.bool x.i6,.bool x.i7]:=rfl
instance:Row X8.row 8:=⟨fun _=>rfl,zD rfl⟩
def X8.set(x:X8)(n:Z)(v:Y):X8:=⟨bif n==0 then v else x.i0,bif n==1 then v else x.i1,bif n==2 then v else x.i2,bif n==3 then v else x.i3,bif n==4 then v else x.i4,bif n==5 then v else x.i5,bif n==6 then v else x.i6,bif n==7 then v else x.i7⟩
theorem X8.set_eq(x:X8){n:Z}{v:Y}(h:n<8):BT (zC AC.dat (X8.row x)) n [.dat (.bool v)]=zC AC.dat (X8.row (X8.set x n v)):=by
 match n,h with
 | 0,_=>rfl
 | 1,_=>rfl
 | 2,_=>rfl
 | 3,_=>rfl
 | 4,_=>rfl
 | 5,_=>rfl
 | 6,_=>rfl
 | 7,_=>rfl
instance:FlatRow X8.row:=⟨fun x d hd=>by simp only[X8.row_eq,zI,zH,or_false] at hd; rcases hd with rfl | rfl | rfl | rfl | rfl | rfl | rfl | rfl<;>rfl⟩
instance:OfTy (.st [.bool,.bool,.bool,.bool,.bool,.bool,.bool,.bool]) X8.row:=⟨fun ds h=>by
 obtain⟨a0,b0,h0,t0,rfl⟩:=h;obtain⟨a1,b1,h1,t1,rfl⟩:=t0;obtain⟨a2,b2,h2,t2,rfl⟩:=t1;obtain⟨a3,b3,h3,t3,rfl⟩:=t2;obtain⟨a4,b4,h4,t4,rfl⟩:=t3;obtain⟨a5,b5,h5,t5,rfl⟩:=t4;obtain⟨a6,b6,h6,t6,rfl⟩:=t5;obtain⟨a7,b7,h7,t7,rfl⟩:=t6;obtain rfl:=t7;obtain⟨x0,rfl⟩:=OfTy.of (row:=rB) _ h0;obtain⟨x1,rfl⟩:=OfTy.of (row:=rB) _ h1;obtain⟨x2,rfl⟩:=OfTy.of (row:=rB) _ h2;obtain⟨x3,rfl⟩:=OfTy.of (row:=rB) _ h3;obtain⟨x4,rfl⟩:=OfTy.of (row:=rB) _ h4;obtain⟨x5,rfl⟩:=OfTy.of (row:=rB) _ h5;obtain⟨x6,rfl⟩:=OfTy.of (row:=rB) _ h6;obtain⟨x7,rfl⟩:=OfTy.of (row:=rB) _ h7;exact⟨⟨x0,x1,x2,x3,x4,x5,x6,x7⟩,rfl⟩⟩
structure Xl where
 waits:V Y
 minutes:V X
 sure:V (V X6)
 deriving DecidableEq
def Xl.row(x:Xl):V D:= [.sl (zC rB x.waits),.sl (zC rI x.minutes),.sl (zC (rL X6.row) x.sure)]
theorem Xl.row_eq(x:Xl):Xl.row x= [.sl (zC rB x.waits),.sl (zC rI x.minutes),.sl (zC (rL X6.row) x.sure)]:=rfl
instance:Row Xl.row 3:=⟨fun _=>rfl,zD rfl⟩
instance:OfTy (.st [(.sl .bool),(.sl (.int .i64)),(.sl (.sl (.st [(.int .i64),(.int .i64)])))]) Xl.row:=⟨fun ds h=>by
 obtain⟨a0,b0,h0,t0,rfl⟩:=h;obtain⟨a1,b1,h1,t1,rfl⟩:=t0;obtain⟨a2,b2,h2,t2,rfl⟩:=t1;obtain rfl:=t2;obtain⟨x0,rfl⟩:=OfTy.of (row:=(rL rB)) _ h0;obtain⟨x1,rfl⟩:=OfTy.of (row:=(rL rI)) _ h1;obtain⟨x2,rfl⟩:=OfTy.of (row:=(rL (rL X6.row))) _ h2;exact⟨⟨x0,x1,x2⟩,rfl⟩⟩
structure Xk where
 i0:X
 i1:X
 deriving DecidableEq
def Xk.row(x:Xk):V D:= [.int .i64 x.i0,.int .i64 x.i1]
theorem Xk.row_eq(x:Xk):Xk.row x= [.int .i64 x.i0,.int .i64 x.i1]:=rfl
instance:Row Xk.row 2:=⟨fun _=>rfl,zD rfl⟩
instance:FlatRow Xk.row:=⟨fun x d hd=>by simp only[Xk.row_eq,zI,zH,or_false] at hd; rcases hd with rfl | rfl<;>rfl⟩
instance:OfTy (.st [(.int .i64),(.int .i64)]) Xk.row:=⟨fun ds h=>by
 obtain⟨a0,b0,h0,t0,rfl⟩:=h;obtain⟨a1,b1,h1,t1,rfl⟩:=t0;obtain rfl:=t1;obtain⟨x0,rfl⟩:=OfTy.of (row:=rI) _ h0;obtain⟨x1,rfl⟩:=OfTy.of (row:=rI) _ h1;exact⟨⟨x0,x1⟩,rfl⟩⟩
structure Xg where
 h:X5
 choices:V (V X0)
 plan:V X0
 choice:V X
 best:V X
 least:Xk
 found:Y
abbrev Dg(F_w0:FuncId)(caps_w0:V D)(x:Xg):V XC:= [.d (.int .i64 x.h.Forecast.Tide.Mean),.d (.sl (zC Xd.row x.h.Forecast.Tide.Parts)),.d (.sl (zC Xa.row x.h.Forecast.Surges)),.d (.sl (zC X7.row x.h.Chart.Points)),.d (.sl (zC X2.row x.h.Chart.Segments)),.d (.sl (zC X4.row x.h.Fleet)),.d (.int .i64 x.h.Regime.Gap),.d (.bool x.h.Regime.NoMeet),.d (.int .i64 x.h.Crew.Tugs),.d (.int .i64 x.h.Crew.Pilots),.d (.int .i64 x.h.Crew.Rest),.d (.sl (zC rI x.h.Crew.Moves)),.d (.sl (zC (rL X0.row) x.choices)),.d (.clo F_w0 caps_w0),.r 0,.r 1,.r 2,.d (.int .i64 x.least.i0),.d (.int .i64 x.least.i1),.d (.bool x.found)]
abbrev Dh(x:Xg):Aq:= [(4,zC X0.row x.plan),(1,zC rI x.choice),(1,zC rI x.best)]
structure Xh where
 sets:V X
 most:X
 groups:V X
 who:V X
 deriving DecidableEq
def Xh.row(x:Xh):V D:= [.sl (zC rU x.sets),.int .i64 x.most,.sl (zC rU x.groups),.sl (zC rI x.who)]
theorem Xh.row_eq(x:Xh):Xh.row x= [.sl (zC rU x.sets),.int .i64 x.most,.sl (zC rU x.groups),.sl (zC rI x.who)]:=rfl
instance:Row Xh.row 4:=⟨fun _=>rfl,zD rfl⟩
instance:OfTy (.st [(.sl (.int .u64)),(.int .i64),(.sl (.int .u64)),(.sl (.int .i64))]) Xh.row:=⟨fun ds h=>by
 obtain⟨a0,b0,h0,t0,rfl⟩:=h;obtain⟨a1,b1,h1,t1,rfl⟩:=t0;obtain⟨a2,b2,h2,t2,rfl⟩:=t1;obtain⟨a3,b3,h3,t3,rfl⟩:=t2;obtain rfl:=t3;obtain⟨x0,rfl⟩:=OfTy.of (row:=(rL rU)) _ h0;obtain⟨x1,rfl⟩:=OfTy.of (row:=rI) _ h1;obtain⟨x2,rfl⟩:=OfTy.of (row:=(rL rU)) _ h2;obtain⟨x3,rfl⟩:=OfTy.of (row:=(rL rI)) _ h3;exact⟨⟨x0,x1,x2,x3⟩,rfl⟩⟩
abbrev CH(x:Xh):V XC:= [.d (.sl (zC rU x.sets)),.d (.int .i64 x.most),.r 0,.r 1]
abbrev CI(x:Xh):Aq:= [(1,zC rU x.groups),(1,zC rI x.who)]
def zt:=zE @bH (zE @kz (zE @uw (zE @kx (zE @uu (zE @ky (zE @uv (zE @kw (zE @ut (zE @Xd.row_eq (zE @Xm.row_eq (zE @Xa.row_eq (zE @Xe.row_eq (zE @X7.row_eq (zE @X2.row_eq (zE @X1.row_eq (zE @X4.row_eq (zE @Xi.row_eq (zE @Xn.row_eq (zE @X5.row_eq (zE @Xb.row_eq (zE @X9.row_eq (zE @X3.row_eq (zE @X0.row_eq (zE @X6.row_eq (zE @Xf.row_eq (zE @Xc.row_eq (zE @X8.row_eq (zE @Xl.row_eq (zE @Xk.row_eq (@Xh.row_eq))))))))))))))))))))))))))))))
def J:=zE zu (zE zw (zE zy (zE zv zt)))
def NA(a0:V Xd)(a1:X):W X:=
if(decide ((zM .i64 (a1 - (a0.length:X)))<(0:X))) then(
 O (-1:X))
else(
 O (zM .i64 (a1 - (a0.length:X))))
def QD(a0:Xm)(a1:X):W X:=
(NA a0.Parts a1).bind fun r1=>
if(decide (r1<(0:X))) then(
 O (-1:X))
else(
 O r1)
def NG(a0:V Xa)(a1:X):W X:=
if(decide ((zM .i64 (a1 - (a0.length:X)))<(0:X))) then(
 O (-1:X))
else(
 O (zM .i64 (a1 - (a0.length:X))))
def Nx(a0:Xe)(a1:X):W X:=
(QD a0.Tide a1).bind fun r1=>
if(decide (r1<(0:X))) then(
 O (-1:X))
else(
 (NG a0.Surges r1).bind fun r3=>
 if(decide (r3<(0:X))) then(
 O (-1:X))
 else(
 O r3))
def NB(a0:X7)(a1:X):W X:=
if(decide ((zM .i64 (a1 - (a0.Name.length:X)))<(0:X))) then(
 O (-1:X))
else(
 O (zM .i64 (a1 - (a0.Name.length:X))))
def GD(a0:V X7):Z→X→X→W X
| 0,_,_=>U
| n+1,v2,v3=>
 if(decide (v3<(a0.length:X))) then(
 (ix a0 v3).bind fun x5=>
 (NB x5 v2).bind fun r6=>
 if(decide (r6<(0:X))) then(
  O (-1:X))
 else(
  GD a0 n r6 (zM .i64 (v3+(1:X)))))
 else(
 O v2)
def NC(a0:V X7)(a1:X):W X:=
if(decide ((zM .i64 (a1 - (a0.length:X)))<(0:X))) then(
 O (-1:X))
else(
 GD a0 bigN (zM .i64 (a1 - (a0.length:X))) (0:X))
def ND(a0:V X2)(a1:X):W X:=
if(decide ((zM .i64 (a1 - (a0.length:X)))<(0:X))) then(
 O (-1:X))
else(
 O (zM .i64 (a1 - (a0.length:X))))
def Nv(a0:X1)(a1:X):W X:=
(NC a0.Points a1).bind fun r1=>
if(decide (r1<(0:X))) then(
 O (-1:X))
else(
 (ND a0.Segments r1).bind fun r3=>
 if(decide (r3<(0:X))) then(
 O (-1:X))
 else(
 O r3))
def NE(a0:X4)(a1:X):W X:=
if(decide ((zM .i64 (a1 - (a0.Name.length:X)))<(0:X))) then(
 O (-1:X))
else(
 O (zM .i64 (a1 - (a0.Name.length:X))))
def GE(a0:V X4):Z→X→X→W X
| 0,_,_=>U
| n+1,v2,v3=>
 if(decide (v3<(a0.length:X))) then(
 (ix a0 v3).bind fun x5=>
 (NE x5 v2).bind fun r6=>
 if(decide (r6<(0:X))) then(
  O (-1:X))
 else(
  GE a0 n r6 (zM .i64 (v3+(1:X)))))
 else(
 O v2)
def NF(a0:V X4)(a1:X):W X:=
if(decide ((zM .i64 (a1 - (a0.length:X)))<(0:X))) then(
 O (-1:X))
else(
 GE a0 bigN (zM .i64 (a1 - (a0.length:X))) (0:X))
def Nz(a0:V X)(a1:X):W X:=
if(decide ((zM .i64 (a1 - (a0.length:X)))<(0:X))) then(
 O (-1:X))
else(
 O (zM .i64 (a1 - (a0.length:X))))
def QC(a0:Xn)(a1:X):W X:=
(Nz a0.Moves a1).bind fun r1=>
if(decide (r1<(0:X))) then(
 O (-1:X))
else(
 O r1)
def Ny(a0:X5)(a1:X):W X:=
(Nx a0.Forecast a1).bind fun r1=>
if(decide (r1<(0:X))) then(
 O (-1:X))
else(
 (Nv a0.Chart r1).bind fun r3=>
 if(decide (r3<(0:X))) then(
 O (-1:X))
 else(
 (NF a0.Fleet r3).bind fun r5=>
 if(decide (r5<(0:X))) then(
  O (-1:X))
 else(
  (QC a0.Crew r5).bind fun r7=>
  if(decide (r7<(0:X))) then(
  O (-1:X))
  else(
  O r7))))
def Nu(a0:V Xb)(a1:X):W X:=
if(decide ((zM .i64 (a1 - (a0.length:X)))<(0:X))) then(
 O (-1:X))
else(
 O (zM .i64 (a1 - (a0.length:X))))
def Nw(a0:V X9)(a1:X):W X:=
if(decide ((zM .i64 (a1 - (a0.length:X)))<(0:X))) then(
 O (-1:X))
else(
 O (zM .i64 (a1 - (a0.length:X))))
def QH(a0:Xd):W Xd:=
O a0
def II(a0:V Xd):Z→X→(V Xd)→W (V Xd)
| 0,_,_=>U
| n+1,v2,v3=>
 if(decide (v2<(a0.length:X))) then(
 (ix a0 v2).bind fun x5=>
 (QH x5).bind fun r6=>
 (ix v3 v2).bind fun x7=>
 II a0 n (zM .i64 (v2+(1:X))) (v3.set (zB v2) r6))
 else(
 O v3)
def NK(a0:V Xd):W (V Xd):=
(BQ (a0.length:X) (a0.length:X) 24).bind fun n1=>
II a0 bigN (0:X) (zG n1 (⟨(0:X),(0:X),(0:X)⟩:Xd))
def QN(a0:Xm):W Xm:=
(NK a0.Parts).bind fun r1=>
O (⟨a0.Mean,r1⟩:Xm)
def QM(a0:Xa):W Xa:=
O a0
def IM(a0:V Xa):Z→X→(V Xa)→W (V Xa)
| 0,_,_=>U
| n+1,v2,v3=>
 if(decide (v2<(a0.length:X))) then(
 (ix a0 v2).bind fun x5=>
 (QM x5).bind fun r6=>
 (ix v3 v2).bind fun x7=>
 IM a0 n (zM .i64 (v2+(1:X))) (v3.set (zB v2) r6))
 else(
 O v3)
def NO(a0:V Xa):W (V Xa):=
(BQ (a0.length:X) (a0.length:X) 24).bind fun n1=>
IM a0 bigN (0:X) (zG n1 (⟨(0:X),(0:X),(0:X)⟩:Xa))
def NI(a0:Xe):W Xe:=
(QN a0.Tide).bind fun r1=>
(NO a0.Surges).bind fun r2=>
O (⟨r1,r2⟩:Xe)
def QI(a0:X7):W X7:=
O a0
def IJ(a0:V X7):Z→X→(V X7)→W (V X7)
| 0,_,_=>U
| n+1,v2,v3=>
 if(decide (v2<(a0.length:X))) then(
 (ix a0 v2).bind fun x5=>
 (QI x5).bind fun r6=>
 (ix v3 v2).bind fun x7=>
 IJ a0 n (zM .i64 (v2+(1:X))) (v3.set (zB v2) r6))
 else(
 O v3)
def NL(a0:V X7):W (V X7):=
(BQ (a0.length:X) (a0.length:X) 24).bind fun n1=>
IJ a0 bigN (0:X) (zG n1 (⟨([]:V zA),E⟩:X7))
def QK(a0:X2):W X2:=
O a0
def IK(a0:V X2):Z→X→(V X2)→W (V X2)
| 0,_,_=>U
| n+1,v2,v3=>
 if(decide (v2<(a0.length:X))) then(
 (ix a0 v2).bind fun x5=>
 (QK x5).bind fun r6=>
 (ix v3 v2).bind fun x7=>
 IK a0 n (zM .i64 (v2+(1:X))) (v3.set (zB v2) r6))
 else(
 O v3)
def NM(a0:V X2):W (V X2):=
(BQ (a0.length:X) (a0.length:X) 40).bind fun n1=>
IK a0 bigN (0:X) (zG n1 (⟨(0:X),(0:X),(0:X),(0:X),E⟩:X2))
def NH(a0:X1):W X1:=
(NL a0.Points).bind fun r1=>
(NM a0.Segments).bind fun r2=>
O (⟨r1,r2⟩:X1)
def QL(a0:X4):W X4:=
O a0
def IL(a0:V X4):Z→X→(V X4)→W (V X4)
| 0,_,_=>U
| n+1,v2,v3=>
 if(decide (v2<(a0.length:X))) then(
 (ix a0 v2).bind fun x5=>
 (QL x5).bind fun r6=>
 (ix v3 v2).bind fun x7=>
 IL a0 n (zM .i64 (v2+(1:X))) (v3.set (zB v2) r6))
 else(
 O v3)
def NN(a0:V X4):W (V X4):=
(BQ (a0.length:X) (a0.length:X) 56).bind fun n1=>
IL a0 bigN (0:X) (zG n1 (⟨([]:V zA),(0:X),(0:X),(0:X),(0:X),E⟩:X4))
def QJ(a0:Xi):W Xi:=
O a0
def IH(a0:V X):Z→X→(V X)→W (V X)
| 0,_,_=>U
| n+1,v2,v3=>
 if(decide (v2<(a0.length:X))) then(
 (ix a0 v2).bind fun x5=>
 (ix v3 v2).bind fun x6=>
 IH a0 n (zM .i64 (v2+(1:X))) (v3.set (zB v2) x5))
 else(
 O v3)
def NJ(a0:V X):W (V X):=
(BQ (a0.length:X) (a0.length:X) 8).bind fun n1=>
IH a0 bigN (0:X) (zG n1 (0:X))
def QG(a0:Xn):W Xn:=
(NJ a0.Moves).bind fun r1=>
O (⟨a0.Tugs,a0.Pilots,a0.Rest,r1⟩:Xn)
def GH(a0:X5):W X5:=
(NI a0.Forecast).bind fun r1=>
(NH a0.Chart).bind fun r2=>
(NN a0.Fleet).bind fun r3=>
(QJ a0.Regime).bind fun r4=>
(QG a0.Crew).bind fun r5=>
O (⟨r1,r2,r3,r4,r5⟩:X5)
def QE(a0:Xb):W Xb:=
O a0
def IF(a0:V Xb):Z→X→(V Xb)→W (V Xb)
| 0,_,_=>U
| n+1,v2,v3=>
 if(decide (v2<(a0.length:X))) then(
 (ix a0 v2).bind fun x5=>
 (QE x5).bind fun r6=>
 (ix v3 v2).bind fun x7=>
 IF a0 n (zM .i64 (v2+(1:X))) (v3.set (zB v2) r6))
 else(
 O v3)
def GF(a0:V Xb):W (V Xb):=
(BQ (a0.length:X) (a0.length:X) 40).bind fun n1=>
IF a0 bigN (0:X) (zG n1 (⟨(0:X),(0:X),(0:X),(0:X),(0:X)⟩:Xb))
def QF(a0:X9):W X9:=
O a0
def IG(a0:V X9):Z→X→(V X9)→W (V X9)
| 0,_,_=>U
| n+1,v2,v3=>
 if(decide (v2<(a0.length:X))) then(
 (ix a0 v2).bind fun x5=>
 (QF x5).bind fun r6=>
 (ix v3 v2).bind fun x7=>
 IG a0 n (zM .i64 (v2+(1:X))) (v3.set (zB v2) r6))
 else(
 O v3)
def GG(a0:V X9):W (V X9):=
(BQ (a0.length:X) (a0.length:X) 24).bind fun n1=>
IG a0 bigN (0:X) (zG n1 (⟨(0:X),(0:X),(0:X)⟩:X9))
def Aw(a0 a1 a2:X):W Y:=
if(decide (a1≤a0)) then(
 O (decide (a0≤a2)))
else(
 O E)
def O9(a0:Xd):W Y:=
(Aw a0.Amp (0:X) (1000:X)).bind fun r1=>
if r1 then(
 (Aw a0.Period (4:X) (2880:X)).bind fun r3=>
 if r3 then(
 if((zM .i64 (zJ a0.Period (4:X)))==(0:X)) then(
  (Aw a0.Phase (0:X) (zM .i64 (a0.Period - (1:X)))).bind fun r6=>
  O r6)
 else(
  O E))
 else(
 O E))
else(
 O E)
def Jf(a0:Xm):Z→X→W Y
| 0,_=>U
| n+1,v4=>
 if(decide (v4<(a0.Parts.length:X))) then(
 (ix a0.Parts v4).bind fun x6=>
 (O9 x6).bind fun r7=>
 if r7 then(
  Jf a0 n (zM .i64 (v4+(1:X))))
 else(
  O E))
 else(
 O F)
def Oj(a0:Xm):W Y:=
(Aw a0.Mean (-1000:X) (1000:X)).bind fun r1=>
if r1 then(
 if(decide ((4:X)<(a0.Parts.length:X))) then(
 O E)
 else(
 Jf a0 bigN (0:X)))
else(
 O E)
def Oi(a0:Xa):W Y:=
(Aw a0.From (0:X) (2880:X)).bind fun r1=>
if r1 then(
 (Aw a0.Low (-500:X) (500:X)).bind fun r3=>
 if r3 then(
 (Aw a0.High a0.Low (500:X)).bind fun r5=>
 O r5)
 else(
 O E))
else(
 O E)
def GL(a0:Xe):Z→X→W Y
| 0,_=>U
| n+1,v7=>
 if(decide (v7<(a0.Surges.length:X))) then(
 (ix a0.Surges v7).bind fun x9=>
 (Oi x9).bind fun r10=>
 if r10 then(
  if(decide ((0:X)<v7)) then(
  (ix a0.Surges (zM .i64 (v7 - (1:X)))).bind fun x13=>
  if(decide (x9.From≤x13.From)) then(
   O E)
  else(
   GL a0 n (zM .i64 (v7+(1:X)))))
  else(
  GL a0 n (zM .i64 (v7+(1:X)))))
 else(
  O E))
 else(
 O F)
def Lc(a0:Xe):W Y:=
(Oj a0.Tide).bind fun r1=>
if r1 then(
 (Aw (a0.Surges.length:X) (1:X) (6:X)).bind fun r3=>
 if r3 then(
 (ix a0.Surges (0:X)).bind fun x5=>
 if(x5.From !=(0:X)) then(
  O E)
 else(
  GL a0 bigN (0:X)))
 else(
 O E))
else(
 O E)
def O3(a0:V zA)(v1:X)(EP:X→W Y):W Y:=
EP (zM .i64 (v1+(1:X)))
def O2(a0:V zA)(v1:X)(EP:X→W Y)(v5:Y):W Y:=
if v5 then(
 O3 a0 v1 EP)
else(
 if(v1==(0:X)) then(
 O E)
 else(
 (ix a0 v1).bind fun b8=>
 if(decide ((b8.toNat:X)<(48:X))) then(
  O E)
 else(
  if(decide ((57:X)<(b8.toNat:X))) then(
  O E)
  else(
  O3 a0 v1 EP))))
def GO(a0:V zA):Z→X→W Y
| 0,_=>U
| n+1,v1=>
 if(decide (v1<(a0.length:X))) then(
 (ix a0 v1).bind fun b3=>
 if(decide ((97:X)≤(b3.toNat:X))) then(
  O2 a0 v1 (GO a0 n) (decide ((b3.toNat:X)≤(122:X))))
 else(
  O2 a0 v1 (GO a0 n) E))
 else(
 (Aw (a0.length:X) (1:X) (8:X)).bind fun r11=>
 O r11)
def Lf(a0:V zA):W Y:=
GO a0 bigN (0:X)
def Ja(a1:V zA)(a0:X1):Z→X→W X
| 0,_=>U
| n+1,v1=>
 if(decide (v1<(a0.Points.length:X))) then(
 (ix a0.Points v1).bind fun x3=>
 if(x3.Name==a1) then(
  O v1)
 else(
  Ja a1 a0 n (zM .i64 (v1+(1:X)))))
 else(
 O (-1:X))
def Oe(a0:X1)(a1:V zA):W X:=
Ja a1 a0 bigN (0:X)
def Ot(a0:X2)(a1 a2:X):W Y:=
if(a0.A==a1) then(
 if(a0.B==a2) then(
 O F)
 else(
 if(a0.A==a2) then(
  O (a0.B==a1))
 else(
  O E)))
else(
 if(a0.A==a2) then(
 O (a0.B==a1))
 else(
 O E))
def IV(a0:X1)(v11:X)(x13:X2)(y24:V X2)(y25:X)(Pa:X→W Y):Z→X→W Y
| 0,_=>U
| n+1,v26=>
 if(decide (v26<y25)) then(
 (ix y24 v26).bind fun x28=>
 (Ot x28 x13.A x13.B).bind fun r29=>
 if r29 then(
  O E)
 else(
  IV a0 v11 x13 y24 y25 Pa n (zM .i64 (v26+(1:X)))))
 else(
 Pa (zM .i64 (v11+(1:X))))
def EF(a0:X1):Z→X→W Y
| 0,_=>U
| n+1,v11=>
 if(decide (v11<(a0.Segments.length:X))) then(
 (ix a0.Segments v11).bind fun x13=>
 (Aw x13.A (0:X) (zM .i64 ((a0.Points.length:X) - (1:X)))).bind fun r14=>
 if r14 then(
  (Aw x13.B (0:X) (zM .i64 ((a0.Points.length:X) - (1:X)))).bind fun r16=>
  if r16 then(
  if(x13.A==x13.B) then(
   O E)
  else(
   (Aw x13.Depth (0:X) (3000:X)).bind fun r19=>
   if r19 then(
   (Aw x13.Minutes (1:X) (240:X)).bind fun r21=>
   if r21 then(
    (bnd (a0.Segments.length:X) v11 (0:X) a0.Segments.length).bind fun p23=>
    IV a0 v11 x13 ((a0.Segments.drop p23.1).take (p23.2 - p23.1)) (((a0.Segments.drop p23.1).take (p23.2 - p23.1)).length:X) (EF a0 n) bigN (0:X))
   else(
    O E))
   else(
   O E)))
  else(
  O E))
 else(
  O E))
 else(
 O F)
def IU(a0:X1):Z→X→W Y
| 0,_=>U
| n+1,v3=>
 if(decide (v3<(a0.Points.length:X))) then(
 (ix a0.Points v3).bind fun x5=>
 (Lf x5.Name).bind fun r6=>
 if r6 then(
  (Oe a0 x5.Name).bind fun r9=>
  if(r9 !=v3) then(
  O E)
  else(
  IU a0 n (zM .i64 (v3+(1:X)))))
 else(
  O E))
 else(
 EF a0 bigN (0:X))
def D6(a0:X1):W Y:=
if(decide ((8:X)<(a0.Points.length:X))) then(
 O E)
else(
 if(decide ((10:X)<(a0.Segments.length:X))) then(
 O E)
 else(
 IU a0 bigN (0:X)))
def Ea(a0:X4):W Y:=
(Lf a0.Name).bind fun r1=>
if r1 then(
 (Aw a0.Length (10:X) (400:X)).bind fun r3=>
 if r3 then(
 (Aw a0.Draught (100:X) (2000:X)).bind fun r5=>
 if r5 then(
  (Aw a0.Line (0:X) (3:X)).bind fun r7=>
  if r7 then(
  (Aw a0.Tugs (0:X) (4:X)).bind fun r9=>
  O r9)
  else(
  O E))
 else(
  O E))
 else(
 O E))
else(
 O E)
def Jd(a1:V zA)(a0:V X4):Z→X→W X
| 0,_=>U
| n+1,v1=>
 if(decide (v1<(a0.length:X))) then(
 (ix a0 v1).bind fun x3=>
 if(x3.Name==a1) then(
  O v1)
 else(
  Jd a1 a0 n (zM .i64 (v1+(1:X)))))
 else(
 O (-1:X))
def Og(a0:V X4)(a1:V zA):W X:=
Jd a1 a0 bigN (0:X)
def J2(a0:V X4):Z→X→W Y
| 0,_=>U
| n+1,v2=>
 if(decide (v2<(a0.length:X))) then(
 (ix a0 v2).bind fun x4=>
 (Ea x4).bind fun r5=>
 if r5 then(
  (Og a0 x4.Name).bind fun r7=>
  if(r7 !=v2) then(
  O E)
  else(
  J2 a0 n (zM .i64 (v2+(1:X)))))
 else(
  O E))
 else(
 O F)
def Lb(a0:V X4):W Y:=
if(decide ((6:X)<(a0.length:X))) then(
 O E)
else(
 J2 a0 bigN (0:X))
def Jb(a0:Xi):W Y:=
(Aw a0.Gap (0:X) (60:X)).bind fun r1=>
O r1
def H1(a1:V X):Z→X→W Y
| 0,_=>U
| n+1,v4=>
 if(decide (v4<(a1.length:X))) then(
 (ix a1 v4).bind fun x6=>
 (Aw x6 (0:X) (240:X)).bind fun r7=>
 if r7 then(
  H1 a1 n (zM .i64 (v4+(1:X))))
 else(
  O E))
 else(
 O F)
def H0(a0:X)(a1:V X):W Y:=
(Aw a0 (0:X) (2880:X)).bind fun r1=>
if r1 then(
 if((a1.length:X) !=(64:X)) then(
 O E)
 else(
 H1 a1 bigN (0:X)))
else(
 O E)
def IY(a0:Xn):W Y:=
(Aw a0.Tugs (0:X) (12:X)).bind fun r1=>
if r1 then(
 (Aw a0.Pilots (0:X) (12:X)).bind fun r3=>
 if r3 then(
 (H0 a0.Rest a0.Moves).bind fun r5=>
 O r5)
 else(
 O E))
else(
 O E)
def Le(a0:X5):W Y:=
(Lc a0.Forecast).bind fun r1=>
if r1 then(
 (D6 a0.Chart).bind fun r3=>
 if r3 then(
 (Lb a0.Fleet).bind fun r5=>
 if r5 then(
  (Jb a0.Regime).bind fun r7=>
  if r7 then(
  (IY a0.Crew).bind fun r9=>
  O r9)
  else(
  O E))
 else(
  O E))
 else(
 O E))
else(
 O E)
def IS(a0:X5)(a1:Xb):W Y:=
(Le a0).bind fun r1=>
if r1 then(
 (Aw a1.Ship (0:X) (zM .i64 ((a0.Fleet.length:X) - (1:X)))).bind fun r3=>
 if r3 then(
 (Aw a1.From (0:X) (zM .i64 ((a0.Chart.Points.length:X) - (1:X)))).bind fun r5=>
 if r5 then(
  (Aw a1.To (0:X) (zM .i64 ((a0.Chart.Points.length:X) - (1:X)))).bind fun r7=>
  if r7 then(
  if(a1.From !=a1.To) then(
   (Aw a1.Ready (0:X) (2880:X)).bind fun r10=>
   if r10 then(
   (Aw a1.Due a1.Ready (2880:X)).bind fun r12=>
   O r12)
   else(
   O E))
  else(
   O E))
  else(
  O E))
 else(
  O E))
 else(
 O E))
else(
 O E)
def L6(a1:V Xb)(v4:X)(a0:X5)(x6:Xb)(y10:V Xb)(y11:X)(P9:X→W Y):Z→X→W Y
| 0,_=>U
| n+1,v12=>
 if(decide (v12<y11)) then(
 (ix y10 v12).bind fun x14=>
 if(x6.Ship==x14.Ship) then(
  O E)
 else(
  L6 a1 v4 a0 x6 y10 y11 P9 n (zM .i64 (v12+(1:X)))))
 else(
 P9 (zM .i64 (v4+(1:X))))
def L5(a1:V Xb)(a0:X5):Z→X→W Y
| 0,_=>U
| n+1,v4=>
 if(decide (v4<(a1.length:X))) then(
 (ix a1 v4).bind fun x6=>
 (IS a0 x6).bind fun r7=>
 if r7 then(
  (bnd (a1.length:X) v4 (0:X) a1.length).bind fun p9=>
  L6 a1 v4 a0 x6 ((a1.drop p9.1).take (p9.2 - p9.1)) (((a1.drop p9.1).take (p9.2 - p9.1)).length:X) (L5 a1 a0 n) bigN (0:X))
 else(
  O E))
 else(
 O F)
def L4(a0:X5)(a1:V Xb):W Y:=
(Le a0).bind fun r1=>
if r1 then(
 if(decide ((6:X)<(a1.length:X))) then(
 O E)
 else(
 L5 a1 a0 bigN (0:X)))
else(
 O E)
def IX(a1:V X9)(a0:X1):Z→X→W Y
| 0,_=>U
| n+1,v4=>
 if(decide (v4<(a1.length:X))) then(
 (ix a1 v4).bind fun x6=>
 (Aw x6.Segment (0:X) (zM .i64 ((a0.Segments.length:X) - (1:X)))).bind fun r7=>
 if r7 then(
  (Aw x6.From (0:X) (2880:X)).bind fun r9=>
  if r9 then(
  if(decide (x6.To≤x6.From)) then(
   O E)
  else(
   if(decide ((2880:X)<x6.To)) then(
   O E)
   else(
   IX a1 a0 n (zM .i64 (v4+(1:X))))))
  else(
  O E))
 else(
  O E))
 else(
 O F)
def La(a0:X1)(a1:V X9):W Y:=
(D6 a0).bind fun r1=>
if r1 then(
 if(decide ((4:X)<(a1.length:X))) then(
 O E)
 else(
 IX a1 a0 bigN (0:X)))
else(
 O E)
def Ou(a0:X2)(a1:X):W X:=
if(a1==a0.A) then(
 O a0.B)
else(
 if(a1==a0.B) then(
 O a0.A)
 else(
 O (-1:X)))
def Jk(a1:X)(a0:V X):Z→X→W Y
| 0,_=>U
| n+1,v1=>
 if(decide (v1<(a0.length:X))) then(
 (ix a0 v1).bind fun x3=>
 if(x3==a1) then(
  O F)
 else(
  Jk a1 a0 n (zM .i64 (v1+(1:X)))))
 else(
 O E)
def Jj(a0:V X)(a1:X):W Y:=
Jk a1 a0 bigN (0:X)
def Jl(rec_:X1→(V X)→(V X)→X→(V (V X))→W (V (V X)))(a1 a2:V X)(a3 x1:X)(v5 r9:X)(a0:X1)(v6:V (V X))(Pe:X→(V (V X))→W (V (V X)))(v12:Y):W (V (V X)):=
if v12 then(
 if A3 ([]:V X).length a1.length 8 then(
 if A3 a1.length ([r9]:V X).length 8 then(
  if A3 ([]:V X).length a2.length 8 then(
  if A3 a2.length ([v5]:V X).length 8 then(
   (rec_ a0 (a1++([r9]:V X)) (a2++([v5]:V X)) a3 v6).bind fun r18=>
   Pe (zM .i64 (v5+(1:X))) r18)
  else U)
  else U)
 else U)
 else U)
else(
 Pe (zM .i64 (v5+(1:X))) v6)
def GV(rec_:X1→(V X)→(V X)→X→(V (V X))→W (V (V X)))(a1 a2:V X)(a3 x1:X)(a0:X1):Z→X→(V (V X))→W (V (V X))
| 0,_,_=>U
| n+1,v5,v6=>
 if(decide (v5<(a0.Segments.length:X))) then(
 (ix a0.Segments v5).bind fun x8=>
 (Ou x8 x1).bind fun r9=>
 if(decide ((0:X)≤r9)) then(
  (Jj a1 r9).bind fun r11=>
  Jl rec_ a1 a2 a3 x1 v5 r9 a0 v6 (GV rec_ a1 a2 a3 x1 a0 n) (!r11))
 else(
  Jl rec_ a1 a2 a3 x1 v5 r9 a0 v6 (GV rec_ a1 a2 a3 x1 a0 n) E))
 else(
 O v6)
def R6(rec_:X1→(V X)→(V X)→X→(V (V X))→W (V (V X)))(a0:X1)(a1 a2:V X)(a3:X)(a4:V (V X)):W (V (V X)):=
(ix a1 (zM .i64 ((a1.length:X) - (1:X)))).bind fun x1=>
if(x1==a3) then(
 if A3 ([]:V X).length a2.length 8 then(
 if A3 a4.length ([a2]:V (V X)).length 24 then(
  O (a4++([a2]:V (V X))))
 else U)
 else U)
else(
 GV rec_ a1 a2 a3 x1 a0 bigN (0:X) a4)
def GW:Z→X1→(V X)→(V X)→X→(V (V X))→W (V (V X))
| 0,_,_,_,_,_=>U
| n+1,a0,a1,a2,a3,a4=>R6 (GW n) a0 a1 a2 a3 a4
def Tu(a0:X1)(a1 a2:V X)(a3:X)(a4:V (V X)):W (V (V X)):=GW bigN a0 a1 a2 a3 a4
def Of(a0:X1)(a1 a2:X):W (V (V X)):=
(D6 a0).bind fun r1=>
if r1 then(
 (Aw a1 (0:X) (zM .i64 ((a0.Points.length:X) - (1:X)))).bind fun r3=>
 if r3 then(
 (Aw a2 (0:X) (zM .i64 ((a0.Points.length:X) - (1:X)))).bind fun r5=>
 if r5 then(
  (Tu a0 ([a1]:V X) ([]:V X) a2 ([]:V (V X))).bind fun r7=>
  O r7)
 else(
  O ([]:V (V X))))
 else(
 O ([]:V (V X))))
else(
 O ([]:V (V X)))
def Jc(a1:V X)(a0:X1):Z→X→X→W X
| 0,_,_=>U
| n+1,v3,v4=>
 if(decide (v4<(a1.length:X))) then(
 (ix a1 v4).bind fun x6=>
 (Aw x6 (0:X) (zM .i64 ((a0.Segments.length:X) - (1:X)))).bind fun r7=>
 if r7 then(
  (ix a0.Segments x6).bind fun x9=>
  Jc a1 a0 n (zM .i64 (v3+x9.Minutes)) (zM .i64 (v4+(1:X))))
 else(
  O (-1:X)))
 else(
 O v3)
def GR(a0:X1)(a1:V X):W X:=
(D6 a0).bind fun r1=>
if r1 then(
 Jc a1 a0 bigN (0:X) (0:X))
else(
 O (-1:X))
def L3(v2 x6:V X)(r1:(V (V X)))(v4:X)(a0:X1)(P8:(V X)→Y→X→W ((V X) × Y))(v11 v12:Y):W ((V X) × Y):=
if v12 then(
 P8 x6 F (zM .i64 (v4+(1:X))))
else(
 P8 v2 v11 (zM .i64 (v4+(1:X))))
def FE(r1:(V (V X)))(a0:X1):Z→(V X)→Y→X→W ((V X) × Y)
| 0,_,_,_=>U
| n+1,v2,v3,v4=>
 if(decide (v4<(r1.length:X))) then(
 (ix r1 v4).bind fun x6=>
 if v3 then(
  (GR a0 x6).bind fun r9=>
  (GR a0 v2).bind fun r10=>
  L3 v2 x6 r1 v4 a0 (FE r1 a0 n) F (decide (r9<r10)))
 else(
  L3 v2 x6 r1 v4 a0 (FE r1 a0 n) E F))
 else(
 if v3 then(
  O (v2,F))
 else(
  O (([]:V X),E)))
def NU(a0:X1)(a1 a2:X):W ((V X) × Y):=
(Of a0 a1 a2).bind fun r1=>
FE r1 a0 bigN ([]:V X) E (0:X)
def Jm(a0:X1)(a1:X)(a2:X4):W Y:=
(D6 a0).bind fun r1=>
if r1 then(
 (Ea a2).bind fun r3=>
 if r3 then(
 (Aw a1 (0:X) (zM .i64 ((a0.Segments.length:X) - (1:X)))).bind fun r5=>
 O r5)
 else(
 O E))
else(
 O E)
def R5(a0:X4):W X:=
(Ea a0).bind fun r1=>
if r1 then(
 if a0.Slow then(
 O (zM .i64 (zF a0.Draught (50:X))))
 else(
 O (zM .i64 (zF a0.Draught (20:X)))))
else(
 O (0:X))
def QY(a0:X4):W X:=
(Ea a0).bind fun r1=>
if r1 then(
 (R5 a0).bind fun r3=>
 O (zM .i64 ((zM .i64 (a0.Draught+r3))+(50:X))))
else(
 O (0:X))
def O5(a0:X1)(a1:X)(a2:X4):W X:=
(Jm a0 a1 a2).bind fun r1=>
if r1 then(
 (QY a2).bind fun r3=>
 (ix a0.Segments a1).bind fun x4=>
 O (zM .i64 (r3 - x4.Depth)))
else(
 O (0:X))
def FM(a1:X)(a0:Xe):Z→X→X→X→X→W Xa
| 0,_,_,_,_=>U
| n+1,v2,v3,v4,v5=>
 if(decide (v2<(a0.Surges.length:X))) then(
 (ix a0.Surges v2).bind fun x7=>
 if(decide (x7.From≤a1)) then(
  FM a1 a0 n (zM .i64 (v2+(1:X))) x7.From x7.Low x7.High)
 else(
  FM a1 a0 n (zM .i64 (v2+(1:X))) v3 v4 v5))
 else(
 O (⟨v3,v4,v5⟩:Xa))
def Jh(a0:Xe)(a1:X):W Xa:=
(ix a0.Surges (0:X)).bind fun x1=>
FM a1 a0 bigN (0:X) x1.From x1.Low x1.High
def Om(a1 v6:X):W X:=
if(decide (v6<(zM .i64 (zF a1 (2:X))))) then(
 if(zM .i64 ((zM .i64 (zF a1 (2:X)))*(zM .i64 (zF a1 (2:X)))))==0 then U else
 O (zM .i64 (zF (zM .i64 ((zM .i64 ((40000:X)*v6))*(zM .i64 ((zM .i64 (zF a1 (2:X))) - v6)))) (zM .i64 ((zM .i64 (zF a1 (2:X)))*(zM .i64 (zF a1 (2:X))))))))
else(
 if(zM .i64 ((zM .i64 (zF a1 (2:X)))*(zM .i64 (zF a1 (2:X)))))==0 then U else
 O (zM .i64 (0 - (zM .i64 (zF (zM .i64 ((zM .i64 ((40000:X)*(zM .i64 (v6 - (zM .i64 (zF a1 (2:X)))))))*(zM .i64 ((zM .i64 (zF a1 (2:X))) - (zM .i64 (v6 - (zM .i64 (zF a1 (2:X))))))))) (zM .i64 ((zM .i64 (zF a1 (2:X)))*(zM .i64 (zF a1 (2:X))))))))))
def Ol(a0 a1:X):W X:=
if(decide (a1<(4:X))) then(
 O (0:X))
else(
 if(decide ((2880:X)<a1)) then(
 O (0:X))
 else(
 if((zM .i64 (zJ a1 (4:X))) !=(0:X)) then(
  O (0:X))
 else(
  if a1==0 then U else
  if(decide ((zM .i64 (zJ a0 a1))<(0:X))) then(
  Om a1 (zM .i64 ((zM .i64 (zJ a0 a1))+a1)))
  else(
  Om a1 (zM .i64 (zJ a0 a1))))))
def Jg(a1:X)(a0:Xm):Z→X→X→W X
| 0,_,_=>U
| n+1,v1,v2=>
 if(decide (v2<(a0.Parts.length:X))) then(
 (ix a0.Parts v2).bind fun x4=>
 (Ol (zM .i64 (a1+x4.Phase)) x4.Period).bind fun r5=>
 Jg a1 a0 n (zM .i64 (v1+(zM .i64 (zF (zM .i64 (x4.Amp*r5)) (10000:X))))) (zM .i64 (v2+(1:X))))
 else(
 O v1)
def Ln(a0:Xm)(a1:X):W X:=
Jg a1 a0 bigN a0.Mean (0:X)
def Ji(v1:X)(a0:V Y)(v2:V X6)(Pd:X→(V X6)→W (V X6))(v8:Y):W (V X6):=
if v8 then(
 (ix v2 (zM .i64 ((v2.length:X) - (1:X)))).bind fun x10=>
 Pd (zM .i64 (v1+(1:X))) (v2.set (zB (zM .i64 ((v2.length:X) - (1:X)))) (⟨x10.From,v1⟩:X6)))
else(
 if A3 v2.length ([(⟨v1,v1⟩:X6)]:V X6).length 16 then(
 Pd (zM .i64 (v1+(1:X))) (v2++([(⟨v1,v1⟩:X6)]:V X6)))
 else U)
def EH(a0:V Y):Z→X→(V X6)→W (V X6)
| 0,_,_=>U
| n+1,v1,v2=>
 if(decide (v1<(a0.length:X))) then(
 (ix a0 v1).bind fun x4=>
 if x4 then(
  if(decide ((0:X)<(v2.length:X))) then(
  (ix v2 (zM .i64 ((v2.length:X) - (1:X)))).bind fun x7=>
  Ji v1 a0 v2 (EH a0 n) (x7.To==(zM .i64 (v1 - (1:X)))))
  else(
  Ji v1 a0 v2 (EH a0 n) E))
 else(
  EH a0 n (zM .i64 (v1+(1:X))) v2))
 else(
 O v2)
def Oq(a0:V Y):W (V X6):=
EH a0 bigN (0:X) ([]:V X6)
def Oo(a1 v2:X)(a0:Xe)(v3:V Y)(RZ:Y→X→(V Y)→W (V X6))(v7:Y)(v8:X):W (V X6):=
(Ln a0.Tide v2).bind fun r9=>
if A3 v3.length ([(decide (a1≤(zM .i64 (r9+v8))))]:V Y).length 1 then(
 RZ v7 (zM .i64 (v2+(1:X))) (v3++([(decide (a1≤(zM .i64 (r9+v8))))]:V Y)))
else U
def GS(a1:X)(a0:Xe):Z→Y→X→(V Y)→W (V X6)
| 0,_,_,_=>U
| n+1,v1,v2,v3=>
 if(decide (v2≤(2880:X))) then(
 (Jh a0 v2).bind fun r5=>
 if v1 then(
  Oo a1 v2 a0 v3 (GS a1 a0 n) F r5.High)
 else(
  Oo a1 v2 a0 v3 (GS a1 a0 n) E r5.Low))
 else(
 (Oq v3).bind fun r11=>
 O r11)
def On(a0:Xe)(a1:X)(a2:Y):W (V X6):=
GS a1 a0 bigN a2 (0:X) ([]:V Y)
def FN(a0:X2)(a1:X4):W X:=
if a1.Slow then(
 O (zM .i64 ((2:X)*a0.Minutes)))
else(
 O a0.Minutes)
def Lg(a0:X1)(a1:X)(a2:X4):W X:=
(D6 a0).bind fun r1=>
if r1 then(
 (Ea a2).bind fun r3=>
 if r3 then(
 (Aw a1 (0:X) (zM .i64 ((a0.Segments.length:X) - (1:X)))).bind fun r5=>
 if r5 then(
  (ix a0.Segments a1).bind fun x7=>
  (FN x7 a2).bind fun r9=>
  O r9)
 else(
  O (0:X)))
 else(
 O (0:X)))
else(
 O (0:X))
def FL(a0:V X6):Z→X→W Y
| 0,_=>U
| n+1,v1=>
 if(decide (v1<(a0.length:X))) then(
 (ix a0 v1).bind fun x3=>
 (Aw x3.From (0:X) (2880:X)).bind fun r4=>
 if r4 then(
  (Aw x3.To x3.From (2880:X)).bind fun r6=>
  if r6 then(
  if(decide ((0:X)<v1)) then(
   (ix a0 (zM .i64 (v1 - (1:X)))).bind fun x9=>
   if(decide (x3.From≤(zM .i64 (x9.To+(1:X))))) then(
   O E)
   else(
   FL a0 n (zM .i64 (v1+(1:X)))))
  else(
   FL a0 n (zM .i64 (v1+(1:X)))))
  else(
  O E))
 else(
  O E))
 else(
 O F)
def Ll(a0:V X6):W Y:=
FL a0 bigN (0:X)
def FJ(a1:X)(a0:V X6):Z→X→(V X6)→W (V X6)
| 0,_,_=>U
| n+1,v5,v6=>
 if(decide (v5<(a0.length:X))) then(
 (ix a0 v5).bind fun x8=>
 if(decide (a1≤(zM .i64 (x8.To - x8.From)))) then(
  if A3 v6.length ([(⟨x8.From,(zM .i64 (x8.To - a1))⟩:X6)]:V X6).length 16 then(
  FJ a1 a0 n (zM .i64 (v5+(1:X))) (v6++([(⟨x8.From,(zM .i64 (x8.To - a1))⟩:X6)]:V X6)))
  else U)
 else(
  FJ a1 a0 n (zM .i64 (v5+(1:X))) v6))
 else(
 O v6)
def QZ(a0:V X6)(a1:X):W (V X6):=
(Ll a0).bind fun r1=>
if r1 then(
 (Aw a1 (0:X) (2880:X)).bind fun r3=>
 if r3 then(
 FJ a1 a0 bigN (0:X) ([]:V X6))
 else(
 O ([]:V X6)))
else(
 O ([]:V X6))
def R7(a0:Xe)(a1:X1)(a2:X)(a3:X4)(a4:Y):W (V X6):=
(Lc a0).bind fun r1=>
if r1 then(
 (Jm a1 a2 a3).bind fun r3=>
 if r3 then(
 (O5 a1 a2 a3).bind fun r5=>
 (On a0 r5 a4).bind fun r6=>
 (Lg a1 a2 a3).bind fun r7=>
 (QZ r6 r7).bind fun r9=>
 O r9)
 else(
 O ([]:V X6)))
else(
 O ([]:V X6))
def Oh(a0:Xe)(a1:X1)(a2:X)(a3:X4):W (V X6):=
(R7 a0 a1 a2 a3 E).bind fun r1=>
O r1
def GX(a3:V X)(a0:Xe)(a1:X1)(a2:X4):Z→X→(V (V X6))→W (V (V X6))
| 0,_,_=>U
| n+1,v1,v2=>
 if(decide (v1<(a3.length:X))) then(
 (ix a3 v1).bind fun x4=>
 (Oh a0 a1 x4 a2).bind fun r5=>
 if A3 v2.length ([r5]:V (V X6)).length 24 then(
  GX a3 a0 a1 a2 n (zM .i64 (v1+(1:X))) (v2++([r5]:V (V X6))))
 else U)
 else(
 O v2)
def R8(a0:Xe)(a1:X1)(a2:X4)(a3:V X):W (V (V X6)):=
GX a3 a0 a1 a2 bigN (0:X) ([]:V (V X6))
def GU(r9:X)(a2:V X)(v1:X)(a0:X1)(v2:V X)(S0:X→(V X)→W ((V X) × Y))(v12:Y):W ((V X) × Y):=
if v12 then(
 O (([]:V X),E))
else(
 if A3 v2.length ([r9]:V X).length 8 then(
 S0 (zM .i64 (v1+(1:X))) (v2++([r9]:V X)))
 else U)
def Eb(a2:V X)(a0:X1):Z→X→(V X)→W ((V X) × Y)
| 0,_,_=>U
| n+1,v1,v2=>
 if(decide (v1<(a2.length:X))) then(
 (ix a2 v1).bind fun x4=>
 (Aw x4 (0:X) (zM .i64 ((a0.Segments.length:X) - (1:X)))).bind fun r5=>
 if r5 then(
  (ix a0.Segments x4).bind fun x7=>
  (ix v2 (zM .i64 ((v2.length:X) - (1:X)))).bind fun x8=>
  (Ou x7 x8).bind fun r9=>
  if(decide (r9<(0:X))) then(
  GU r9 a2 v1 a0 v2 (Eb a2 a0 n) F)
  else(
  (Jj v2 r9).bind fun r11=>
  GU r9 a2 v1 a0 v2 (Eb a2 a0 n) r11))
 else(
  O (([]:V X),E)))
 else(
 O (v2,F))
def GT(a0:X1)(a1:X)(a2:V X):W ((V X) × Y):=
Eb a2 a0 bigN (0:X) ([a1]:V X)
def EG(a0:X1)(a1:X)(a2:V X):W Y:=
(D6 a0).bind fun r1=>
if r1 then(
 (Aw a1 (0:X) (zM .i64 ((a0.Points.length:X) - (1:X)))).bind fun r3=>
 if r3 then(
 (GT a0 a1 a2).bind fun r5=>
 O r5.2)
 else(
 O E))
else(
 O E)
def FI(a0:X1)(a1:X)(a2:V X):W (V X):=
(EG a0 a1 a2).bind fun r1=>
if r1 then(
 (GT a0 a1 a2).bind fun r3=>
 O r3.1)
else(
 O ([]:V X))
def J3(a1:X)(a0:V X6):Z→X→W Y
| 0,_=>U
| n+1,v1=>
 if(decide (v1<(a0.length:X))) then(
 (ix a0 v1).bind fun x3=>
 (Aw a1 x3.From x3.To).bind fun r4=>
 if r4 then(
  O F)
 else(
  J3 a1 a0 n (zM .i64 (v1+(1:X)))))
 else(
 O E)
def O0(a0:V X6)(a1:X):W Y:=
J3 a1 a0 bigN (0:X)
def J6(a1:X)(a0:V X6):Z→X→W X
| 0,_=>U
| n+1,v3=>
 if(decide (v3<(a0.length:X))) then(
 (ix a0 v3).bind fun x5=>
 if(decide (a1≤x5.To)) then(
  O (if x5.From<a1 then a1 else x5.From))
 else(
  J6 a1 a0 n (zM .i64 (v3+(1:X)))))
 else(
 O (-1:X))
def O6(a0:V X6)(a1:X):W X:=
(Ll a0).bind fun r1=>
if r1 then(
 J6 a1 a0 bigN (0:X))
else(
 O (-1:X))
def Jn(a2 a3:V X)(a4:V (V X6))(v4 r12:X)(a0:X1)(a1:X4)(v5:V X)(S3:X→(V X)→W ((V X) × Y))(v17:Y):W ((V X) × Y):=
if v17 then(
 O (([]:V X),E))
else(
 if A3 v5.length ([r12]:V X).length 8 then(
 S3 (zM .i64 (v4+(1:X))) (v5++([r12]:V X)))
 else U)
def EI(a2 a3:V X)(a4:V (V X6))(a0:X1)(a1:X4):Z→X→(V X)→W ((V X) × Y)
| 0,_,_=>U
| n+1,v4,v5=>
 if(decide (v4<(a3.length:X))) then(
 (ix v5 (zM .i64 (v4 - (1:X)))).bind fun x7=>
 (ix a3 (zM .i64 (v4 - (1:X)))).bind fun x8=>
 (ix a0.Segments x8).bind fun x9=>
 (FN x9 a1).bind fun r10=>
 (ix a4 v4).bind fun x11=>
 (O6 x11 (zM .i64 (x7+r10))).bind fun r12=>
 if(decide (r12<(0:X))) then(
  Jn a2 a3 a4 v4 r12 a0 a1 v5 (EI a2 a3 a4 a0 a1 n) F)
 else(
  if(r12 !=(zM .i64 (x7+r10))) then(
  (ix a2 v4).bind fun x15=>
  (ix a0.Points x15).bind fun x16=>
  Jn a2 a3 a4 v4 r12 a0 a1 v5 (EI a2 a3 a4 a0 a1 n) (!x16.Wait))
  else(
  Jn a2 a3 a4 v4 r12 a0 a1 v5 (EI a2 a3 a4 a0 a1 n) E)))
 else(
 O (v5,F))
def Lo(a0:X1)(a1:X4)(a2 a3:V X)(a4:V (V X6))(a5:X):W ((V X) × Y):=
(ix a4 (0:X)).bind fun x1=>
(O0 x1 a5).bind fun r2=>
if r2 then(
 EI a2 a3 a4 a0 a1 bigN (1:X) ([a5]:V X))
else(
 O (([]:V X),E))
def NT(a0:X1)(a1:X4)(a2 a3:V X):W X:=
(GR a0 a2).bind fun r1=>
if(decide (r1<(0:X))) then(
 O (-1:X))
else(
 (Ea a1).bind fun r3=>
 if r3 then(
 if((a2.length:X) !=(a3.length:X)) then(
  O (-1:X))
 else(
  if((a2.length:X)==(0:X)) then(
  O (-1:X))
  else(
  (ix a3 (zM .i64 ((a3.length:X) - (1:X)))).bind fun x7=>
  (Aw x7 (0:X) (2880:X)).bind fun r9=>
  if r9 then(
   (ix a2 (zM .i64 ((a2.length:X) - (1:X)))).bind fun x11=>
   (ix a0.Segments x11).bind fun x12=>
   (FN x12 a1).bind fun r13=>
   O (zM .i64 (x7+r13)))
  else(
   O (-1:X)))))
 else(
 O (-1:X)))
def J8(a1:X)(a5 a4:V X)(a0:X1)(a2:X4)(r6:(V X)):Z→X→(V X3)→W (V X3)
| 0,_,_=>U
| n+1,v7,v8=>
 if(decide (v7<(a4.length:X))) then(
 (ix a4 v7).bind fun x10=>
 (ix a5 v7).bind fun x11=>
 (Aw x11 (0:X) (2880:X)).bind fun r12=>
 if r12 then(
  (ix a0.Segments x10).bind fun x14=>
  (ix r6 v7).bind fun x15=>
  (FN x14 a2).bind fun r16=>
  if A3 v8.length ([(⟨a1,x10,(x14.A==x15),x11,(zM .i64 (x11+r16))⟩:X3)]:V X3).length 40 then(
  J8 a1 a5 a4 a0 a2 r6 n (zM .i64 (v7+(1:X))) (v8++([(⟨a1,x10,(x14.A==x15),x11,(zM .i64 (x11+r16))⟩:X3)]:V X3)))
  else U)
 else(
  O ([]:V X3)))
 else(
 O v8)
def Oa(a0:X1)(a1:X)(a2:X4)(a3:X)(a4 a5:V X):W (V X3):=
(EG a0 a3 a4).bind fun r1=>
if r1 then(
 (Ea a2).bind fun r3=>
 if r3 then(
 if((a4.length:X) !=(a5.length:X)) then(
  O ([]:V X3))
 else(
  (FI a0 a3 a4).bind fun r6=>
  J8 a1 a5 a4 a0 a2 r6 bigN (0:X) ([]:V X3)))
 else(
 O ([]:V X3)))
else(
 O ([]:V X3))
def H3(a2:V X)(a0:X5)(x1:X4)(x2 r3:X)(r4:(V X3)):Z→X→X→W (X0 × Y)
| 0,_,_=>U
| n+1,v5,v6=>
 if(decide (v5<(a2.length:X))) then(
 (ix a2 v5).bind fun x8=>
 (ix a0.Chart.Segments x8).bind fun x9=>
 (FN x9 x1).bind fun r10=>
 H3 a2 a0 x1 x2 r3 r4 n (zM .i64 (v5+(1:X))) (zM .i64 (v6 - r10)))
 else(
 O ((⟨x2,r3,v6,r4⟩:X0),(decide (r3≤(2880:X)))))
def Oy(a0:X5)(a1:Xb)(a2 a3:V X):W (X0 × Y):=
(ix a0.Fleet a1.Ship).bind fun x1=>
(ix a3 (0:X)).bind fun x2=>
(NT a0.Chart x1 a2 a3).bind fun r3=>
(Oa a0.Chart a1.Ship x1 a1.From a2 a3).bind fun r4=>
H3 a2 a0 x1 x2 r3 r4 bigN (0:X) (zM .i64 (r3 - a1.Ready))
def J7(r3:(V X) × Y)(v8:X)(a0:X5)(a1:Xb)(x5:X4)(r6:(V (V X6)))(r7:(V X))(RY:X→(V X0)→W (V X0))(v17:V X0):W (V X0):=
RY (zM .i64 (v8+(15:X))) v17
def FH(r3:(V X) × Y)(a0:X5)(a1:Xb)(x5:X4)(r6:(V (V X6)))(r7:(V X)):Z→X→(V X0)→W (V X0)
| 0,_,_=>U
| n+1,v8,v9=>
 if(decide (v8≤a1.Due)) then(
 if(decide ((v9.length:X)<(8:X))) then(
  (Lo a0.Chart x5 r7 r3.1 r6 v8).bind fun r12=>
  if r12.2 then(
  (Oy a0 a1 r3.1 r12.1).bind fun r14=>
  if r14.2 then(
   if A3 v9.length ([r14.1]:V X0).length 48 then(
   J7 r3 v8 a0 a1 x5 r6 r7 (FH r3 a0 a1 x5 r6 r7 n) (v9++([r14.1]:V X0)))
   else U)
  else(
   J7 r3 v8 a0 a1 x5 r6 r7 (FH r3 a0 a1 x5 r6 r7 n) v9))
  else(
  J7 r3 v8 a0 a1 x5 r6 r7 (FH r3 a0 a1 x5 r6 r7 n) v9))
 else(
  O v9))
 else(
 O v9)
def O8(a0:X5)(a1:Xb):W (V X0):=
(IS a0 a1).bind fun r1=>
if r1 then(
 (NU a0.Chart a1.From a1.To).bind fun r3=>
 if r3.2 then(
 (ix a0.Fleet a1.Ship).bind fun x5=>
 (R8 a0.Forecast a0.Chart x5 r3.1).bind fun r6=>
 (FI a0.Chart a1.From r3.1).bind fun r7=>
 FH r3 a0 a1 x5 r6 r7 bigN a1.Ready ([]:V X0))
 else(
 O ([]:V X0)))
else(
 O ([]:V X0))
def GM(a1:V X9)(a0:X3):Z→X→W Y
| 0,_=>U
| n+1,v1=>
 if(decide (v1<(a1.length:X))) then(
 (ix a1 v1).bind fun x3=>
 if(x3.Segment==a0.Segment) then(
  if(decide ((if a0.Start<x3.From then x3.From else a0.Start)<(if x3.To<a0.End then x3.To else a0.End))) then(
  O F)
  else(
  GM a1 a0 n (zM .i64 (v1+(1:X)))))
 else(
  GM a1 a0 n (zM .i64 (v1+(1:X)))))
 else(
 O E)
def QX(a0:X3)(a1:V X9):W Y:=
GM a1 a0 bigN (0:X)
def Je(a1:V X9)(a0:X0):Z→X→W Y
| 0,_=>U
| n+1,v1=>
 if(decide (v1<(a0.Passages.length:X))) then(
 (ix a0.Passages v1).bind fun x3=>
 (QX x3 a1).bind fun r4=>
 if r4 then(
  O F)
 else(
  Je a1 a0 n (zM .i64 (v1+(1:X)))))
 else(
 O E)
def R4(a0:X0)(a1:V X9):W Y:=
Je a1 a0 bigN (0:X)
def GP(a2:V X9)(r5:(V X0)):Z→X→(V X0)→W (V X0)
| 0,_,_=>U
| n+1,v6,v7=>
 if(decide (v6<(r5.length:X))) then(
 (ix r5 v6).bind fun x9=>
 (R4 x9 a2).bind fun r10=>
 if r10 then(
  GP a2 r5 n (zM .i64 (v6+(1:X))) v7)
 else(
  if A3 v7.length ([x9]:V X0).length 48 then(
  GP a2 r5 n (zM .i64 (v6+(1:X))) (v7++([x9]:V X0)))
  else U))
 else(
 O v7)
def O7(a0:X5)(a1:Xb)(a2:V X9):W (V X0):=
(IS a0 a1).bind fun r1=>
if r1 then(
 (La a0.Chart a2).bind fun r3=>
 if r3 then(
 (O8 a0 a1).bind fun r5=>
 GP a2 r5 bigN (0:X) ([]:V X0))
 else(
 O ([]:V X0)))
else(
 O ([]:V X0))
def Jt(a2:V X9)(a1:V Xb)(a0:X5):Z→X→(V (V X0))→W (V (V X0))
| 0,_,_=>U
| n+1,v1,v2=>
 if(decide (v1<(a1.length:X))) then(
 (ix a1 v1).bind fun x4=>
 (O7 a0 x4 a2).bind fun r5=>
 if A3 v2.length ([r5]:V (V X0)).length 24 then(
  Jt a2 a1 a0 n (zM .i64 (v1+(1:X))) (v2++([r5]:V (V X0))))
 else U)
 else(
 O v2)
def Rf(a0:X5)(a1:V Xb)(a2:V X9):W (V (V X0)):=
Jt a2 a1 a0 bigN (0:X) ([]:V (V X0))
def Re(a0 a1 v1:X)(S4:X→(V X)→W (V X))(v7:V X):W (V X):=
S4 (zM .i64 (v1+(1:X))) v7
def OC(a0 a1:X):Z→X→(V X)→W (V X)
| 0,_,_=>U
| n+1,v1,v2=>
 if(decide (v1<a0)) then(
 if decide (v1<0) then U else
 if((Bd .and .i64 (PH .i64 a1 v1) (1:X))==(1:X)) then(
  if A3 v2.length ([v1]:V X).length 8 then(
  Re a0 a1 v1 (OC a0 a1 n) (v2++([v1]:V X)))
  else U)
 else(
  Re a0 a1 v1 (OC a0 a1 n) v2))
 else(
 O v2)
def OB(a0 a1:X):W (V X):=
OC a0 a1 bigN (0:X) ([]:V X)
def Li(a0 a1:X3):W Y:=
O (decide ((if a0.Start<a1.Start then a1.Start else a0.Start)<(if a1.End<a0.End then a1.End else a0.End)))
def Ov(a2 v3 v4:X):W Y:=
O (decide ((zM .i64 (v4 - v3))<a2))
def Lp(a0 a1 a2:X):W Y:=
if(decide ((if a1<a0 then a1 else a0)<(0:X))) then(
 if(decide ((zM .i64 ((if a1<a0 then a1 else a0)+(9223372036854775807:X)))<(if a0<a1 then a1 else a0))) then(
 O E)
 else(
 Ov a2 (if a1<a0 then a1 else a0) (if a0<a1 then a1 else a0)))
else(
 Ov a2 (if a1<a0 then a1 else a0) (if a0<a1 then a1 else a0))
def NW(a0:X1)(a1:Xi)(a2 a3:X3):W X:=
(D6 a0).bind fun r1=>
if r1 then(
 (Jb a1).bind fun r3=>
 if r3 then(
 (Aw a2.Segment (0:X) (zM .i64 ((a0.Segments.length:X) - (1:X)))).bind fun r5=>
 if r5 then(
  if(a2.Segment !=a3.Segment) then(
  O (0:X))
  else(
  if(a2.Ship==a3.Ship) then(
   (Li a2 a3).bind fun r9=>
   if r9 then(
   O (1:X))
   else(
   O (0:X)))
  else(
   if(a2.Toward==a3.Toward) then(
   (Lp a2.Start a3.Start a1.Gap).bind fun r17=>
   if r17 then(
    O (3:X))
   else(
    (Lp a2.End a3.End a1.Gap).bind fun r19=>
    if r19 then(
    O (3:X))
    else(
    if(decide (a2.Start<a3.Start)) then(
     if(decide (a3.End<a2.End)) then(
     O (4:X))
     else(
     if(decide (a3.Start<a2.Start)) then(
      if(decide (a2.End<a3.End)) then(
      O (4:X))
      else(
      O (0:X)))
     else(
      O (0:X))))
    else(
     if(decide (a3.Start<a2.Start)) then(
     if(decide (a2.End<a3.End)) then(
      O (4:X))
     else(
      O (0:X)))
     else(
     O (0:X))))))
   else(
   (Li a2 a3).bind fun r12=>
   if r12 then(
    if a1.NoMeet then(
    O (2:X))
    else(
    (ix a0.Segments a2.Segment).bind fun x15=>
    if x15.Meet then(
     O (0:X))
    else(
     O (2:X))))
   else(
    O (0:X))))))
 else(
  O (0:X)))
 else(
 O (0:X)))
else(
 O (0:X))
def IW(a3 a2:V X3)(v1:X)(a0:X1)(a1:Xi)(x3:X3)(Pc:X→W Y):Z→X→W Y
| 0,_=>U
| n+1,v4=>
 if(decide (v4<(a3.length:X))) then(
 (ix a3 v4).bind fun x6=>
 (NW a0 a1 x3 x6).bind fun r7=>
 if(r7 !=(0:X)) then(
  O F)
 else(
  IW a3 a2 v1 a0 a1 x3 Pc n (zM .i64 (v4+(1:X)))))
 else(
 Pc (zM .i64 (v1+(1:X))))
def FF(a3 a2:V X3)(a0:X1)(a1:Xi):Z→X→W Y
| 0,_=>U
| n+1,v1=>
 if(decide (v1<(a2.length:X))) then(
 (ix a2 v1).bind fun x3=>
 IW a3 a2 v1 a0 a1 x3 (FF a3 a2 a0 a1 n) bigN (0:X))
 else(
 O E)
def NV(a0:X1)(a1:Xi)(a2 a3:V X3):W Y:=
FF a3 a2 a0 a1 bigN (0:X)
def Jq(a1:V (V X0))(x4 x8:V X0)(v1 v5 v9:X)(a0:X5)(x12:X0)(v2:V (V (V (V Y))))(v6:V (V (V Y)))(v10:V (V Y))(Pi:X→(V (V Y))→W (V (V (V (V Y))))):Z→X→(V Y)→W (V (V (V (V Y))))
| 0,_,_=>U
| n+1,v13,v14=>
 if(decide (v13<(x8.length:X))) then(
 (ix x8 v13).bind fun x16=>
 (NV a0.Chart a0.Regime x12.Passages x16.Passages).bind fun r17=>
 if A3 v14.length ([r17]:V Y).length 1 then(
  Jq a1 x4 x8 v1 v5 v9 a0 x12 v2 v6 v10 Pi n (zM .i64 (v13+(1:X))) (v14++([r17]:V Y)))
 else U)
 else(
 if A3 v10.length ([v14]:V (V Y)).length 24 then(
  Pi (zM .i64 (v9+(1:X))) (v10++([v14]:V (V Y))))
 else U)
def FR(a1:V (V X0))(x4 x8:V X0)(v1 v5:X)(a0:X5)(v2:V (V (V (V Y))))(v6:V (V (V Y)))(Ph:X→(V (V (V Y)))→W (V (V (V (V Y))))):Z→X→(V (V Y))→W (V (V (V (V Y))))
| 0,_,_=>U
| n+1,v9,v10=>
 if(decide (v9<(x4.length:X))) then(
 (ix x4 v9).bind fun x12=>
 Jq a1 x4 x8 v1 v5 v9 a0 x12 v2 v6 v10 (FR a1 x4 x8 v1 v5 a0 v2 v6 Ph n) bigN (0:X) ([]:V Y))
 else(
 if A3 v6.length ([v10]:V (V (V Y))).length 24 then(
  Ph (zM .i64 (v5+(1:X))) (v6++([v10]:V (V (V Y)))))
 else U)
def Ed(a1:V (V X0))(x4:V X0)(v1:X)(a0:X5)(v2:V (V (V (V Y))))(Pg:X→(V (V (V (V Y))))→W (V (V (V (V Y))))):Z→X→(V (V (V Y)))→W (V (V (V (V Y))))
| 0,_,_=>U
| n+1,v5,v6=>
 if(decide (v5<(a1.length:X))) then(
 (ix a1 v5).bind fun x8=>
 FR a1 x4 x8 v1 v5 a0 v2 v6 (Ed a1 x4 v1 a0 v2 Pg n) bigN (0:X) ([]:V (V Y)))
 else(
 if A3 v2.length ([v6]:V (V (V (V Y)))).length 24 then(
  Pg (zM .i64 (v1+(1:X))) (v2++([v6]:V (V (V (V Y))))))
 else U)
def Do(a1:V (V X0))(a0:X5):Z→X→(V (V (V (V Y))))→W (V (V (V (V Y))))
| 0,_,_=>U
| n+1,v1,v2=>
 if(decide (v1<(a1.length:X))) then(
 (ix a1 v1).bind fun x4=>
 Ed a1 x4 v1 a0 v2 (Do a1 a0 n) bigN (0:X) ([]:V (V (V Y))))
 else(
 O v2)
def OA(a0:X5)(a1:V (V X0)):W (V (V (V (V Y)))):=
Do a1 a0 bigN (0:X) ([]:V (V (V (V Y))))
def L9(a0:V X0)(v1 v2:X)(Pb:X→X→W X)(v7:Y):W X:=
if v7 then(
 Pb v2 (zM .i64 (v2+(1:X))))
else(
 Pb v1 (zM .i64 (v2+(1:X))))
def GJ(a0:V X0):Z→X→X→W X
| 0,_,_=>U
| n+1,v1,v2=>
 if(decide (v2<(a0.length:X))) then(
 (ix a0 v2).bind fun x4=>
 if(decide (v1<(0:X))) then(
  L9 a0 v1 v2 (GJ a0 n) F)
 else(
  (ix a0 v1).bind fun x6=>
  L9 a0 v1 v2 (GJ a0 n) (decide (x4.Cost<x6.Cost))))
 else(
 O v1)
def QV(a0:V X0):W X:=
GJ a0 bigN (-1:X) (0:X)
def IT(a0:V X0):Z→X→(V (V X3))→W (V (V X3))
| 0,_,_=>U
| n+1,v1,v2=>
 if(decide (v1<(a0.length:X))) then(
 (ix a0 v1).bind fun x4=>
 if A3 ([]:V X3).length x4.Passages.length 40 then(
  if A3 v2.length ([x4.Passages]:V (V X3)).length 24 then(
  IT a0 n (zM .i64 (v1+(1:X))) (v2++([x4.Passages]:V (V X3))))
  else U)
 else U)
 else(
 O v2)
def L8(a0:V X0):W (V (V X3)):=
IT a0 bigN (0:X) ([]:V (V X3))
def Lj(a0:X1)(a1:V X4)(a2:X3):W Y:=
(D6 a0).bind fun r1=>
if r1 then(
 (Lb a1).bind fun r3=>
 if r3 then(
 (Aw a2.Ship (0:X) (zM .i64 ((a1.length:X) - (1:X)))).bind fun r5=>
 if r5 then(
  (Aw a2.Segment (0:X) (zM .i64 ((a0.Segments.length:X) - (1:X)))).bind fun r7=>
  if r7 then(
  (Aw a2.Start (0:X) (2880:X)).bind fun r9=>
  if r9 then(
   (ix a1 a2.Ship).bind fun x11=>
   (Lg a0 a2.Segment x11).bind fun r12=>
   if(a2.End==(zM .i64 (a2.Start+r12))) then(
   O (decide (a2.End≤(2880:X))))
   else(
   O E))
  else(
   O E))
  else(
  O E))
 else(
  O E))
 else(
 O E))
else(
 O E)
def FO(a0:X1)(a1:X3):W (X × X):=
(ix a0.Segments a1.Segment).bind fun x1=>
if a1.Toward then(
 O (x1.A,x1.B))
else(
 O (x1.B,x1.A))
def H2(a1:V X4)(r7:X × X)(a2:V X3)(v1:X)(a0:X1)(x4:X3)(Pf:X→(V Xc)→W ((V Xc) × Y)):Z→X→(V Xc)→W ((V Xc) × Y)
| 0,_,_=>U
| n+1,v8,v9=>
 (ix a1 x4.Ship).bind fun x10=>
 if(decide (v8<x10.Tugs)) then(
 if A3 v9.length ([(⟨x4.Start,x4.End,r7.1,r7.2⟩:Xc)]:V Xc).length 32 then(
  H2 a1 r7 a2 v1 a0 x4 Pf n (zM .i64 (v8+(1:X))) (v9++([(⟨x4.Start,x4.End,r7.1,r7.2⟩:Xc)]:V Xc)))
 else U)
 else(
 if(decide ((12:X)<(v9.length:X))) then(
  O (([]:V Xc),E))
 else(
  Pf (zM .i64 (v1+(1:X))) v9))
def FQ(a1:V X4)(a2:V X3)(a0:X1):Z→X→(V Xc)→W ((V Xc) × Y)
| 0,_,_=>U
| n+1,v1,v2=>
 if(decide (v1<(a2.length:X))) then(
 (ix a2 v1).bind fun x4=>
 (Lj a0 a1 x4).bind fun r5=>
 if r5 then(
  (FO a0 x4).bind fun r7=>
  H2 a1 r7 a2 v1 a0 x4 (FQ a1 a2 a0 n) bigN (0:X) v2)
 else(
  O (([]:V Xc),E)))
 else(
 O (v2,F))
def Rc(a0:X1)(a1:V X4)(a2:V X3):W ((V Xc) × Y):=
FQ a1 a2 a0 bigN (0:X) ([]:V Xc)
def Jo(a0:Xc):W Y:=
(Aw a0.From (0:X) (2880:X)).bind fun r1=>
if r1 then(
 if(decide (a0.From<a0.To)) then(
 if(decide (a0.To≤(2880:X))) then(
  (Aw a0.A (0:X) (7:X)).bind fun r5=>
  if r5 then(
  (Aw a0.B (0:X) (7:X)).bind fun r7=>
  O r7)
  else(
  O E))
 else(
  O E))
 else(
 O E))
else(
 O E)
def J1(a0:V Xc):Z→X→W Y
| 0,_=>U
| n+1,v2=>
 if(decide (v2<(a0.length:X))) then(
 (ix a0 v2).bind fun x4=>
 (Jo x4).bind fun r5=>
 if r5 then(
  J1 a0 n (zM .i64 (v2+(1:X))))
 else(
  O E))
 else(
 O F)
def NZ(a0:V Xc):W Y:=
if(decide ((12:X)<(a0.length:X))) then(
 O E)
else(
 J1 a0 bigN (0:X))
def Ld(a0:X)(a1:V X)(a2 a3:Xc)(v6:Y):W (X × Y):=
if v6 then(
 O ((0:X),E))
else(
 (ix a1 (zM .i64 ((zM .i64 (a2.B*(8:X)))+a3.A))).bind fun x8=>
 O ((zM .i64 (a0+x8)),F))
def QW(a0:X)(a1:V X)(a2 a3:Xc):W (X × Y):=
(H0 a0 a1).bind fun r1=>
if r1 then(
 (Aw a2.B (0:X) (7:X)).bind fun r3=>
 if r3 then(
 (Aw a3.A (0:X) (7:X)).bind fun r5=>
 Ld a0 a1 a2 a3 (!r5))
 else(
 Ld a0 a1 a2 a3 F))
else(
 Ld a0 a1 a2 a3 F)
def L7(a0:X)(a1:V X)(a2 a3:Xc):W Y:=
(QW a0 a1 a2 a3).bind fun r1=>
if r1.2 then(
 (Jo a2).bind fun r3=>
 if r3 then(
 (Jo a3).bind fun r5=>
 if r5 then(
  O (decide ((zM .i64 (a2.To+r1.1))≤a3.From)))
 else(
  O E))
 else(
 O E))
else(
 O E)
def GY(a0:X)(a1:V X)(a2:V Xc)(v1:X)(x4:Xc)(v2:V (V Y))(LH:X→(V (V Y))→W (V (V Y))):Z→X→(V Y)→W (V (V Y))
| 0,_,_=>U
| n+1,v5,v6=>
 if(decide (v5<(a2.length:X))) then(
 (ix a2 v5).bind fun x8=>
 (L7 a0 a1 x4 x8).bind fun r9=>
 if r9 then(
  if A3 v6.length ([F]:V Y).length 1 then(
  GY a0 a1 a2 v1 x4 v2 LH n (zM .i64 (v5+(1:X))) (v6++([F]:V Y)))
  else U)
 else(
  (L7 a0 a1 x8 x4).bind fun r12=>
  if A3 v6.length ([r12]:V Y).length 1 then(
  GY a0 a1 a2 v1 x4 v2 LH n (zM .i64 (v5+(1:X))) (v6++([r12]:V Y)))
  else U))
 else(
 if A3 v2.length ([v6]:V (V Y)).length 24 then(
  LH (zM .i64 (v1+(1:X))) (v2++([v6]:V (V Y))))
 else U)
def FP(a0:X)(a1:V X)(a2:V Xc):Z→X→(V (V Y))→W (V (V Y))
| 0,_,_=>U
| n+1,v1,v2=>
 if(decide (v1<(a2.length:X))) then(
 (ix a2 v1).bind fun x4=>
 GY a0 a1 a2 v1 x4 v2 (FP a0 a1 a2 n) bigN (0:X) ([]:V Y))
 else(
 O v2)
def Ow(a0:X)(a1:V X)(a2:V Xc):W (V (V Y)):=
FP a0 a1 a2 bigN (0:X) ([]:V (V Y))
def Lq(rec_:(V (V Y))→(V X)→X→W ((V X) × Y))(a0:V (V Y))(a1:V X)(a2 v2 v6:X)(Dt:X→W ((V X) × Y)):W ((V X) × Y):=
Dt (zM .i64 (v6+(1:X)))
def DK(rec_:(V (V Y))→(V X)→X→W ((V X) × Y))(a0:V (V Y))(a1:V X)(a2 v2 v6:X)(Dt:X→W ((V X) × Y)):Z→Y→X→W ((V X) × Y)
| 0,_,_=>U
| n+1,v9,v10=>
 if(decide (v10<(a1.length:X))) then(
 (ix a1 v10).bind fun x12=>
 if(x12==v6) then(
  (ix a0 (a1.length:X)).bind fun x14=>
  (ix x14 v10).bind fun x15=>
  if x15 then(
  DK rec_ a0 a1 a2 v2 v6 Dt n v9 (zM .i64 (v10+(1:X))))
  else(
  DK rec_ a0 a1 a2 v2 v6 Dt n E (zM .i64 (v10+(1:X)))))
 else(
  DK rec_ a0 a1 a2 v2 v6 Dt n v9 (zM .i64 (v10+(1:X)))))
 else(
 if v9 then(
  if A3 ([]:V X).length a1.length 8 then(
  if A3 a1.length ([v6]:V X).length 8 then(
   (rec_ a0 (a1++([v6]:V X)) a2).bind fun r20=>
   if r20.2 then(
   O (r20.1,F))
   else(
   Lq rec_ a0 a1 a2 v2 v6 Dt))
  else U)
  else U)
 else(
  Lq rec_ a0 a1 a2 v2 v6 Dt))
def Ec(rec_:(V (V Y))→(V X)→X→W ((V X) × Y))(a0:V (V Y))(a1:V X)(a2 v2:X):Z→X→W ((V X) × Y)
| 0,_=>U
| n+1,v6=>
 if(decide (v6≤v2)) then(
 if(decide (v6<a2)) then(
  DK rec_ a0 a1 a2 v2 v6 (Ec rec_ a0 a1 a2 v2 n) bigN F (0:X))
 else(
  O (([]:V X),E)))
 else(
 O (([]:V X),E))
def GZ(rec_:(V (V Y))→(V X)→X→W ((V X) × Y))(a0:V (V Y))(a1:V X)(a2:X):Z→X→X→W ((V X) × Y)
| 0,_,_=>U
| n+1,v2,v3=>
 if(decide (v3<(a1.length:X))) then(
 (ix a1 v3).bind fun x5=>
 GZ rec_ a0 a1 a2 n (if v2<(zM .i64 (x5+(1:X))) then(zM .i64 (x5+(1:X))) else v2) (zM .i64 (v3+(1:X))))
 else(
 Ec rec_ a0 a1 a2 v2 bigN (0:X))
def Ox(rec_:(V (V Y))→(V X)→X→W ((V X) × Y))(a0:V (V Y))(a1:V X)(a2:X):W ((V X) × Y):=
if((a1.length:X)==(a0.length:X)) then(
 O (a1,F))
else(
 GZ rec_ a0 a1 a2 bigN (0:X) (0:X))
def CA:Z→(V (V Y))→(V X)→X→W ((V X) × Y)
| 0,_,_,_=>U
| n+1,a0,a1,a2=>Ox (CA n) a0 a1 a2
def Rb(a0:V (V Y))(a1:V X)(a2:X):W ((V X) × Y):=CA bigN a0 a1 a2
def J5(a2:V Xc)(r6:(V (V Y))):Z→X→W ((V X) × X × Y)
| 0,_=>U
| n+1,v7=>
 if(decide (v7≤(a2.length:X))) then(
 (Rb r6 ([]:V X) v7).bind fun r9=>
 if r9.2 then(
  O (r9.1,v7,F))
 else(
  J5 a2 r6 n (zM .i64 (v7+(1:X)))))
 else(
 O (([]:V X),(0:X),E))
def O4(a0:X)(a1:V X)(a2:V Xc)(v4:Y):W ((V X) × X × Y):=
if v4 then(
 O (([]:V X),(0:X),E))
else(
 (Ow a0 a1 a2).bind fun r6=>
 J5 a2 r6 bigN (0:X))
def J4(a0:X)(a1:V X)(a2:V Xc):W ((V X) × X × Y):=
(NZ a2).bind fun r1=>
if r1 then(
 (H0 a0 a1).bind fun r3=>
 O4 a0 a1 a2 (!r3))
else(
 O4 a0 a1 a2 F)
def Lk(a0:Xn)(a1:X1)(a2:V X4)(a3:V X3):W X:=
(Rc a1 a2 a3).bind fun r1=>
(IY a0).bind fun r2=>
if r2 then(
 if r1.2 then(
 (J4 (0:X) a0.Moves r1.1).bind fun r5=>
 if r5.2.2 then(
  O r5.2.1)
 else(
  O (-1:X)))
 else(
 O (-1:X)))
else(
 O (-1:X))
def GN(a1:V X3)(a0:X1):Z→X→W Y
| 0,_=>U
| n+1,v3=>
 if(decide (v3<(a1.length:X))) then(
 (ix a1 v3).bind fun x5=>
 (ix a1 (0:X)).bind fun x6=>
 if(x5.Ship !=x6.Ship) then(
  O E)
 else(
  (Aw x5.Segment (0:X) (zM .i64 ((a0.Segments.length:X) - (1:X)))).bind fun r9=>
  if r9 then(
  if(v3==(0:X)) then(
   GN a1 a0 n (zM .i64 (v3+(1:X))))
  else(
   (FO a0 x5).bind fun r12=>
   (ix a1 (zM .i64 (v3 - (1:X)))).bind fun x13=>
   (FO a0 x13).bind fun r14=>
   if(r12.1 !=r14.2) then(
   O E)
   else(
   if(decide (x5.Start<x13.End)) then(
    O E)
   else(
    GN a1 a0 n (zM .i64 (v3+(1:X)))))))
  else(
  O E)))
 else(
 O F)
def O1(a0:X1)(a1:V X3):W Y:=
(D6 a0).bind fun r1=>
if r1 then(
 GN a1 a0 bigN (0:X))
else(
 O E)
def J9(a1:V X4)(a2:V X3)(a0:X1):Z→X→W (Xc × Y)
| 0,_=>U
| n+1,v5=>
 if(decide (v5<(a2.length:X))) then(
 (ix a2 v5).bind fun x7=>
 (Lj a0 a1 x7).bind fun r9=>
 if r9 then(
  J9 a1 a2 a0 n (zM .i64 (v5+(1:X))))
 else(
  O ((⟨(0:X),(0:X),(0:X),(0:X)⟩:Xc),E)))
 else(
 (ix a2 (zM .i64 ((a2.length:X) - (1:X)))).bind fun x11=>
 (ix a2 (0:X)).bind fun x12=>
 (FO a0 x12).bind fun r13=>
 (FO a0 x11).bind fun r14=>
 O ((⟨x12.Start,x11.End,r13.1,r14.2⟩:Xc),F))
def Oc(a1:V X4)(a2:V X3)(a0:X1)(v3:Y):W (Xc × Y):=
if v3 then(
 O ((⟨(0:X),(0:X),(0:X),(0:X)⟩:Xc),E))
else(
 J9 a1 a2 a0 bigN (0:X))
def Ob(a0:X1)(a1:V X4)(a2:V X3):W (Xc × Y):=
if((a2.length:X)==(0:X)) then(
 Oc a1 a2 a0 F)
else(
 (O1 a0 a2).bind fun r2=>
 Oc a1 a2 a0 (!r2))
def GQ(a2:V X4)(a3:V (V X3))(a0:Xn)(a1:X1):Z→X→(V Xc)→W X
| 0,_,_=>U
| n+1,v3,v4=>
 if(decide (v3<(a3.length:X))) then(
 (ix a3 v3).bind fun x6=>
 if((x6.length:X)==(0:X)) then(
  GQ a2 a3 a0 a1 n (zM .i64 (v3+(1:X))) v4)
 else(
  (Ob a1 a2 x6).bind fun r9=>
  if r9.2 then(
  if A3 v4.length ([r9.1]:V Xc).length 32 then(
   GQ a2 a3 a0 a1 n (zM .i64 (v3+(1:X))) (v4++([r9.1]:V Xc)))
  else U)
  else(
  O (-1:X))))
 else(
 (J4 a0.Rest a0.Moves v4).bind fun r12=>
 if r12.2.2 then(
  O r12.2.1)
 else(
  O (-1:X)))
def Od(a0:Xn)(a1:X1)(a2:V X4)(a3:V (V X3)):W X:=
(IY a0).bind fun r1=>
if r1 then(
 GQ a2 a3 a0 a1 bigN (0:X) ([]:V Xc))
else(
 O (-1:X))
def IZ(a2:V X4)(a3:V (V X3))(a0:Xn)(a1:X1):Z→X→(V X3)→W Y
| 0,_,_=>U
| n+1,v1,v2=>
 if(decide (v1<(a3.length:X))) then(
 (ix a3 v1).bind fun x4=>
 if A3 v2.length x4.length 40 then(
  IZ a2 a3 a0 a1 n (zM .i64 (v1+(1:X))) (v2++x4))
 else U)
 else(
 (Lk a0 a1 a2 v2).bind fun r6=>
 (Aw r6 (0:X) a0.Tugs).bind fun r7=>
 if r7 then(
  (Od a0 a1 a2 a3).bind fun r9=>
  (Aw r9 (0:X) a0.Pilots).bind fun r10=>
  O r10)
 else(
  O E))
def NX(a0:Xn)(a1:X1)(a2:V X4)(a3:V (V X3)):W Y:=
IZ a2 a3 a0 a1 bigN (0:X) ([]:V X3)
def Dp(rec_:Xf→(V X)→X→W Xf)(a1:V X)(a2:X)(a0:Xf)(v4:Y):Z→X→(V X0)→W Xf
| 0,_,_=>U
| n+1,v6,v7=>
 if(decide (v6<(a1.length:X))) then(
 (ix a1 v6).bind fun x9=>
 (ix a0.lists v6).bind fun x10=>
 (ix x10 x9).bind fun x11=>
 if A3 v7.length ([x11]:V X0).length 48 then(
  Dp rec_ a1 a2 a0 v4 n (zM .i64 (v6+(1:X))) (v7++([x11]:V X0)))
 else U)
 else(
 (L8 v7).bind fun r13=>
 (NX a0.h.Crew a0.h.Chart a0.h.Fleet r13).bind fun r14=>
 if r14 then(
  if A3 ([]:V X).length a1.length 8 then(
  O (⟨a0.h,a0.lists,a0.clash,a0.rest,a1,a2,F⟩:Xf))
  else U)
 else(
  O (⟨a0.h,a0.lists,a0.clash,a0.rest,a0.best,a0.cost,v4⟩:Xf)))
def DL(rec_:Xf→(V X)→X→W Xf)(a1:V X)(a2 v18:X)(x17:V X0)(v19:X)(v20:V Xd)(v21:V Xa)(v22:V X7)(v23:V X2)(v24:V X4)(v25:X)(v26:Y)(v27 v28 v29:X)(v30:V X)(v31:V (V X0))(v32:V (V (V (V Y))))(v33:V X)(v34:X)(v35:Y)(x38:X0)(v36:V X)(JB:X→X→(V Xd)→(V Xa)→(V X7)→(V X2)→(V X4)→X→Y→X→X→X→(V X)→(V (V X0))→(V (V (V (V Y))))→(V X)→X→Y→(V X)→W Xf):Z→Y→X→W Xf
| 0,_,_=>U
| n+1,v39,v40=>
 if(decide (v40<(a1.length:X))) then(
 (ix a1 v40).bind fun x42=>
 (ix v32 (a1.length:X)).bind fun x43=>
 (ix x43 v40).bind fun x44=>
 (ix x44 v18).bind fun x45=>
 (ix x45 x42).bind fun x46=>
 if x46 then(
  DL rec_ a1 a2 v18 x17 v19 v20 v21 v22 v23 v24 v25 v26 v27 v28 v29 v30 v31 v32 v33 v34 v35 x38 v36 JB n E (zM .i64 (v40+(1:X))))
 else(
  DL rec_ a1 a2 v18 x17 v19 v20 v21 v22 v23 v24 v25 v26 v27 v28 v29 v30 v31 v32 v33 v34 v35 x38 v36 JB n v39 (zM .i64 (v40+(1:X)))))
 else(
 if v39 then(
  if A3 ([]:V X).length a1.length 8 then(
  if A3 a1.length ([v18]:V X).length 8 then(
   (rec_ (⟨(⟨(⟨(⟨v19,v20⟩:Xm),v21⟩:Xe),(⟨v22,v23⟩:X1),v24,(⟨v25,v26⟩:Xi),(⟨v27,v28,v29,v30⟩:Xn)⟩:X5),v31,v32,v33,v36,v34,v35⟩:Xf) (a1++([v18]:V X)) (zM .i64 (a2+x38.Cost))).bind fun r51=>
   JB (zM .i64 (v18+(1:X))) r51.h.Forecast.Tide.Mean r51.h.Forecast.Tide.Parts r51.h.Forecast.Surges r51.h.Chart.Points r51.h.Chart.Segments r51.h.Fleet r51.h.Regime.Gap r51.h.Regime.NoMeet r51.h.Crew.Tugs r51.h.Crew.Pilots r51.h.Crew.Rest r51.h.Crew.Moves r51.lists r51.clash r51.rest r51.cost r51.found r51.best)
  else U)
  else U)
 else(
  JB (zM .i64 (v18+(1:X))) v19 v20 v21 v22 v23 v24 v25 v26 v27 v28 v29 v30 v31 v32 v33 v34 v35 v36))
def EJ(rec_:Xf→(V X)→X→W Xf)(a1:V X)(a2:X)(x17:V X0):Z→X→X→(V Xd)→(V Xa)→(V X7)→(V X2)→(V X4)→X→Y→X→X→X→(V X)→(V (V X0))→(V (V (V (V Y))))→(V X)→X→Y→(V X)→W Xf
| 0,_,_,_,_,_,_,_,_,_,_,_,_,_,_,_,_,_,_,_=>U
| n+1,v18,v19,v20,v21,v22,v23,v24,v25,v26,v27,v28,v29,v30,v31,v32,v33,v34,v35,v36=>
 if(decide (v18<(x17.length:X))) then(
 (ix x17 v18).bind fun x38=>
 DL rec_ a1 a2 v18 x17 v19 v20 v21 v22 v23 v24 v25 v26 v27 v28 v29 v30 v31 v32 v33 v34 v35 x38 v36 (EJ rec_ a1 a2 x17 n) bigN F (0:X))
 else(
 O (⟨(⟨(⟨(⟨v19,v20⟩:Xm),v21⟩:Xe),(⟨v22,v23⟩:X1),v24,(⟨v25,v26⟩:Xi),(⟨v27,v28,v29,v30⟩:Xn)⟩:X5),v31,v32,v33,v36,v34,v35⟩:Xf))
def H4(rec_:Xf→(V X)→X→W Xf)(a1:V X)(a2:X)(a0:Xf)(v4:Y):W Xf:=
if((a1.length:X)==(a0.lists.length:X)) then(
 Dp rec_ a1 a2 a0 v4 bigN (0:X) ([]:V X0))
else(
 (ix a0.lists (a1.length:X)).bind fun x17=>
 EJ rec_ a1 a2 x17 bigN (0:X) a0.h.Forecast.Tide.Mean a0.h.Forecast.Tide.Parts a0.h.Forecast.Surges a0.h.Chart.Points a0.h.Chart.Segments a0.h.Fleet a0.h.Regime.Gap a0.h.Regime.NoMeet a0.h.Crew.Tugs a0.h.Crew.Pilots a0.h.Crew.Rest a0.h.Crew.Moves a0.lists a0.clash a0.rest a0.cost v4 a0.best)
def Rd(rec_:Xf→(V X)→X→W Xf)(a0:Xf)(a1:V X)(a2:X):W Xf:=
if a0.found then(
 (ix a0.rest (a1.length:X)).bind fun x2=>
 if(decide (a0.cost≤(zM .i64 (a2+x2)))) then(
 O (⟨a0.h,a0.lists,a0.clash,a0.rest,a0.best,a0.cost,F⟩:Xf))
 else(
 H4 rec_ a1 a2 a0 F))
else(
 H4 rec_ a1 a2 a0 E)
def BW:Z→Xf→(V X)→X→W Xf
| 0,_,_,_=>U
| n+1,a0,a1,a2=>Rd (BW n) a0 a1 a2
def Tv(a0:Xf)(a1:V X)(a2:X):W Xf:=BW bigN a0 a1 a2
def Jp(a1:V (V X0))(a0:X5)(r1:(V (V (V (V Y))))):Z→X→(V X)→W ((V X) × X × Y)
| 0,_,_=>U
| n+1,v3,v4=>
 if(decide ((0:X)≤v3)) then(
 (ix a1 v3).bind fun x6=>
 (QV x6).bind fun r7=>
 if(decide (r7<(0:X))) then(
  O (([]:V X),(0:X),E))
 else(
  (ix v4 (zM .i64 (v3+(1:X)))).bind fun x9=>
  (ix x6 r7).bind fun x10=>
  (ix v4 v3).bind fun x11=>
  Jp a1 a0 r1 n (zM .i64 (v3 - (1:X))) (v4.set (zB v3) (zM .i64 (x9+x10.Cost)))))
 else(
 (Tv (⟨a0,a1,r1,v4,([]:V X),(0:X),E⟩:Xf) ([]:V X) (0:X)).bind fun r12=>
 if r12.found then(
  O (r12.best,r12.cost,F))
 else(
  O (([]:V X),(0:X),E)))
def Oz(a0:X5)(a1:V (V X0)):W ((V X) × X × Y):=
(OA a0 a1).bind fun r1=>
(BQ (zM .i64 ((a1.length:X)+(1:X))) (zM .i64 ((a1.length:X)+(1:X))) 8).bind fun n2=>
Jp a1 a0 r1 bigN (zM .i64 ((a1.length:X) - (1:X))) (zG n2 (0:X))
def Js(a1:V (V X0))(a2:V X)(a0:X5):Z→X→(V (V X0))→W Y
| 0,_,_=>U
| n+1,v1,v2=>
 if(decide (v1<(a2.length:X))) then(
 (ix a2 v1).bind fun x4=>
 (ix a1 x4).bind fun x5=>
 if A3 v2.length ([x5]:V (V X0)).length 24 then(
  Js a1 a2 a0 n (zM .i64 (v1+(1:X))) (v2++([x5]:V (V X0))))
 else U)
 else(
 (Oz a0 v2).bind fun r7=>
 O r7.2.2)
def OE(a0:X5)(a1:V (V X0))(a2:V X):W Y:=
Js a1 a2 a0 bigN (0:X) ([]:V (V X0))
def Ra(a1 a0:V X):Z→X→W Y
| 0,_=>U
| n+1,v1=>
 if(decide (v1<(a0.length:X))) then(
 (ix a0 v1).bind fun x3=>
 (ix a1 v1).bind fun x4=>
 if(x3 !=x4) then(
  O (decide (x3<x4)))
 else(
  Ra a1 a0 n (zM .i64 (v1+(1:X)))))
 else(
 O E)
def R9(a0 a1:V X):W Y:=
Ra a1 a0 bigN (0:X)
def Jr(a0:X)(a2 v14:Y)(v2:V X)(v11:Y)(r9:(V X))(a1:V Y)(v4:X)(BJ:Y→(V X)→Y→X→W (V X))(v21:Y):W (V X):=
if v21 then(
 BJ v14 r9 F (zM .i64 (v4+(1:X))))
else(
 BJ v14 v2 v11 (zM .i64 (v4+(1:X))))
def Lt(a0:X)(a2 v14:Y)(v2:V X)(v11:Y)(r9:(V X))(a1:V Y)(v4:X)(BJ:Y→(V X)→Y→X→W (V X))(v17:Y):W (V X):=
if v17 then(
 Jr a0 a2 v14 v2 v11 r9 a1 v4 BJ F)
else(
 if((r9.length:X)==(v2.length:X)) then(
 (R9 r9 v2).bind fun r20=>
 Jr a0 a2 v14 v2 v11 r9 a1 v4 BJ r20)
 else(
 Jr a0 a2 v14 v2 v11 r9 a1 v4 BJ E))
def Ls(a0:X)(a2:Y)(v2:V X)(v11:Y)(r9:(V X))(v12:Y)(a1:V Y)(v4:X)(BJ:Y→(V X)→Y→X→W (V X))(v14 v15:Y):W (V X):=
if v15 then(
 Lt a0 a2 v14 v2 v11 r9 a1 v4 BJ (decide ((v2.length:X)<(r9.length:X))))
else(
 Lt a0 a2 v14 v2 v11 r9 a1 v4 BJ v12)
def Lr(a0:X)(a2 v1:Y)(v2:V X)(r9:(V X))(a1:V Y)(v4:X)(BJ:Y→(V X)→Y→X→W (V X))(v11 v12:Y):W (V X):=
if v1 then(
 Ls a0 a2 v2 v11 r9 v12 a1 v4 BJ F v11)
else(
 Ls a0 a2 v2 v11 r9 v12 a1 v4 BJ E E)
def FS(a0:X)(a2:Y)(a1:V Y):Z→Y→(V X)→Y→X→W (V X)
| 0,_,_,_,_=>U
| n+1,v1,v2,v3,v4=>
 if(decide (v4<(a1.length:X))) then(
 (ix a1 v4).bind fun x6=>
 if(x6==a2) then(
  (OB a0 v4).bind fun r9=>
  if v3 then(
  Lr a0 a2 v1 v2 r9 a1 v4 (FS a0 a2 a1 n) F (decide ((r9.length:X)<(v2.length:X))))
  else(
  Lr a0 a2 v1 v2 r9 a1 v4 (FS a0 a2 a1 n) E F))
 else(
  FS a0 a2 a1 n v1 v2 v3 (zM .i64 (v4+(1:X)))))
 else(
 if v3 then(
  O v2)
 else(
  O ([]:V X)))
def OD(a0:X)(a1:V Y)(a2 a3:Y):W (V X):=
FS a0 a2 a1 bigN a3 ([]:V X) E (0:X)
def FG(r14:(V X))(a1:V Xb):Z→X→(V X)→W ((V X) × Y)
| 0,_,_=>U
| n+1,v15,v16=>
 if(decide (v15<(a1.length:X))) then(
 (Jj r14 v15).bind fun r18=>
 if r18 then(
  FG r14 a1 n (zM .i64 (v15+(1:X))) v16)
 else(
  if A3 v16.length ([v15]:V X).length 8 then(
  FG r14 a1 n (zM .i64 (v15+(1:X))) (v16++([v15]:V X)))
  else U))
 else(
 O (v16,F))
def J0(a1:V Xb)(a0:X5)(r6:(V (V X0))):Z→X→(V Y)→W ((V X) × Y)
| 0,_,_=>U
| n+1,v7,v8=>
 if decide ((a1.length:X)<0) then U else
 if(decide (v7<(Bh .i64 (1:X) (a1.length:X)))) then(
 (OB (a1.length:X) v7).bind fun r11=>
 (OE a0 r6 r11).bind fun r12=>
 if A3 v8.length ([r12]:V Y).length 1 then(
  J0 a1 a0 r6 n (zM .i64 (v7+(1:X))) (v8++([r12]:V Y)))
 else U)
 else(
 (OD (a1.length:X) v8 F F).bind fun r14=>
 FG r14 a1 bigN (0:X) ([]:V X))
def NY(a1:V Xb)(a2:V X9)(a0:X5)(v4:Y):W ((V X) × Y):=
if v4 then(
 O (([]:V X),E))
else(
 (Rf a0 a1 a2).bind fun r6=>
 J0 a1 a0 r6 bigN (0:X) ([]:V Y))
def GK(a0:X5)(a1:V Xb)(a2:V X9):W ((V X) × Y):=
(L4 a0 a1).bind fun r1=>
if r1 then(
 (La a0.Chart a2).bind fun r3=>
 NY a1 a2 a0 (!r3))
else(
 NY a1 a2 a0 F)
def BV(a0 a1 a2:X):W Y:=
if(decide (a1≤a0)) then(
 O (decide (a0≤a2)))
else(
 O E)
def KF(a0:X):W Y:=
(BV a0 (4:X) (2880:X)).bind fun r1=>
if r1 then(
 O ((zM .i64 (zJ a0 (4:X)))==(0:X)))
else(
 O E)
def MH(a0:Xd):W Y:=
(BV a0.Amp (0:X) (1000:X)).bind fun r1=>
if r1 then(
 (KF a0.Period).bind fun r3=>
 if r3 then(
 (BV a0.Phase (0:X) (zM .i64 (a0.Period - (1:X)))).bind fun r5=>
 O r5)
 else(
 O E))
else(
 O E)
def I9(a0:Xm):Z→X→W Y
| 0,_=>U
| n+1,v4=>
 if(decide (v4<(a0.Parts.length:X))) then(
 (ix a0.Parts v4).bind fun x6=>
 (MH x6).bind fun r7=>
 if r7 then(
  I9 a0 n (zM .i64 (v4+(1:X))))
 else(
  O E))
 else(
 O F)
def MS(a0:Xm):W Y:=
(BV a0.Mean (-1000:X) (1000:X)).bind fun r1=>
if r1 then(
 if(decide ((4:X)<(a0.Parts.length:X))) then(
 O E)
 else(
 I9 a0 bigN (0:X)))
else(
 O E)
def D5(a0:X):W Y:=
(BV a0 (0:X) (2880:X)).bind fun r1=>
O r1
def MR(a0:Xa):W Y:=
(D5 a0.From).bind fun r1=>
if r1 then(
 if(decide ((-500:X)≤a0.Low)) then(
 if(decide (a0.Low≤a0.High)) then(
  O (decide (a0.High≤(500:X))))
 else(
  O E))
 else(
 O E))
else(
 O E)
def Gq(a0:Xe):Z→X→W Y
| 0,_=>U
| n+1,v7=>
 if(decide (v7<(a0.Surges.length:X))) then(
 (ix a0.Surges v7).bind fun x9=>
 (MR x9).bind fun r10=>
 if r10 then(
  if(decide ((0:X)<v7)) then(
  (ix a0.Surges (zM .i64 (v7 - (1:X)))).bind fun x13=>
  if(decide (x9.From≤x13.From)) then(
   O E)
  else(
   Gq a0 n (zM .i64 (v7+(1:X)))))
  else(
  Gq a0 n (zM .i64 (v7+(1:X)))))
 else(
  O E))
 else(
 O F)
def Gp(a0:Xe):W Y:=
(MS a0.Tide).bind fun r1=>
if r1 then(
 (BV (a0.Surges.length:X) (1:X) (6:X)).bind fun r3=>
 if r3 then(
 (ix a0.Surges (0:X)).bind fun x5=>
 if(x5.From !=(0:X)) then(
  O E)
 else(
  Gq a0 bigN (0:X)))
 else(
 O E))
else(
 O E)
def MA(a0:V zA)(v3:X)(EN:X→W Y):W Y:=
EN (zM .i64 (v3+(1:X)))
def Mz(a0:V zA)(v3:X)(EN:X→W Y)(v7:Y):W Y:=
if v7 then(
 MA a0 v3 EN)
else(
 if(v3==(0:X)) then(
 O E)
 else(
 (ix a0 v3).bind fun b10=>
 if(decide ((b10.toNat:X)<(48:X))) then(
  O E)
 else(
  if(decide ((57:X)<(b10.toNat:X))) then(
  O E)
  else(
  MA a0 v3 EN))))
def Gr(a0:V zA):Z→X→W Y
| 0,_=>U
| n+1,v3=>
 if(decide (v3<(a0.length:X))) then(
 (ix a0 v3).bind fun b5=>
 if(decide ((97:X)≤(b5.toNat:X))) then(
  Mz a0 v3 (Gr a0 n) (decide ((b5.toNat:X)≤(122:X))))
 else(
  Mz a0 v3 (Gr a0 n) E))
 else(
 O F)
def Kr(a0:V zA):W Y:=
(BV (a0.length:X) (1:X) (8:X)).bind fun r1=>
if r1 then(
 Gr a0 bigN (0:X))
else(
 O E)
def I5(a1:V zA)(a0:X1):Z→X→W X
| 0,_=>U
| n+1,v1=>
 if(decide (v1<(a0.Points.length:X))) then(
 (ix a0.Points v1).bind fun x3=>
 if(x3.Name==a1) then(
  O v1)
 else(
  I5 a1 a0 n (zM .i64 (v1+(1:X)))))
 else(
 O (-1:X))
def MK(a0:X1)(a1:V zA):W X:=
I5 a1 a0 bigN (0:X)
def Bo(a0 a1:X):W Y:=
if(decide ((0:X)≤a0)) then(
 O (decide (a0<a1)))
else(
 O E)
def MM(a0:X2)(a1 a2:X):W Y:=
if(a0.A==a1) then(
 if(a0.B==a2) then(
 O F)
 else(
 if(a0.A==a2) then(
  O (a0.B==a1))
 else(
  O E)))
else(
 if(a0.A==a2) then(
 O (a0.B==a1))
 else(
 O E))
def HQ(a0:X1)(v11:X)(x13:X2)(y24:V X2)(y25:X)(P0:X→W Y):Z→X→W Y
| 0,_=>U
| n+1,v26=>
 if(decide (v26<y25)) then(
 (ix y24 v26).bind fun x28=>
 (MM x28 x13.A x13.B).bind fun r29=>
 if r29 then(
  O E)
 else(
  HQ a0 v11 x13 y24 y25 P0 n (zM .i64 (v26+(1:X)))))
 else(
 P0 (zM .i64 (v11+(1:X))))
def EA(a0:X1):Z→X→W Y
| 0,_=>U
| n+1,v11=>
 if(decide (v11<(a0.Segments.length:X))) then(
 (ix a0.Segments v11).bind fun x13=>
 (Bo x13.A (a0.Points.length:X)).bind fun r14=>
 if r14 then(
  (Bo x13.B (a0.Points.length:X)).bind fun r16=>
  if r16 then(
  if(x13.A==x13.B) then(
   O E)
  else(
   (BV x13.Depth (0:X) (3000:X)).bind fun r19=>
   if r19 then(
   (BV x13.Minutes (1:X) (240:X)).bind fun r21=>
   if r21 then(
    (bnd (a0.Segments.length:X) v11 (0:X) a0.Segments.length).bind fun p23=>
    HQ a0 v11 x13 ((a0.Segments.drop p23.1).take (p23.2 - p23.1)) (((a0.Segments.drop p23.1).take (p23.2 - p23.1)).length:X) (EA a0 n) bigN (0:X))
   else(
    O E))
   else(
   O E)))
  else(
  O E))
 else(
  O E))
 else(
 O F)
def HP(a0:X1):Z→X→W Y
| 0,_=>U
| n+1,v3=>
 if(decide (v3<(a0.Points.length:X))) then(
 (ix a0.Points v3).bind fun x5=>
 (Kr x5.Name).bind fun r6=>
 if r6 then(
  (MK a0 x5.Name).bind fun r9=>
  if(r9 !=v3) then(
  O E)
  else(
  HP a0 n (zM .i64 (v3+(1:X)))))
 else(
  O E))
 else(
 EA a0 bigN (0:X))
def Dn(a0:X1):W Y:=
if(decide ((8:X)<(a0.Points.length:X))) then(
 O E)
else(
 if(decide ((10:X)<(a0.Segments.length:X))) then(
 O E)
 else(
 HP a0 bigN (0:X)))
def EB(a0:X4):W Y:=
(Kr a0.Name).bind fun r1=>
if r1 then(
 (BV a0.Length (10:X) (400:X)).bind fun r3=>
 if r3 then(
 (BV a0.Draught (100:X) (2000:X)).bind fun r5=>
 if r5 then(
  (Bo a0.Line (4:X)).bind fun r7=>
  if r7 then(
  (BV a0.Tugs (0:X) (4:X)).bind fun r9=>
  O r9)
  else(
  O E))
 else(
  O E))
 else(
 O E))
else(
 O E)
def I8(a1:V zA)(a0:V X4):Z→X→W X
| 0,_=>U
| n+1,v1=>
 if(decide (v1<(a0.length:X))) then(
 (ix a0 v1).bind fun x3=>
 if(x3.Name==a1) then(
  O v1)
 else(
  I8 a1 a0 n (zM .i64 (v1+(1:X)))))
 else(
 O (-1:X))
def MO(a0:V X4)(a1:V zA):W X:=
I8 a1 a0 bigN (0:X)
def I0(a0:V X4):Z→X→W Y
| 0,_=>U
| n+1,v2=>
 if(decide (v2<(a0.length:X))) then(
 (ix a0 v2).bind fun x4=>
 (EB x4).bind fun r5=>
 if r5 then(
  (MO a0 x4.Name).bind fun r7=>
  if(r7 !=v2) then(
  O E)
  else(
  I0 a0 n (zM .i64 (v2+(1:X)))))
 else(
  O E))
 else(
 O F)
def Kn(a0:V X4):W Y:=
if(decide ((6:X)<(a0.length:X))) then(
 O E)
else(
 I0 a0 bigN (0:X))
def Qo(a0:Xi):W Y:=
(BV a0.Gap (0:X) (60:X)).bind fun r1=>
O r1
def GA(a0:V X):Z→X→W Y
| 0,_=>U
| n+1,v2=>
 if(decide (v2<(a0.length:X))) then(
 (ix a0 v2).bind fun x4=>
 (BV x4 (0:X) (240:X)).bind fun r5=>
 if r5 then(
  GA a0 n (zM .i64 (v2+(1:X))))
 else(
  O E))
 else(
 O F)
def Gz(a0:V X):W Y:=
if((a0.length:X) !=(64:X)) then(
 O E)
else(
 GA a0 bigN (0:X))
def Mr(a0:Xn):W Y:=
(BV a0.Tugs (0:X) (12:X)).bind fun r1=>
if r1 then(
 (BV a0.Pilots (0:X) (12:X)).bind fun r3=>
 if r3 then(
 (D5 a0.Rest).bind fun r5=>
 if r5 then(
  (Gz a0.Moves).bind fun r7=>
  O r7)
 else(
  O E))
 else(
 O E))
else(
 O E)
def Ko(a0:X5):W Y:=
(Gp a0.Forecast).bind fun r1=>
if r1 then(
 (Dn a0.Chart).bind fun r3=>
 if r3 then(
 (Kn a0.Fleet).bind fun r5=>
 if r5 then(
  (Qo a0.Regime).bind fun r7=>
  if r7 then(
  (Mr a0.Crew).bind fun r9=>
  O r9)
  else(
  O E))
 else(
  O E))
 else(
 O E))
else(
 O E)
def KA(a0:X5)(a1:Xb):W Y:=
(Bo a1.Ship (a0.Fleet.length:X)).bind fun r1=>
if r1 then(
 (Bo a1.From (a0.Chart.Points.length:X)).bind fun r3=>
 if r3 then(
 (Bo a1.To (a0.Chart.Points.length:X)).bind fun r5=>
 if r5 then(
  if(a1.From !=a1.To) then(
  (D5 a1.Ready).bind fun r9=>
  if r9 then(
   (BV a1.Due a1.Ready (2880:X)).bind fun r11=>
   O r11)
  else(
   O E))
  else(
  O E))
 else(
  O E))
 else(
 O E))
else(
 O E)
def DG(a1:V Xb)(v4:X)(a0:X5)(x6:Xb)(y10:V Xb)(y11:X)(OZ:X→W Y):Z→X→W Y
| 0,_=>U
| n+1,v12=>
 if(decide (v12<y11)) then(
 (ix y10 v12).bind fun x14=>
 if(x14.Ship==x6.Ship) then(
  O E)
 else(
  DG a1 v4 a0 x6 y10 y11 OZ n (zM .i64 (v12+(1:X)))))
 else(
 OZ (zM .i64 (v4+(1:X))))
def CM(a1:V Xb)(a0:X5):Z→X→W Y
| 0,_=>U
| n+1,v4=>
 if(decide (v4<(a1.length:X))) then(
 (ix a1 v4).bind fun x6=>
 (KA a0 x6).bind fun r7=>
 if r7 then(
  (bnd (a1.length:X) v4 (0:X) a1.length).bind fun p9=>
  DG a1 v4 a0 x6 ((a1.drop p9.1).take (p9.2 - p9.1)) (((a1.drop p9.1).take (p9.2 - p9.1)).length:X) (CM a1 a0 n) bigN (0:X))
 else(
  O E))
 else(
 O F)
def CZ(a0:X5)(a1:V Xb):W Y:=
(Ko a0).bind fun r1=>
if r1 then(
 if(decide ((6:X)<(a1.length:X))) then(
 O E)
 else(
 CM a1 a0 bigN (0:X)))
else(
 O E)
def HW(a1:V X9)(a0:X1):Z→X→W Y
| 0,_=>U
| n+1,v4=>
 if(decide (v4<(a1.length:X))) then(
 (ix a1 v4).bind fun x6=>
 (Bo x6.Segment (a0.Segments.length:X)).bind fun r7=>
 if r7 then(
  if(decide (x6.From<(0:X))) then(
  O E)
  else(
  if(decide (x6.To≤x6.From)) then(
   O E)
  else(
   if(decide ((2880:X)<x6.To)) then(
   O E)
   else(
   HW a1 a0 n (zM .i64 (v4+(1:X)))))))
 else(
  O E))
 else(
 O F)
def HV(a0:X1)(a1:V X9):W Y:=
(Dn a0).bind fun r1=>
if r1 then(
 if(decide ((4:X)<(a1.length:X))) then(
 O E)
 else(
 HW a1 a0 bigN (0:X)))
else(
 O E)
def Qw(rec_:X→X→W (V (V X)))(a0 a1 v2:X)(r5:(V (V X)))(v6:X)(x9:V X)(v7:V (V X))(P6:X→(V (V X))→W (V (V X))):Z→X→(V X)→W (V (V X))
| 0,_,_=>U
| n+1,v10,v11=>
 if(decide (v10<(x9.length:X))) then(
 (ix x9 v10).bind fun x13=>
 if A3 v11.length ([(zM .i64 ((zM .i64 (v2+(1:X)))+x13))]:V X).length 8 then(
  Qw rec_ a0 a1 v2 r5 v6 x9 v7 P6 n (zM .i64 (v10+(1:X))) (v11++([(zM .i64 ((zM .i64 (v2+(1:X)))+x13))]:V X)))
 else U)
 else(
 if A3 v7.length ([v11]:V (V X)).length 24 then(
  P6 (zM .i64 (v6+(1:X))) (v7++([v11]:V (V X))))
 else U)
def Qv(rec_:X→X→W (V (V X)))(a0 a1 v2:X)(r5:(V (V X)))(P5:X→(V (V X))→W (V (V X))):Z→X→(V (V X))→W (V (V X))
| 0,_,_=>U
| n+1,v6,v7=>
 if(decide (v6<(r5.length:X))) then(
 (ix r5 v6).bind fun x9=>
 Qw rec_ a0 a1 v2 r5 v6 x9 v7 (Qv rec_ a0 a1 v2 r5 P5 n) bigN (0:X) ([v2]:V X))
 else(
 P5 (zM .i64 (v2+(1:X))) v7)
def Qu(rec_:X→X→W (V (V X)))(a0 a1:X):Z→X→(V (V X))→W (V (V X))
| 0,_,_=>U
| n+1,v2,v3=>
 if(decide (v2<a0)) then(
 (rec_ (zM .i64 ((zM .i64 (a0 - v2)) - (1:X))) (zM .i64 (a1 - (1:X)))).bind fun r5=>
 Qv rec_ a0 a1 v2 r5 (Qu rec_ a0 a1 n) bigN (0:X) v3)
 else(
 O v3)
def Tt(rec_:X→X→W (V (V X)))(a0 a1:X):W (V (V X)):=
if(a1==(0:X)) then(
 O ([([]:V X)]:V (V X)))
else(
 Qu rec_ a0 a1 bigN (0:X) ([]:V (V X)))
def N8:Z→X→X→W (V (V X))
| 0,_,_=>U
| n+1,a0,a1=>Tt (N8 n) a0 a1
def Ts(a0 a1:X):W (V (V X)):=N8 bigN a0 a1
def Gy(a1:(V X)→W Y)(a0:V Xb)(v1:X)(r3:(V (V X)))(P3:X→W (V X)):Z→X→W (V X)
| 0,_=>U
| n+1,v4=>
 if(decide (v4<(r3.length:X))) then(
 (ix r3 v4).bind fun x6=>
 (a1 x6).bind fun r7=>
 if r7 then(
  O x6)
 else(
  Gy a1 a0 v1 r3 P3 n (zM .i64 (v4+(1:X)))))
 else(
 P3 (zM .i64 (v1 - (1:X))))
def Ij(a1:(V X)→W Y)(a0:V Xb):Z→X→W (V X)
| 0,_=>U
| n+1,v1=>
 if(decide ((0:X)≤v1)) then(
 (Ts (a0.length:X) v1).bind fun r3=>
 Gy a1 a0 v1 r3 (Ij a1 a0 n) bigN (0:X))
 else(
 O ([]:V X))
def N4(a0:V Xb)(a1:(V X)→W Y):W (V X):=
Ij a1 a0 bigN (a0.length:X)
def Gw(a0:V Xb)(a1:V X):Z→X→W Y
| 0,_=>U
| n+1,v1=>
 if(decide (v1<(a1.length:X))) then(
 (ix a1 v1).bind fun x3=>
 (Bo x3 (a0.length:X)).bind fun r4=>
 if r4 then(
  if(decide ((0:X)<v1)) then(
  (ix a1 (zM .i64 (v1 - (1:X)))).bind fun x7=>
  if(decide (x3≤x7)) then(
   O E)
  else(
   Gw a0 a1 n (zM .i64 (v1+(1:X)))))
  else(
  Gw a0 a1 n (zM .i64 (v1+(1:X)))))
 else(
  O E))
 else(
 O F)
def N1(a0:V Xb)(a1:V X):W Y:=
Gw a0 a1 bigN (0:X)
def I7(a0:V Xb)(a1:V X):Z→X→(V Xb)→W (V Xb)
| 0,_,_=>U
| n+1,v3,v4=>
 if(decide (v3<(a1.length:X))) then(
 (ix a1 v3).bind fun x6=>
 (ix a0 x6).bind fun x7=>
 if A3 v4.length ([x7]:V Xb).length 40 then(
  I7 a0 a1 n (zM .i64 (v3+(1:X))) (v4++([x7]:V Xb)))
 else U)
 else(
 O v4)
def MN(a0:V Xb)(a1:V X):W (V Xb):=
(N1 a0 a1).bind fun r1=>
if r1 then(
 I7 a0 a1 bigN (0:X) ([]:V Xb))
else(
 O ([]:V Xb))
def Kl(a0:X5)(a1:Xb):W Y:=
(Ko a0).bind fun r1=>
if r1 then(
 (KA a0 a1).bind fun r3=>
 O r3)
else(
 O E)
def BG(a0:V X):W (V X):=
(BQ (0:X) (a0.length:X) 8).bind fun n1=>
if A3 (zG n1 (0:X)).length a0.length 8 then(
 O ((zG n1 (0:X))++a0))
else U
def Kw(a0:X2)(a1:X):W X:=
if(a1==a0.A) then(
 O a0.B)
else(
 if(a1==a0.B) then(
 O a0.A)
 else(
 O (-1:X)))
def HT(rec_:X1→X→X→(V X)→X8→(V (V X))→W (V (V X)))(a1 a2:X)(a3:V X)(v6 r11:X)(a0:X1)(y7:X8)(v8:V (V X))(P1:X→(V (V X))→W (V (V X)))(v16:Y):W (V (V X)):=
if v16 then(
 (BG a3).bind fun r18=>
 if A3 r18.length ([v6]:V X).length 8 then(
 (rec_ a0 r11 a2 (r18++([v6]:V X)) y7 v8).bind fun r20=>
 P1 (zM .i64 (v6+(1:X))) r20)
 else U)
else(
 P1 (zM .i64 (v6+(1:X))) v8)
def Gm(rec_:X1→X→X→(V X)→X8→(V (V X))→W (V (V X)))(a1 a2:X)(a3:V X)(a0:X1)(y7:X8):Z→X→(V (V X))→W (V (V X))
| 0,_,_=>U
| n+1,v6,v8=>
 if(decide (v6<(a0.Segments.length:X))) then(
 (ix a0.Segments v6).bind fun x10=>
 (Kw x10 a1).bind fun r11=>
 if(decide ((0:X)≤r11)) then(
  if decide ((0:X)≤r11)&&decide (r11<(8:X)) then(
  (ix ([y7.i0,y7.i1,y7.i2,y7.i3,y7.i4,y7.i5,y7.i6,y7.i7]:V Y) r11).bind fun x14=>
  HT rec_ a1 a2 a3 v6 r11 a0 y7 v8 (Gm rec_ a1 a2 a3 a0 y7 n) (!x14))
  else U)
 else(
  HT rec_ a1 a2 a3 v6 r11 a0 y7 v8 (Gm rec_ a1 a2 a3 a0 y7 n) E))
 else(
 O v8)
def Ql(rec_:X1→X→X→(V X)→X8→(V (V X))→W (V (V X)))(a0:X1)(a1 a2:X)(a3:V X)(a4:X8)(a5:V (V X)):W (V (V X)):=
if(a1==a2) then(
 (BG a3).bind fun r2=>
 if A3 a5.length ([r2]:V (V X)).length 24 then(
 O (a5++([r2]:V (V X))))
 else U)
else(
 if decide ((0:X)≤a1)&&decide (a1<(8:X)) then(
 Gm rec_ a1 a2 a3 a0 (⟨((X8.set a4 (zB a1) F)).i0,((X8.set a4 (zB a1) F)).i1,((X8.set a4 (zB a1) F)).i2,((X8.set a4 (zB a1) F)).i3,((X8.set a4 (zB a1) F)).i4,((X8.set a4 (zB a1) F)).i5,((X8.set a4 (zB a1) F)).i6,((X8.set a4 (zB a1) F)).i7⟩:X8) bigN (0:X) a5)
 else U)
def Gn:Z→X1→X→X→(V X)→X8→(V (V X))→W (V (V X))
| 0,_,_,_,_,_,_=>U
| n+1,a0,a1,a2,a3,a4,a5=>Ql (Gn n) a0 a1 a2 a3 a4 a5
def Tn(a0:X1)(a1 a2:X)(a3:V X)(a4:X8)(a5:V (V X)):W (V (V X)):=Gn bigN a0 a1 a2 a3 a4 a5
def ML(a0:X1)(a1 a2:X):W (V (V X)):=
(Dn a0).bind fun r1=>
if r1 then(
 (Bo a1 (a0.Points.length:X)).bind fun r3=>
 if r3 then(
 (Bo a2 (a0.Points.length:X)).bind fun r5=>
 if r5 then(
  (Tn a0 a1 a2 ([]:V X) (⟨E,E,E,E,E,E,E,E⟩:X8) ([]:V (V X))).bind fun r7=>
  O r7)
 else(
  O ([]:V (V X))))
 else(
 O ([]:V (V X))))
else(
 O ([]:V (V X)))
def I6(a1:V X)(a0:X1):Z→X→X→W X
| 0,_,_=>U
| n+1,v3,v4=>
 if(decide (v4<(a1.length:X))) then(
 (ix a1 v4).bind fun x6=>
 (Bo x6 (a0.Segments.length:X)).bind fun r7=>
 if r7 then(
  (ix a0.Segments x6).bind fun x9=>
  I6 a1 a0 n (zM .i64 (v3+x9.Minutes)) (zM .i64 (v4+(1:X))))
 else(
  O (-1:X)))
 else(
 O v3)
def Gt(a0:X1)(a1:V X):W X:=
(Dn a0).bind fun r1=>
if r1 then(
 I6 a1 a0 bigN (0:X) (0:X))
else(
 O (-1:X))
def Fe(r1:(V (V X)))(a0:X1):Z→(V X)→X→W ((V X) × Y)
| 0,_,_=>U
| n+1,v4,v5=>
 if(decide (v5<(r1.length:X))) then(
 (ix r1 v5).bind fun x7=>
 (Gt a0 x7).bind fun r9=>
 (Gt a0 v4).bind fun r10=>
 if(decide (r9<r10)) then(
  Fe r1 a0 n x7 (zM .i64 (v5+(1:X))))
 else(
  Fe r1 a0 n v4 (zM .i64 (v5+(1:X)))))
 else(
 O (v4,F))
def Mn(a0:X1)(a1 a2:X):W ((V X) × Y):=
(ML a0 a1 a2).bind fun r1=>
if((r1.length:X)==(0:X)) then(
 O (([]:V X),E))
else(
 (ix r1 (0:X)).bind fun x3=>
 Fe r1 a0 bigN x3 (0:X))
def HS(r14:X)(a2:V X)(v6:X)(a0:X1)(v7:X8)(v8:V X)(RS:X→X→X8→(V X)→W ((V X) × Y))(v19:Y):W ((V X) × Y):=
if v19 then(
 O (([]:V X),E))
else(
 if decide ((0:X)≤r14)&&decide (r14<(8:X)) then(
 if A3 v8.length ([r14]:V X).length 8 then(
  RS r14 (zM .i64 (v6+(1:X))) (⟨((X8.set v7 (zB r14) F)).i0,((X8.set v7 (zB r14) F)).i1,((X8.set v7 (zB r14) F)).i2,((X8.set v7 (zB r14) F)).i3,((X8.set v7 (zB r14) F)).i4,((X8.set v7 (zB r14) F)).i5,((X8.set v7 (zB r14) F)).i6,((X8.set v7 (zB r14) F)).i7⟩:X8) (v8++([r14]:V X)))
 else U)
 else U)
def Gl(a2:V X)(a0:X1):Z→X→X→X8→(V X)→W ((V X) × Y)
| 0,_,_,_,_=>U
| n+1,v5,v6,v7,v8=>
 if(decide (v6<(a2.length:X))) then(
 (ix a2 v6).bind fun x10=>
 (Bo x10 (a0.Segments.length:X)).bind fun r11=>
 if r11 then(
  (ix a0.Segments x10).bind fun x13=>
  (Kw x13 v5).bind fun r14=>
  if(decide (r14<(0:X))) then(
  HS r14 a2 v6 a0 v7 v8 (Gl a2 a0 n) F)
  else(
  if decide ((0:X)≤r14)&&decide (r14<(8:X)) then(
   (ix ([v7.i0,v7.i1,v7.i2,v7.i3,v7.i4,v7.i5,v7.i6,v7.i7]:V Y) r14).bind fun x17=>
   HS r14 a2 v6 a0 v7 v8 (Gl a2 a0 n) x17)
  else U))
 else(
  O (([]:V X),E)))
 else(
 O (v8,F))
def HR(a0:X1)(a1:X)(a2:V X):W ((V X) × Y):=
(Bo a1 (a0.Points.length:X)).bind fun r1=>
if r1 then(
 if decide ((0:X)≤a1)&&decide (a1<(8:X)) then(
 Gl a2 a0 bigN a1 (0:X) (⟨((X8.set (⟨E,E,E,E,E,E,E,E⟩:X8) (zB a1) F)).i0,((X8.set (⟨E,E,E,E,E,E,E,E⟩:X8) (zB a1) F)).i1,((X8.set (⟨E,E,E,E,E,E,E,E⟩:X8) (zB a1) F)).i2,((X8.set (⟨E,E,E,E,E,E,E,E⟩:X8) (zB a1) F)).i3,((X8.set (⟨E,E,E,E,E,E,E,E⟩:X8) (zB a1) F)).i4,((X8.set (⟨E,E,E,E,E,E,E,E⟩:X8) (zB a1) F)).i5,((X8.set (⟨E,E,E,E,E,E,E,E⟩:X8) (zB a1) F)).i6,((X8.set (⟨E,E,E,E,E,E,E,E⟩:X8) (zB a1) F)).i7⟩:X8) ([a1]:V X))
 else U)
else(
 O (([]:V X),E))
def E6(a0:X1)(a1:X)(a2:V X):W (V X):=
(Dn a0).bind fun r1=>
if r1 then(
 (HR a0 a1 a2).bind fun r3=>
 O r3.1)
else(
 O ([]:V X))
def Fi(a0:X1)(a1:X)(a2:V X):W Y:=
(Dn a0).bind fun r1=>
if r1 then(
 (HR a0 a1 a2).bind fun r3=>
 O r3.2)
else(
 O E)
def Fj(a0:X4)(a1:X2):W X:=
if a0.Slow then(
 O (zM .i64 ((2:X)*a1.Minutes)))
else(
 O a1.Minutes)
def Ik(a0:X1)(a1:X)(a2:X4):W Y:=
(Dn a0).bind fun r1=>
if r1 then(
 (EB a2).bind fun r3=>
 if r3 then(
 (Bo a1 (a0.Segments.length:X)).bind fun r5=>
 O r5)
 else(
 O E))
else(
 O E)
def Qq(a0:X4):W X:=
if a0.Slow then(
 O (zM .i64 (zF a0.Draught (50:X))))
else(
 O (zM .i64 (zF a0.Draught (20:X))))
def Qp(a0:X4):W X:=
(Qq a0).bind fun r1=>
O (zM .i64 ((zM .i64 (a0.Draught+r1))+(50:X)))
def MC(a0:X1)(a1:X)(a2:X4):W X:=
(Ik a0 a1 a2).bind fun r1=>
if r1 then(
 (Qp a2).bind fun r3=>
 (ix a0.Segments a1).bind fun x4=>
 O (zM .i64 (r3 - x4.Depth)))
else(
 O (0:X))
def It(a0:X→W Y)(v2:X)(FW:Y→X→(V X6)→W (V X6))(v11:Y)(v12:V X6):W (V X6):=
FW v11 (zM .i64 (v2+(1:X))) v12
def KJ(a0:X→W Y)(v2:X)(FW:Y→X→(V X6)→W (V X6))(v9:V X6):W (V X6):=
(ix v9 (zM .i64 ((v9.length:X) - (1:X)))).bind fun x10=>
It a0 v2 FW F (v9.set (zB (zM .i64 ((v9.length:X) - (1:X)))) (⟨x10.From,v2⟩:X6))
def Ft(a0:X→W Y):Z→Y→X→(V X6)→W (V X6)
| 0,_,_,_=>U
| n+1,v1,v2,v3=>
 if(decide (v2≤(2880:X))) then(
 (a0 v2).bind fun r5=>
 if r5 then(
  if v1 then(
  KJ a0 v2 (Ft a0 n) v3)
  else(
  if A3 v3.length ([(⟨v2,(0:X)⟩:X6)]:V X6).length 16 then(
   KJ a0 v2 (Ft a0 n) (v3++([(⟨v2,(0:X)⟩:X6)]:V X6)))
  else U))
 else(
  It a0 v2 (Ft a0 n) E v3))
 else(
 O v3)
def Nc(a0:X→W Y):W (V X6):=
Ft a0 bigN E (0:X) ([]:V X6)
def MT(a0 a1:X):W X:=
(KF a1).bind fun r1=>
if r1 then(
 if a1==0 then U else
 if a1==0 then U else
 if(decide ((zM .i64 (zF a1 (2:X)))≤(zM .i64 (zJ (zM .i64 ((zM .i64 (zJ a0 a1))+a1)) a1)))) then(
 if(zM .i64 ((zM .i64 (zF a1 (2:X)))*(zM .i64 (zF a1 (2:X)))))==0 then U else
 O (zM .i64 (0 - (zM .i64 (zF (zM .i64 ((zM .i64 ((40000:X)*(zM .i64 ((zM .i64 (zJ (zM .i64 ((zM .i64 (zJ a0 a1))+a1)) a1)) - (zM .i64 (zF a1 (2:X)))))))*(zM .i64 ((zM .i64 (zF a1 (2:X))) - (zM .i64 ((zM .i64 (zJ (zM .i64 ((zM .i64 (zJ a0 a1))+a1)) a1)) - (zM .i64 (zF a1 (2:X))))))))) (zM .i64 ((zM .i64 (zF a1 (2:X)))*(zM .i64 (zF a1 (2:X))))))))))
 else(
 if(zM .i64 ((zM .i64 (zF a1 (2:X)))*(zM .i64 (zF a1 (2:X)))))==0 then U else
 O (zM .i64 (zF (zM .i64 ((zM .i64 ((40000:X)*(zM .i64 (zJ (zM .i64 ((zM .i64 (zJ a0 a1))+a1)) a1))))*(zM .i64 ((zM .i64 (zF a1 (2:X))) - (zM .i64 (zJ (zM .i64 ((zM .i64 (zJ a0 a1))+a1)) a1)))))) (zM .i64 ((zM .i64 (zF a1 (2:X)))*(zM .i64 (zF a1 (2:X)))))))))
else(
 O (0:X))
def Ia(a1:X)(a0:Xm):Z→X→X→W X
| 0,_,_=>U
| n+1,v1,v2=>
 if(decide (v2<(a0.Parts.length:X))) then(
 (ix a0.Parts v2).bind fun x4=>
 (MT (zM .i64 (a1+x4.Phase)) x4.Period).bind fun r5=>
 Ia a1 a0 n (zM .i64 (v1+(zM .i64 (zF (zM .i64 (x4.Amp*r5)) (10000:X))))) (zM .i64 (v2+(1:X))))
 else(
 O v1)
def Qs(a0:Xm)(a1:X):W X:=
Ia a1 a0 bigN a0.Mean (0:X)
def Fh(a1:X)(a0:Xe):Z→X→X→W X
| 0,_,_=>U
| n+1,v1,v2=>
 if(decide (v2<(a0.Surges.length:X))) then(
 (ix a0.Surges v2).bind fun x4=>
 if(decide (x4.From≤a1)) then(
  Fh a1 a0 n v2 (zM .i64 (v2+(1:X))))
 else(
  Fh a1 a0 n v1 (zM .i64 (v2+(1:X)))))
 else(
 O v1)
def Mw(a0:Xe)(a1:X):W X:=
Fh a1 a0 bigN (0:X) (0:X)
def Mv(a0:Xe)(a1:X):W X:=
(Qs a0.Tide a1).bind fun r1=>
(Mw a0 a1).bind fun r2=>
(ix a0.Surges r2).bind fun x3=>
O (zM .i64 (r1+x3.Low))
def Qn(a0:X)(c0:Xe)(c1:X):W Y:=
(Mv c0 a0).bind fun r1=>
O (decide (c1≤r1))
def MD(a0:Xe)(a1:X):W (V X6):=
(Gp a0).bind fun r1=>
if r1 then(
 (Nc (fun z0=>Qn z0 a0 a1)).bind fun r3=>
 O r3)
else(
 O ([]:V X6))
def ME(a0:X1)(a1:X)(a2:X4):W X:=
(Dn a0).bind fun r1=>
if r1 then(
 (EB a2).bind fun r3=>
 if r3 then(
 (Bo a1 (a0.Segments.length:X)).bind fun r5=>
 if r5 then(
  (ix a0.Segments a1).bind fun x7=>
  (Fj a2 x7).bind fun r9=>
  O r9)
 else(
  O (0:X)))
 else(
 O (0:X)))
else(
 O (0:X))
def Fm(a0:V X6):Z→X→W Y
| 0,_=>U
| n+1,v1=>
 if(decide (v1<(a0.length:X))) then(
 (ix a0 v1).bind fun x3=>
 if(decide (x3.From<(0:X))) then(
  O E)
 else(
  if(decide (x3.To<x3.From)) then(
  O E)
  else(
  if(decide ((2880:X)<x3.To)) then(
   O E)
  else(
   if(decide ((0:X)<v1)) then(
   (ix a0 (zM .i64 (v1 - (1:X)))).bind fun x8=>
   if(decide (x3.From≤(zM .i64 (x8.To+(1:X))))) then(
    O E)
   else(
    Fm a0 n (zM .i64 (v1+(1:X)))))
   else(
   Fm a0 n (zM .i64 (v1+(1:X))))))))
 else(
 O F)
def Ky(a0:V X6):W Y:=
Fm a0 bigN (0:X)
def Fl(a1:X)(a0:V X6):Z→X→(V X6)→W (V X6)
| 0,_,_=>U
| n+1,v5,v6=>
 if(decide (v5<(a0.length:X))) then(
 (ix a0 v5).bind fun x8=>
 if(decide (a1≤(zM .i64 (x8.To - x8.From)))) then(
  if A3 v6.length ([(⟨x8.From,(zM .i64 (x8.To - a1))⟩:X6)]:V X6).length 16 then(
  Fl a1 a0 n (zM .i64 (v5+(1:X))) (v6++([(⟨x8.From,(zM .i64 (x8.To - a1))⟩:X6)]:V X6)))
  else U)
 else(
  Fl a1 a0 n (zM .i64 (v5+(1:X))) v6))
 else(
 O v6)
def Qr(a0:V X6)(a1:X):W (V X6):=
(Ky a0).bind fun r1=>
if r1 then(
 (D5 a1).bind fun r3=>
 if r3 then(
 Fl a1 a0 bigN (0:X) ([]:V X6))
 else(
 O ([]:V X6)))
else(
 O ([]:V X6))
def MQ(a0:Xe)(a1:X1)(a2:X)(a3:X4):W (V X6):=
(Gp a0).bind fun r1=>
if r1 then(
 (Ik a1 a2 a3).bind fun r3=>
 if r3 then(
 (MC a1 a2 a3).bind fun r5=>
 (MD a0 r5).bind fun r6=>
 (ME a1 a2 a3).bind fun r7=>
 (Qr r6 r7).bind fun r9=>
 O r9)
 else(
 O ([]:V X6)))
else(
 O ([]:V X6))
def Iq(a4:V X)(a0:Xe)(a1:X1)(a2:X4)(y11:V X)(y12:X):Z→X→(V Y)→(V X)→(V (V X6))→W (Xl × Y)
| 0,_,_,_,_=>U
| n+1,v13,v14,v15,v16=>
 if(decide (v13<y12)) then(
 (ix y11 v13).bind fun x18=>
 (ix a1.Points x18).bind fun x19=>
 if A3 v14.length ([x19.Wait]:V Y).length 1 then(
  (ix a4 v13).bind fun x21=>
  (ix a1.Segments x21).bind fun x22=>
  (Fj a2 x22).bind fun r23=>
  if A3 v15.length ([r23]:V X).length 8 then(
  (MQ a0 a1 x21 a2).bind fun r25=>
  if A3 v16.length ([r25]:V (V X6)).length 24 then(
   Iq a4 a0 a1 a2 y11 y12 n (zM .i64 (v13+(1:X))) (v14++([x19.Wait]:V Y)) (v15++([r23]:V X)) (v16++([r25]:V (V X6))))
  else U)
  else U)
 else U)
 else(
 O ((⟨v14,v15,v16⟩:Xl),F))
def Ip(a3:X)(a4:V X)(a0:Xe)(a1:X1)(a2:X4)(v7:Y):W (Xl × Y):=
if v7 then(
 O ((⟨([]:V Y),([]:V X),([]:V (V X6))⟩:Xl),E))
else(
 (E6 a1 a3 a4).bind fun r9=>
 (bnd (r9.length:X) (a4.length:X) (0:X) r9.length).bind fun p10=>
 Iq a4 a0 a1 a2 ((r9.drop p10.1).take (p10.2 - p10.1)) (((r9.drop p10.1).take (p10.2 - p10.1)).length:X) bigN (0:X) ([]:V Y) ([]:V X) ([]:V (V X6)))
def Io(a0:Xe)(a1:X1)(a2:X4)(a3:X)(a4:V X):W (Xl × Y):=
(Gp a0).bind fun r1=>
if r1 then(
 (EB a2).bind fun r3=>
 if r3 then(
 (Fi a1 a3 a4).bind fun r5=>
 if r5 then(
  Ip a3 a4 a0 a1 a2 ((a4.length:X)==(0:X)))
 else(
  Ip a3 a4 a0 a1 a2 F))
 else(
 Ip a3 a4 a0 a1 a2 F))
else(
 Ip a3 a4 a0 a1 a2 F)
def KC(a2:V X)(a0:X5)(a1:Xb)(v4:Y):W (Xl × Y):=
if v4 then(
 O ((⟨([]:V Y),([]:V X),([]:V (V X6))⟩:Xl),E))
else(
 (ix a0.Fleet a1.Ship).bind fun x6=>
 (Io a0.Forecast a0.Chart x6 a1.From a2).bind fun r7=>
 O (r7.1,r7.2))
def Ib(a0:X5)(a1:Xb)(a2:V X):W (Xl × Y):=
(E6 a0.Chart a1.From a2).bind fun r1=>
if((r1.length:X)==(0:X)) then(
 KC a2 a0 a1 F)
else(
 (ix r1 (zM .i64 ((r1.length:X) - (1:X)))).bind fun x3=>
 KC a2 a0 a1 (x3 !=a1.To))
def I2(a1:X)(a0:V X6):Z→X→W Y
| 0,_=>U
| n+1,v1=>
 if(decide (v1<(a0.length:X))) then(
 (ix a0 v1).bind fun x3=>
 (BV a1 x3.From x3.To).bind fun r4=>
 if r4 then(
  O F)
 else(
  I2 a1 a0 n (zM .i64 (v1+(1:X)))))
 else(
 O E)
def Mx(a0:V X6)(a1:X):W Y:=
I2 a1 a0 bigN (0:X)
def I3(a1:X)(a0:V X6):Z→X→W X
| 0,_=>U
| n+1,v3=>
 if(decide (v3<(a0.length:X))) then(
 (ix a0 v3).bind fun x5=>
 if(decide (a1≤x5.To)) then(
  O (if x5.From<a1 then a1 else x5.From))
 else(
  I3 a1 a0 n (zM .i64 (v3+(1:X)))))
 else(
 O (-1:X))
def MF(a0:V X6)(a1:X):W X:=
(Ky a0).bind fun r1=>
if r1 then(
 I3 a1 a0 bigN (0:X))
else(
 O (-1:X))
def Ir(v4 r10:X)(a0:Xl)(v5:V X)(RX:X→(V X)→W ((V X) × Y))(v14:Y):W ((V X) × Y):=
if v14 then(
 O (([]:V X),E))
else(
 if A3 v5.length ([r10]:V X).length 8 then(
 RX (zM .i64 (v4+(1:X))) (v5++([r10]:V X)))
 else U)
def EE(a0:Xl):Z→X→(V X)→W ((V X) × Y)
| 0,_,_=>U
| n+1,v4,v5=>
 if(decide (v4<(a0.sure.length:X))) then(
 (ix v5 (zM .i64 (v4 - (1:X)))).bind fun x7=>
 (ix a0.minutes (zM .i64 (v4 - (1:X)))).bind fun x8=>
 (ix a0.sure v4).bind fun x9=>
 (MF x9 (zM .i64 (x7+x8))).bind fun r10=>
 if(decide (r10<(0:X))) then(
  Ir v4 r10 a0 v5 (EE a0 n) F)
 else(
  if(decide ((zM .i64 (x7+x8))<r10)) then(
  (ix a0.waits v4).bind fun x13=>
  Ir v4 r10 a0 v5 (EE a0 n) (!x13))
  else(
  Ir v4 r10 a0 v5 (EE a0 n) E)))
 else(
 O (v5,F))
def Na(a0:Xl)(a1:X):W ((V X) × Y):=
(ix a0.sure (0:X)).bind fun x1=>
(Mx x1 a1).bind fun r2=>
if r2 then(
 EE a0 bigN (1:X) ([a1]:V X))
else(
 O (([]:V X),E))
def I4(a1:X)(a5 a4:V X)(a0:X1)(a2:X4)(r6:(V X)):Z→X→(V X3)→W (V X3)
| 0,_,_=>U
| n+1,v7,v8=>
 if(decide (v7<(a4.length:X))) then(
 (ix a4 v7).bind fun x10=>
 (ix a5 v7).bind fun x11=>
 (D5 x11).bind fun r12=>
 if r12 then(
  (ix a0.Segments x10).bind fun x14=>
  (ix r6 v7).bind fun x15=>
  (Fj a2 x14).bind fun r16=>
  if A3 v8.length ([(⟨a1,x10,(x15==x14.A),x11,(zM .i64 (x11+r16))⟩:X3)]:V X3).length 40 then(
  I4 a1 a5 a4 a0 a2 r6 n (zM .i64 (v7+(1:X))) (v8++([(⟨a1,x10,(x15==x14.A),x11,(zM .i64 (x11+r16))⟩:X3)]:V X3)))
  else U)
 else(
  O ([]:V X3)))
 else(
 O v8)
def MJ(a0:X1)(a1:X)(a2:X4)(a3:X)(a4 a5:V X):W (V X3):=
(Fi a0 a3 a4).bind fun r1=>
if r1 then(
 (EB a2).bind fun r3=>
 if r3 then(
 if((a4.length:X) !=(a5.length:X)) then(
  O ([]:V X3))
 else(
  (E6 a0 a3 a4).bind fun r6=>
  I4 a1 a5 a4 a0 a2 r6 bigN (0:X) ([]:V X3)))
 else(
 O ([]:V X3)))
else(
 O ([]:V X3))
def Mm(a0:X1)(a1:X4)(a2 a3:V X):W X:=
(Gt a0 a2).bind fun r1=>
if(decide (r1<(0:X))) then(
 O (-1:X))
else(
 (EB a1).bind fun r3=>
 if r3 then(
 if((a2.length:X)==(0:X)) then(
  O (-1:X))
 else(
  if((a2.length:X) !=(a3.length:X)) then(
  O (-1:X))
  else(
  (ix a3 (zM .i64 ((a2.length:X) - (1:X)))).bind fun x7=>
  (D5 x7).bind fun r9=>
  if r9 then(
   (ix a2 (zM .i64 ((a2.length:X) - (1:X)))).bind fun x11=>
   (ix a0.Segments x11).bind fun x12=>
   (Fj a1 x12).bind fun r13=>
   O (zM .i64 (x7+r13)))
  else(
   O (-1:X)))))
 else(
 O (-1:X)))
def GB(a2:Xl)(a4 r5:X)(r4:(V X3)):Z→X→X→W (X0 × Y)
| 0,_,_=>U
| n+1,v6,v7=>
 if(decide (v6<(a2.minutes.length:X))) then(
 (ix a2.minutes v6).bind fun x9=>
 GB a2 a4 r5 r4 n (zM .i64 (v6+(1:X))) (zM .i64 (v7 - x9)))
 else(
 O ((⟨a4,r5,v7,r4⟩:X0),(decide (r5≤(2880:X)))))
def Il(a0:X5)(a1:Xb)(a2:Xl)(a3:V X)(a4:X):W (X0 × Y):=
(Na a2 a4).bind fun r1=>
if r1.2 then(
 (ix a0.Fleet a1.Ship).bind fun x3=>
 (MJ a0.Chart a1.Ship x3 a1.From a3 r1.1).bind fun r4=>
 (Mm a0.Chart x3 a3 r1.1).bind fun r5=>
 GB a2 a4 r5 r4 bigN (0:X) (zM .i64 (r5 - a1.Ready)))
else(
 O ((⟨(0:X),(0:X),(0:X),([]:V X3)⟩:X0),E))
def Kt(r3:(V X) × Y)(v7:X)(a0:X5)(a1:Xb)(r4:Xl × Y)(RU:X→(V X0)→W (V X0))(v14:V X0):W (V X0):=
RU (zM .i64 (v7+(15:X))) v14
def Gs(r3:(V X) × Y)(a0:X5)(a1:Xb)(r4:Xl × Y):Z→X→(V X0)→W (V X0)
| 0,_,_=>U
| n+1,v7,v8=>
 if(decide (v7≤a1.Due)) then(
 if(decide ((v8.length:X)<(8:X))) then(
  (Il a0 a1 r4.1 r3.1 v7).bind fun r11=>
  if r11.2 then(
  if A3 v8.length ([r11.1]:V X0).length 48 then(
   Kt r3 v7 a0 a1 r4 (Gs r3 a0 a1 r4 n) (v8++([r11.1]:V X0)))
  else U)
  else(
  Kt r3 v7 a0 a1 r4 (Gs r3 a0 a1 r4 n) v8))
 else(
  O v8))
 else(
 O v8)
def Ks(a0:X5)(a1:Xb):W (V X0):=
(Kl a0 a1).bind fun r1=>
if r1 then(
 (Mn a0.Chart a1.From a1.To).bind fun r3=>
 (Ib a0 a1 r3.1).bind fun r4=>
 if r3.2 then(
 if r4.2 then(
  Gs r3 a0 a1 r4 bigN a1.Ready ([]:V X0))
 else(
  O ([]:V X0)))
 else(
 O ([]:V X0)))
else(
 O ([]:V X0))
def IP(a1:X0→W Y)(a0:V X0):Z→X→W X
| 0,_=>U
| n+1,v1=>
 if(decide (v1<(a0.length:X))) then(
 (ix a0 v1).bind fun x3=>
 (a1 x3).bind fun r4=>
 if r4 then(
  O v1)
 else(
  IP a1 a0 n (zM .i64 (v1+(1:X)))))
 else(
 O (-1:X))
def QS(a0:V X0)(a1:X0→W Y):W X:=
IP a1 a0 bigN (0:X)
def L2(a1:X0→W Y)(v4:X)(k_slices_DeleteFunc_Option_1:X→X→(V X0)→W (V X0))(v12:X)(v13:V X0):W (V X0):=
k_slices_DeleteFunc_Option_1 v12 (zM .i64 (v4+(1:X))) v13
def GI(a1:X0→W Y):Z→X→X→(V X0)→W (V X0)
| 0,_,_,_=>U
| n+1,v3,v4,v5=>
 if(decide (v4<(v5.length:X))) then(
 (ix v5 v4).bind fun x7=>
 (a1 x7).bind fun r9=>
 if r9 then(
  L2 a1 v4 (GI a1 n) v3 v5)
 else(
  (ix v5 v3).bind fun x11=>
  L2 a1 v4 (GI a1 n) (zM .i64 (v3+(1:X))) (v5.set (zB v3) x7)))
 else(
 (bnd (v5.length:X) (v5.length:X) v3 v5.length).bind fun p14=>
 (bnd ((v5.take p14.1++zG (p14.2 - p14.1) (⟨(0:X),(0:X),(0:X),([]:V X3)⟩:X0)).length:X) v3 0 (v5.take p14.1++zG (p14.2 - p14.1) (⟨(0:X),(0:X),(0:X),([]:V X3)⟩:X0)).length).bind fun p15=>
 O ((v5.take p14.1++zG (p14.2 - p14.1) (⟨(0:X),(0:X),(0:X),([]:V X3)⟩:X0)).take p15.2))
def NS(a0:V X0)(a1:X0→W Y):W (V X0):=
(QS a0 a1).bind fun r1=>
if(r1==(-1:X)) then(
 O a0)
else(
 GI a1 bigN r1 (zM .i64 (r1+(1:X))) a0)
def IQ(a1:X3→W Y)(a0:V X3):Z→X→W X
| 0,_=>U
| n+1,v1=>
 if(decide (v1<(a0.length:X))) then(
 (ix a0 v1).bind fun x3=>
 (a1 x3).bind fun r4=>
 if r4 then(
  O v1)
 else(
  IQ a1 a0 n (zM .i64 (v1+(1:X)))))
 else(
 O (-1:X))
def QT(a0:V X3)(a1:X3→W Y):W X:=
IQ a1 a0 bigN (0:X)
def QQ(a0:V X3)(a1:X3→W Y):W Y:=
(QT a0 a1).bind fun r1=>
O (decide ((0:X)≤r1))
def IN(a1:X9→W Y)(a0:V X9):Z→X→W X
| 0,_=>U
| n+1,v1=>
 if(decide (v1<(a0.length:X))) then(
 (ix a0 v1).bind fun x3=>
 (a1 x3).bind fun r4=>
 if r4 then(
  O v1)
 else(
  IN a1 a0 n (zM .i64 (v1+(1:X)))))
 else(
 O (-1:X))
def QR(a0:V X9)(a1:X9→W Y):W X:=
IN a1 a0 bigN (0:X)
def QP(a0:V X9)(a1:X9→W Y):W Y:=
(QR a0 a1).bind fun r1=>
O (decide ((0:X)≤r1))
def Kq(a0:X9)(c0:X3):W Y:=
if(a0.Segment==c0.Segment) then(
 O (decide ((if a0.From<c0.Start then c0.Start else a0.From)<(if c0.End<a0.To then c0.End else a0.To))))
else(
 O E)
def My(a0:X3)(a1:V X9):W Y:=
(QP a1 (fun z0=>Kq z0 a0)).bind fun r1=>
O r1
def MP(a0:X3)(c0:V X9):W Y:=
(My a0 c0).bind fun r1=>
O r1
def Kx(a0:X0)(a1:V X9):W Y:=
(QQ a0.Passages (fun z0=>MP z0 a1)).bind fun r1=>
O r1
def Tp(a0:X0)(c0:V X9):W Y:=
(Kx a0 c0).bind fun r1=>
O r1
def MG(a0:X5)(a1:Xb)(a2:V X9):W (V X0):=
(Kl a0 a1).bind fun r1=>
if r1 then(
 (HV a0.Chart a2).bind fun r3=>
 if r3 then(
 (Ks a0 a1).bind fun r5=>
 (NS r5 (fun z0=>Tp z0 a2)).bind fun r6=>
 O r6)
 else(
 O ([]:V X0)))
else(
 O ([]:V X0))
def Nb(a0 a1:Xk):W Y:=
if(decide (a0.i0<a1.i0)) then(
 O F)
else(
 if(a0.i0==a1.i0) then(
 O (decide (a0.i1<a1.i1)))
 else(
 O E))
def Ku(a0 a1:X3):W Y:=
O (decide ((if a0.Start<a1.Start then a1.Start else a0.Start)<(if a1.End<a0.End then a1.End else a0.End)))
def KI(a0 a1 a2:X):W Y:=
O (decide ((IntKind.u64.wrap ((IntKind.u64.wrap (if a0<a1 then a1 else a0)) - (IntKind.u64.wrap (if a1<a0 then a1 else a0))))<(IntKind.u64.wrap a2)))
def MY(a2 a3:X3)(v22:Y):W X:=
if v22 then(
 O (3:X))
else(
 if(decide (a2.Start<a3.Start)) then(
 if(decide (a3.End<a2.End)) then(
  O (4:X))
 else(
  if(decide (a3.Start<a2.Start)) then(
  if(decide (a2.End<a3.End)) then(
   O (4:X))
  else(
   O (0:X)))
  else(
  O (0:X))))
 else(
 if(decide (a3.Start<a2.Start)) then(
  if(decide (a2.End<a3.End)) then(
  O (4:X))
  else(
  O (0:X)))
 else(
  O (0:X))))
def Ig(a1:Xi)(a2 a3:X3)(v15 v16:Y):W X:=
if v15 then(
 O (2:X))
else(
 if(a2.Toward==a3.Toward) then(
 (KI a2.Start a3.Start a1.Gap).bind fun r19=>
 if r19 then(
  MY a2 a3 F)
 else(
  (KI a2.End a3.End a1.Gap).bind fun r21=>
  MY a2 a3 r21))
 else(
 O (0:X)))
def MX(a0:X1)(a1:Xi)(a2 a3:X3)(v7:Y):W X:=
if v7 then(
 O (1:X))
else(
 if(a2.Ship==a3.Ship) then(
 O (0:X))
 else(
 if(a2.Toward==a3.Toward) then(
  Ig a1 a2 a3 E a1.NoMeet)
 else(
  (Ku a2 a3).bind fun r11=>
  if r11 then(
  if a1.NoMeet then(
   Ig a1 a2 a3 F F)
  else(
   (ix a0.Segments a2.Segment).bind fun x14=>
   Ig a1 a2 a3 (!x14.Meet) E))
  else(
  Ig a1 a2 a3 E a1.NoMeet))))
def MW(a0:X1)(a1:Xi)(a2 a3:X3)(v3:Y):W X:=
if v3 then(
 O (0:X))
else(
 if(a2.Ship==a3.Ship) then(
 (Ku a2 a3).bind fun r6=>
 MX a0 a1 a2 a3 r6)
 else(
 MX a0 a1 a2 a3 E))
def MV(a0:X1)(a1:Xi)(a2 a3:X3):W X:=
if(a2.Segment !=a3.Segment) then(
 MW a0 a1 a2 a3 F)
else(
 (Bo a2.Segment (a0.Segments.length:X)).bind fun r2=>
 MW a0 a1 a2 a3 (!r2))
def If(a3 a2:V X3)(v1:X)(a0:X1)(a1:Xi)(x3:X3)(P2:X→W Y):Z→X→W Y
| 0,_=>U
| n+1,v4=>
 if(decide (v4<(a3.length:X))) then(
 (ix a3 v4).bind fun x6=>
 (MV a0 a1 x3 x6).bind fun r7=>
 if(r7 !=(0:X)) then(
  O F)
 else(
  If a3 a2 v1 a0 a1 x3 P2 n (zM .i64 (v4+(1:X)))))
 else(
 P2 (zM .i64 (v1+(1:X))))
def Fo(a3 a2:V X3)(a0:X1)(a1:Xi):Z→X→W Y
| 0,_=>U
| n+1,v1=>
 if(decide (v1<(a2.length:X))) then(
 (ix a2 v1).bind fun x3=>
 If a3 a2 v1 a0 a1 x3 (Fo a3 a2 a0 a1 n) bigN (0:X))
 else(
 O E)
def MU(a0:X1)(a1:Xi)(a2 a3:V X3):W Y:=
Fo a3 a2 a0 a1 bigN (0:X)
def EC(a0:V X0):W (V X0):=
(BQ (0:X) (a0.length:X) 48).bind fun n1=>
if A3 (zG n1 (⟨(0:X),(0:X),(0:X),([]:V X3)⟩:X0)).length a0.length 48 then(
 O ((zG n1 (⟨(0:X),(0:X),(0:X),([]:V X3)⟩:X0))++a0))
else U
def Kv(a0:X3)(a1:X1):W (X × X):=
(ix a1.Segments a0.Segment).bind fun x1=>
if a0.Toward then(
 O (x1.A,x1.B))
else(
 O (x1.B,x1.A))
def KE(a0:X1)(a1 a2:X3):W Xc:=
(Kv a1 a0).bind fun r1=>
(Kv a2 a0).bind fun r2=>
O (⟨a1.Start,a2.End,r1.1,r2.2⟩:Xc)
def N6(a0:X1)(a1:V X4)(a2:X3):W Y:=
(Bo a2.Ship (a1.length:X)).bind fun r1=>
if r1 then(
 (Bo a2.Segment (a0.Segments.length:X)).bind fun r3=>
 if r3 then(
 (D5 a2.Start).bind fun r5=>
 if r5 then(
  if(decide ((2880:X)<a2.End)) then(
  O E)
  else(
  (ix a1 a2.Ship).bind fun x8=>
  (ix a0.Segments a2.Segment).bind fun x9=>
  (Fj x8 x9).bind fun r10=>
  O (a2.End==(zM .i64 (a2.Start+r10)))))
 else(
  O E))
 else(
 O E))
else(
 O E)
def MI(a0:X1)(a1:V X4)(a2:X3):W Y:=
(Dn a0).bind fun r1=>
if r1 then(
 (Kn a1).bind fun r3=>
 if r3 then(
 (N6 a0 a1 a2).bind fun r5=>
 O r5)
 else(
 O E))
else(
 O E)
def GC(a1:V X4)(a2:V X3)(v1:X)(x7:X4)(a0:X1)(x4:X3)(P7:X→(V Xc)→W ((V Xc) × Y)):Z→X→(V Xc)→W ((V Xc) × Y)
| 0,_,_=>U
| n+1,v8,v9=>
 if(decide (v8<x7.Tugs)) then(
 (KE a0 x4 x4).bind fun r11=>
 if A3 v9.length ([r11]:V Xc).length 32 then(
  GC a1 a2 v1 x7 a0 x4 P7 n (zM .i64 (v8+(1:X))) (v9++([r11]:V Xc)))
 else U)
 else(
 if(decide ((12:X)<(v9.length:X))) then(
  O (([]:V Xc),E))
 else(
  P7 (zM .i64 (v1+(1:X))) v9))
def Fs(a1:V X4)(a2:V X3)(a0:X1):Z→X→(V Xc)→W ((V Xc) × Y)
| 0,_,_=>U
| n+1,v1,v2=>
 if(decide (v1<(a2.length:X))) then(
 (ix a2 v1).bind fun x4=>
 (MI a0 a1 x4).bind fun r5=>
 if r5 then(
  (ix a1 x4.Ship).bind fun x7=>
  GC a1 a2 v1 x7 a0 x4 (Fs a1 a2 a0 n) bigN (0:X) v2)
 else(
  O (([]:V Xc),E)))
 else(
 O (v2,F))
def N9(a0:X1)(a1:V X4)(a2:V X3):W ((V Xc) × Y):=
Fs a1 a2 a0 bigN (0:X) ([]:V Xc)
def HZ(a0:V Xc):Z→X→W Y
| 0,_=>U
| n+1,v2=>
 if(decide (v2<(a0.length:X))) then(
 (ix a0 v2).bind fun x4=>
 if(decide (x4.From<(0:X))) then(
  O E)
 else(
  if(decide (x4.To≤x4.From)) then(
  O E)
  else(
  if(decide ((2880:X)<x4.To)) then(
   O E)
  else(
   (Bo x4.A (8:X)).bind fun r9=>
   if r9 then(
   (Bo x4.B (8:X)).bind fun r11=>
   if r11 then(
    HZ a0 n (zM .i64 (v2+(1:X))))
   else(
    O E))
   else(
   O E)))))
 else(
 O F)
def HY(a0:V Xc):W Y:=
if(decide ((12:X)<(a0.length:X))) then(
 O E)
else(
 HZ a0 bigN (0:X))
def Qt(a0:X)(a1:V X)(a2:V Xc):W Y:=
(HY a2).bind fun r1=>
if r1 then(
 (D5 a0).bind fun r3=>
 if r3 then(
 (Gz a1).bind fun r5=>
 O r5)
 else(
 O E))
else(
 O E)
def I1(a0:X)(a1:V X)(a2 a3:Xc)(v8:Y):W (X × Y):=
if v8 then(
 O ((0:X),E))
else(
 (ix a1 (zM .i64 ((zM .i64 ((8:X)*a2.B))+a3.A))).bind fun x10=>
 O ((zM .i64 (a0+x10)),F))
def Qm(a0:X)(a1:V X)(a2 a3:Xc):W (X × Y):=
(D5 a0).bind fun r1=>
if r1 then(
 (Gz a1).bind fun r3=>
 if r3 then(
 (Bo a2.B (8:X)).bind fun r5=>
 if r5 then(
  (Bo a3.A (8:X)).bind fun r7=>
  I1 a0 a1 a2 a3 (!r7))
 else(
  I1 a0 a1 a2 a3 F))
 else(
 I1 a0 a1 a2 a3 F))
else(
 I1 a0 a1 a2 a3 F)
def Km(a0:X)(a1:V X)(a2 a3:Xc):W Y:=
(Qm a0 a1 a2 a3).bind fun r1=>
if r1.2 then(
 (HY ([a2]:V Xc)).bind fun r3=>
 if r3 then(
 (HY ([a3]:V Xc)).bind fun r5=>
 if r5 then(
  O (decide ((zM .i64 (a2.To+r1.1))≤a3.From)))
 else(
  O E))
 else(
 O E))
else(
 O E)
def Im(a0:X)(a1:V X)(a2:V Xc)(v2 v6:X)(x5:Xc)(v7:V X)(P4:X→(V X)→W (V X))(v14:Y):W (V X):=
if v14 then(
 (ix v7 v2).bind fun x16=>
 if decide (v6<0) then U else
 P4 (zM .i64 (v6+(1:X))) (v7.set (zB v2) (Bd .or .u64 x16 (Bh .u64 (1:X) v6))))
else(
 P4 (zM .i64 (v6+(1:X))) v7)
def E8(a0:X)(a1:V X)(a2:V Xc)(v2:X)(x5:Xc)(JA:X→(V X)→W (V X)):Z→X→(V X)→W (V X)
| 0,_,_=>U
| n+1,v6,v7=>
 if(decide (v6<(a2.length:X))) then(
 (ix a2 v6).bind fun x9=>
 if(v2 !=v6) then(
  (Km a0 a1 x5 x9).bind fun r11=>
  if r11 then(
  Im a0 a1 a2 v2 v6 x5 v7 (E8 a0 a1 a2 v2 x5 JA n) F)
  else(
  (Km a0 a1 x9 x5).bind fun r13=>
  Im a0 a1 a2 v2 v6 x5 v7 (E8 a0 a1 a2 v2 x5 JA n) r13))
 else(
  Im a0 a1 a2 v2 v6 x5 v7 (E8 a0 a1 a2 v2 x5 JA n) E))
 else(
 JA (zM .i64 (v2+(1:X))) v7)
def Fq(a0:X)(a1:V X)(a2:V Xc):Z→X→(V X)→W (V X)
| 0,_,_=>U
| n+1,v2,v3=>
 if(decide (v2<(a2.length:X))) then(
 (ix a2 v2).bind fun x5=>
 E8 a0 a1 a2 v2 x5 (Fq a0 a1 a2 n) bigN (0:X) v3)
 else(
 O v3)
def N5(a0:X)(a1:V X)(a2:V Xc):W (V X):=
(BQ (a2.length:X) (a2.length:X) 8).bind fun n1=>
Fq a0 a1 a2 bigN (0:X) (zG n1 (0:X))
def L1(v8 v9:X):W X:=
(ix ([0,1,2,2,3,3,3,3,4,4,4,4,4,4,4,4,5,5,5,5,5,5,5,5,5,5,5,5,5,5,5,5,6,6,6,6,6,6,6,6,6,6,6,6,6,6,6,6,6,6,6,6,6,6,6,6,6,6,6,6,6,6,6,6,7,7,7,7,7,7,7,7,7,7,7,7,7,7,7,7,7,7,7,7,7,7,7,7,7,7,7,7,7,7,7,7,7,7,7,7,7,7,7,7,7,7,7,7,7,7,7,7,7,7,7,7,7,7,7,7,7,7,7,7,7,7,7,7,8,8,8,8,8,8,8,8,8,8,8,8,8,8,8,8,8,8,8,8,8,8,8,8,8,8,8,8,8,8,8,8,8,8,8,8,8,8,8,8,8,8,8,8,8,8,8,8,8,8,8,8,8,8,8,8,8,8,8,8,8,8,8,8,8,8,8,8,8,8,8,8,8,8,8,8,8,8,8,8,8,8,8,8,8,8,8,8,8,8,8,8,8,8,8,8,8,8,8,8,8,8,8,8,8,8,8,8,8,8,8,8,8,8,8,8,8,8,8,8,8,8,8,8,8,8,8,8]:V zA) (IntKind.u8.wrap v8)).bind fun b10=>
O (zM .i64 (v9+(zM .i64 (b10.toNat:X))))
def NQ(v5 v6:X):W X:=
if(decide ((256:X)≤v5)) then(
 L1 (CG .u64 v5 8) (zM .i64 (v6+(8:X))))
else(
 L1 v5 v6)
def NP(v2 v3:X):W X:=
if(decide ((65536:X)≤v2)) then(
 NQ (CG .u64 v2 16) (zM .i64 (v3+(16:X))))
else(
 NQ v2 v3)
def QO(a0:X):W X:=
if(decide ((4294967296:X)≤a0)) then(
 NP (CG .u64 a0 32) (32:X))
else(
 NP a0 (0:X))
def L0(a0:X):W X:=
(QO a0).bind fun r1=>
O r1
def KH(a0:V X)(y5 v6:X)(v17 v18 v21:X)(v19:V Y)(CD:X→(V Y)→(V X)→W X)(RW:X→(V X)→W X)(v28:V X):W X:=
if(v21==(0:X)) then(
 CD (zM .i64 (v6+(1:X))) v19 v28)
else(
 RW (Bd .and .i64 (zM .i64 (v21 - (1:X))) v18) v28)
def Gx(a0:V X)(y5 v6:X)(v17 v18:X)(v19:V Y)(CD:X→(V Y)→(V X)→W X):Z→X→(V X)→W X
| 0,_,_=>U
| n+1,v21,v22=>
 if decide (v17<0) then U else
 (ix v19 (Bd .or .i64 v21 (Bh .i64 (1:X) v17))).bind fun x24=>
 if x24 then(
 (ix v22 v6).bind fun x26=>
 (ix v22 (Bd .andNot .i64 v18 v21)).bind fun x27=>
 KH a0 y5 v6 v17 v18 v21 v19 CD (Gx a0 y5 v6 v17 v18 v19 CD n) (v22.set (zB v6) (if(zM .i64 ((1:X)+x27))<x26 then(zM .i64 ((1:X)+x27)) else x26)))
 else(
 KH a0 y5 v6 v17 v18 v21 v19 CD (Gx a0 y5 v6 v17 v18 v19 CD n) v22)
def KG(a0:V X)(y5 v6:X)(v8:V X)(CD:X→(V Y)→(V X)→W X)(v17 v18:X)(v19:V Y):W X:=
(ix v8 v6).bind fun x20=>
Gx a0 y5 v6 v17 v18 v19 CD bigN v18 (v8.set (zB v6) (a0.length:X))
def ED(a0:V X)(y5:X):Z→X→(V Y)→(V X)→W X
| 0,_,_,_=>U
| n+1,v6,v7,v8=>
 if(decide (v6<y5)) then(
 (L0 (IntKind.u64.wrap v6)).bind fun r10=>
 if decide ((zM .i64 (r10 - (1:X)))<0) then U else
 (ix v7 (Bd .andNot .i64 v6 (Bh .i64 (1:X) (zM .i64 (r10 - (1:X)))))).bind fun x12=>
 if x12 then(
  (ix a0 (zM .i64 (r10 - (1:X)))).bind fun x14=>
  (ix v7 v6).bind fun x15=>
  KG a0 y5 v6 v8 (ED a0 y5 n) (zM .i64 (r10 - (1:X))) (Bd .andNot .i64 v6 (Bh .i64 (1:X) (zM .i64 (r10 - (1:X))))) (v7.set (zB v6) ((Bd .andNot .u64 (IntKind.u64.wrap (Bd .andNot .i64 v6 (Bh .i64 (1:X) (zM .i64 (r10 - (1:X)))))) x14)==(0:X))))
 else(
  (ix v7 v6).bind fun x16=>
  KG a0 y5 v6 v8 (ED a0 y5 n) (zM .i64 (r10 - (1:X))) (Bd .andNot .i64 v6 (Bh .i64 (1:X) (zM .i64 (r10 - (1:X))))) (v7.set (zB v6) E)))
 else(
 (ix v8 (zM .i64 (y5 - (1:X)))).bind fun x30=>
 O x30)
def N2(a0:V X):W X:=
if decide ((a0.length:X)<0) then U else
(BQ (Bh .i64 (1:X) (a0.length:X)) (Bh .i64 (1:X) (a0.length:X)) 1).bind fun n2=>
(BQ (Bh .i64 (1:X) (a0.length:X)) (Bh .i64 (1:X) (a0.length:X)) 8).bind fun n3=>
(ix (zG n2 E) (0:X)).bind fun x4=>
ED a0 (Bh .i64 (1:X) (a0.length:X)) bigN (1:X) ((zG n2 E).set (zB (0:X)) F) (zG n3 (0:X))
def Ih(rec_:Xh→W (Y × Xh))(a0:Xh)(v2:X)(EO:X→(V X)→X→(V X)→(V X)→W (Y × Xh))(v22:V X)(v23:X)(v24 v25:V X):W (Y × Xh):=
(ix v24 v2).bind fun x26=>
if(x26==(0:X)) then(
 (bnd (v24.length:X) v2 0 v24.length).bind fun p28=>
 O (E,(⟨v22,v23,(v24.take p28.2),v25⟩:Xh)))
else(
 EO (zM .i64 (v2+(1:X))) v22 v23 v24 v25)
def KD(rec_:Xh→W (Y × Xh))(a0:Xh)(v2:X)(v3:V X)(v4:X)(v6:V X)(EO:X→(V X)→X→(V X)→(V X)→W (Y × Xh))(v11:V X):W (Y × Xh):=
(ix v11 v2).bind fun x12=>
(ix v3 (a0.who.length:X)).bind fun x13=>
if((Bd .andNot .u64 x12 x13)==(0:X)) then(
 if decide ((a0.who.length:X)<0) then U else
 if A3 v6.length ([v2]:V X).length 8 then(
 (rec_ (⟨v3,v4,(v11.set (zB v2) (Bd .or .u64 x12 (Bh .u64 (1:X) (a0.who.length:X)))),(v6++([v2]:V X))⟩:Xh)).bind fun r17=>
 if r17.1 then(
  O (F,r17.2))
 else(
  (bnd (r17.2.who.length:X) (a0.who.length:X) 0 r17.2.who.length).bind fun p19=>
  (ix r17.2.groups v2).bind fun x20=>
  if decide ((a0.who.length:X)<0) then U else
  Ih rec_ a0 v2 EO r17.2.sets r17.2.most (r17.2.groups.set (zB v2) (Bd .andNot .u64 x20 (Bh .u64 (1:X) (a0.who.length:X)))) (r17.2.who.take p19.2)))
 else U)
else(
 Ih rec_ a0 v2 EO v3 v4 v11 v6)
def Fp(rec_:Xh→W (Y × Xh))(a0:Xh):Z→X→(V X)→X→(V X)→(V X)→W (Y × Xh)
| 0,_,_,_,_,_=>U
| n+1,v2,v3,v4,v5,v6=>
 if(decide (v2≤(v5.length:X))) then(
 if(decide (v2<v4)) then(
  if(v2==(v5.length:X)) then(
  if A3 v5.length ([(0:X)]:V X).length 8 then(
   KD rec_ a0 v2 v3 v4 v6 (Fp rec_ a0 n) (v5++([(0:X)]:V X)))
  else U)
  else(
  KD rec_ a0 v2 v3 v4 v6 (Fp rec_ a0 n) v5))
 else(
  O (E,(⟨v3,v4,v5,v6⟩:Xh))))
 else(
 O (E,(⟨v3,v4,v5,v6⟩:Xh)))
def MZ(rec_:Xh→W (Y × Xh))(a0:Xh):W (Y × Xh):=
if((a0.who.length:X)==(a0.sets.length:X)) then(
 O (F,a0))
else(
 Fp rec_ a0 bigN (0:X) a0.sets a0.most a0.groups a0.who)
def E7:Z→Xh→W (Y × Xh)
| 0,_=>U
| n+1,a0=>MZ (E7 n) a0
def Tq(a0:Xh):W (Y × Xh):=E7 bigN a0
def MB(a0:X)(a1:V X)(a2:V Xc):W ((V X) × X × Y):=
(Qt a0 a1 a2).bind fun r1=>
if r1 then(
 (N5 a0 a1 a2).bind fun r3=>
 (N2 r3).bind fun r4=>
 (Tq (⟨r3,r4,([]:V X),([]:V X)⟩:Xh)).bind fun r5=>
 O (r5.2.who,r5.2.most,F))
else(
 O (([]:V X),(0:X),E))
def Gu(a0:X)(a1:V X)(a2:V Xc)(a3:X):W Y:=
if(decide ((a2.length:X)≤a3)) then(
 O F)
else(
 (MB a0 a1 a2).bind fun r2=>
 O (decide (r2.2.1≤a3)))
def Gv(a1:V X0)(a0:X5):Z→X→(V X3)→(V Xc)→W Y
| 0,_,_,_=>U
| n+1,v1,v2,v3=>
 if(decide (v1<(a1.length:X))) then(
 (ix a1 v1).bind fun x5=>
 if A3 v2.length x5.Passages.length 40 then(
  if(decide ((0:X)<(x5.Passages.length:X))) then(
  (ix x5.Passages (0:X)).bind fun x8=>
  (ix x5.Passages (zM .i64 ((x5.Passages.length:X) - (1:X)))).bind fun x9=>
  (KE a0.Chart x8 x9).bind fun r10=>
  if A3 v3.length ([r10]:V Xc).length 32 then(
   Gv a1 a0 n (zM .i64 (v1+(1:X))) (v2++x5.Passages) (v3++([r10]:V Xc)))
  else U)
  else(
  Gv a1 a0 n (zM .i64 (v1+(1:X))) (v2++x5.Passages) v3))
 else U)
 else(
 (N9 a0.Chart a0.Fleet v2).bind fun r12=>
 if r12.2 then(
  (Gu (0:X) a0.Crew.Moves r12.1 a0.Crew.Tugs).bind fun r14=>
  if r14 then(
  (Gu a0.Crew.Rest a0.Crew.Moves v3 a0.Crew.Pilots).bind fun r16=>
  O r16)
  else(
  O E))
 else(
  O E))
def DH(a0:X5)(a1:V X0):W Y:=
Gv a1 a0 bigN (0:X) ([]:V X3) ([]:V Xc)
def Ii(a1:V X0)(a0:X5)(a2:X0):Z→X→W Y
| 0,_=>U
| n+1,v1=>
 if(decide (v1<(a1.length:X))) then(
 (ix a1 v1).bind fun x3=>
 (MU a0.Chart a0.Regime x3.Passages a2.Passages).bind fun r4=>
 if r4 then(
  O E)
 else(
  Ii a1 a0 a2 n (zM .i64 (v1+(1:X)))))
 else(
 (EC a1).bind fun r6=>
 if A3 r6.length ([a2]:V X0).length 48 then(
  (DH a0 (r6++([a2]:V X0))).bind fun r9=>
  O r9)
 else U)
def N0(a0:X5)(a1:V X0)(a2:X0):W Y:=
Ii a1 a0 a2 bigN (0:X)
def E9(w0:(V X0)→W Xk)(rec_:Xg→W Xg)(a0:Xg)(x8:V X0):Z→X→X5→(V (V X0))→X→X→Y→(V X0)→(V X)→(V X)→W Xg
| 0,_,_,_,_,_,_,_,_,_=>U
| n+1,v9,v10,v11,v12,v13,v14,v15,v16,v17=>
 if(decide (v9<(x8.length:X))) then(
 (ix x8 v9).bind fun x19=>
 (N0 v10 v15 x19).bind fun r20=>
 if r20 then(
  if A3 v15.length ([x19]:V X0).length 48 then(
  if A3 v16.length ([v9]:V X).length 8 then(
   (rec_ (⟨v10,v11,(v15++([x19]:V X0)),(v16++([v9]:V X)),v17,(⟨v12,v13⟩:Xk),v14⟩:Xg)).bind fun r24=>
   (bnd (r24.plan.length:X) (a0.plan.length:X) 0 r24.plan.length).bind fun p25=>
   (bnd (r24.choice.length:X) (a0.plan.length:X) 0 r24.choice.length).bind fun p26=>
   E9 w0 rec_ a0 x8 n (zM .i64 (v9+(1:X))) r24.h r24.choices r24.least.i0 r24.least.i1 r24.found (r24.plan.take p25.2) (r24.choice.take p26.2) r24.best)
  else U)
  else U)
 else(
  E9 w0 rec_ a0 x8 n (zM .i64 (v9+(1:X))) v10 v11 v12 v13 v14 v15 v16 v17))
 else(
 O (⟨v10,v11,v15,v16,v17,(⟨v12,v13⟩:Xk),v14⟩:Xg))
def In(w0:(V X0)→W Xk)(rec_:Xg→W Xg)(a0:Xg)(r1:Xk)(v5:Y):W Xg:=
if((a0.plan.length:X)==(a0.choices.length:X)) then(
 (BG a0.choice).bind fun r7=>
 O (⟨a0.h,a0.choices,a0.plan,a0.choice,r7,r1,F⟩:Xg))
else(
 (ix a0.choices (a0.plan.length:X)).bind fun x8=>
 E9 w0 rec_ a0 x8 bigN (0:X) a0.h a0.choices a0.least.i0 a0.least.i1 v5 a0.plan a0.choice a0.best)
def N7(w0:(V X0)→W Xk)(rec_:Xg→W Xg)(a0:Xg):W Xg:=
(w0 a0.plan).bind fun r1=>
if a0.found then(
 (Nb r1 a0.least).bind fun r3=>
 if r3 then(
 In w0 rec_ a0 r1 F)
 else(
 O (⟨a0.h,a0.choices,a0.plan,a0.choice,a0.best,a0.least,F⟩:Xg)))
else(
 In w0 rec_ a0 r1 E)
def DI(w0:(V X0)→W Xk):Z→Xg→W Xg
| 0,_=>U
| n+1,a0=>N7 w0 (DI w0 n) a0
def Tr(w0:(V X0)→W Xk)(a0:Xg):W Xg:=DI w0 bigN a0
def N3(a0:X5)(a1:V (V X0))(a2:(V X0)→W Xk):W ((V X) × Xk × Y):=
(Tr a2 (⟨a0,a1,([]:V X0),([]:V X),([]:V X),(⟨(0:X),(0:X)⟩:Xk),E⟩:Xg)).bind fun r1=>
O (r1.best,r1.least,r1.found)
def HX(a0:V X0):Z→X→X→W X
| 0,_,_=>U
| n+1,v1,v2=>
 if(decide (v2<(a0.length:X))) then(
 (ix a0 v2).bind fun x4=>
 HX a0 n (zM .i64 (v1+x4.Cost)) (zM .i64 (v2+(1:X))))
 else(
 O v1)
def Mq(a0:V X0):W X:=
HX a0 bigN (0:X) (0:X)
def Kz(a0:V X0):W Xk:=
(Mq a0).bind fun r1=>
O (⟨r1,(0:X)⟩:Xk)
def Ie(a0:V (V X0))(a1:V X):Z→X→(V X0)→W (V X0)
| 0,_,_=>U
| n+1,v1,v2=>
 if(decide (v1<(a1.length:X))) then(
 (ix a1 v1).bind fun x4=>
 (ix a0 v1).bind fun x5=>
 (ix x5 x4).bind fun x6=>
 if A3 v2.length ([x6]:V X0).length 48 then(
  Ie a0 a1 n (zM .i64 (v1+(1:X))) (v2++([x6]:V X0)))
 else U)
 else(
 O v2)
def Ic(a0:V (V X0))(a1:V X):W (V X0):=
Ie a0 a1 bigN (0:X) ([]:V X0)
def HU(a2:V X9)(a1:V Xb)(a0:X5):Z→X→(V (V X0))→W ((V X0) × Y)
| 0,_,_=>U
| n+1,v6,v7=>
 if(decide (v6<(a1.length:X))) then(
 (ix a1 v6).bind fun x9=>
 (MG a0 x9 a2).bind fun r10=>
 if A3 v7.length ([r10]:V (V X0)).length 24 then(
  HU a2 a1 a0 n (zM .i64 (v6+(1:X))) (v7++([r10]:V (V X0))))
 else U)
 else(
 (N3 a0 v7 (fun z0=>Kz z0)).bind fun r12=>
 if r12.2.2 then(
  (Ic v7 r12.1).bind fun r14=>
  O (r14,F))
 else(
  O (([]:V X0),E)))
def Mp(a1:V Xb)(a2:V X9)(a0:X5)(v4:Y):W ((V X0) × Y):=
if v4 then(
 O (([]:V X0),E))
else(
 HU a2 a1 a0 bigN (0:X) ([]:V (V X0)))
def Mo(a0:X5)(a1:V Xb)(a2:V X9):W ((V X0) × Y):=
(CZ a0 a1).bind fun r1=>
if r1 then(
 (HV a0.Chart a2).bind fun r3=>
 Mp a1 a2 a0 (!r3))
else(
 Mp a1 a2 a0 F)
def Mu(a0:V X)(c0:X5)(c1:V Xb)(c2:V X9):W Y:=
(MN c1 a0).bind fun r1=>
(Mo c0 r1 c2).bind fun r2=>
O r2.2
def IR(a0:V X)(a1:X):Z→X→W X
| 0,_=>U
| n+1,v1=>
 if(decide (v1<(a0.length:X))) then(
 (ix a0 v1).bind fun x3=>
 if(a1==x3) then(
  O v1)
 else(
  IR a0 a1 n (zM .i64 (v1+(1:X)))))
 else(
 O (-1:X))
def QU(a0:V X)(a1:X):W X:=
IR a0 a1 bigN (0:X)
def NR(a0:V X)(a1:X):W Y:=
(QU a0 a1).bind fun r1=>
O (decide ((0:X)≤r1))
def Fg(r6:(V X))(a1:V Xb):Z→X→(V X)→W ((V X) × Y)
| 0,_,_=>U
| n+1,v7,v8=>
 if(decide (v7<(a1.length:X))) then(
 (NR r6 v7).bind fun r10=>
 if r10 then(
  Fg r6 a1 n (zM .i64 (v7+(1:X))) v8)
 else(
  if A3 v8.length ([v7]:V X).length 8 then(
  Fg r6 a1 n (zM .i64 (v7+(1:X))) (v8++([v7]:V X)))
  else U))
 else(
 O (v8,F))
def Ms(a0:X5)(a1:V Xb)(a2:V X9)(v4:Y):W ((V X) × Y):=
if v4 then(
 O (([]:V X),E))
else(
 (N4 a1 (fun z0=>Mu z0 a0 a1 a2)).bind fun r6=>
 Fg r6 a1 bigN (0:X) ([]:V X))
def Ff(a0:X5)(a1:V Xb)(a2:V X9):W ((V X) × Y):=
(CZ a0 a1).bind fun r1=>
if r1 then(
 (HV a0.Chart a2).bind fun r3=>
 Ms a0 a1 a2 (!r3))
else(
 Ms a0 a1 a2 F)
def Iw(a0 a1:V X):Z→X→W Y
| 0,_=>U
| n+1,v2=>
 if(decide (v2<(a0.length:X))) then(
 (ix a0 v2).bind fun x4=>
 (ix a1 v2).bind fun x5=>
 if(x4 !=x5) then(
  O E)
 else(
  Iw a0 a1 n (zM .i64 (v2+(1:X)))))
 else(
 O F)
def Fu(a0 a1:V X):W Y:=
if((a0.length:X) !=(a1.length:X)) then(
 O E)
else(
 Iw a0 a1 bigN (0:X))
def Nj(a0 a1:Xd):W Y:=
if(a0.Amp !=a1.Amp) then(
 O E)
else(
 if(a0.Period !=a1.Period) then(
 O E)
 else(
 if(a0.Phase !=a1.Phase) then(
  O E)
 else(
  O F)))
def Ix(a0 a1:V Xd):Z→X→W Y
| 0,_=>U
| n+1,v2=>
 if(decide (v2<(a0.length:X))) then(
 (ix a0 v2).bind fun x4=>
 (ix a1 v2).bind fun x5=>
 (Nj x4 x5).bind fun r6=>
 if r6 then(
  Ix a0 a1 n (zM .i64 (v2+(1:X))))
 else(
  O E))
 else(
 O F)
def Nk(a0 a1:V Xd):W Y:=
if((a0.length:X) !=(a1.length:X)) then(
 O E)
else(
 Ix a0 a1 bigN (0:X))
def QB(a0 a1:Xm):W Y:=
if(a0.Mean !=a1.Mean) then(
 O E)
else(
 (Nk a0.Parts a1.Parts).bind fun r2=>
 if r2 then(
 O F)
 else(
 O E))
def Ns(a0 a1:Xa):W Y:=
if(a0.From !=a1.From) then(
 O E)
else(
 if(a0.Low !=a1.Low) then(
 O E)
 else(
 if(a0.High !=a1.High) then(
  O E)
 else(
  O F)))
def IB(a0 a1:V Xa):Z→X→W Y
| 0,_=>U
| n+1,v2=>
 if(decide (v2<(a0.length:X))) then(
 (ix a0 v2).bind fun x4=>
 (ix a1 v2).bind fun x5=>
 (Ns x4 x5).bind fun r6=>
 if r6 then(
  IB a0 a1 n (zM .i64 (v2+(1:X))))
 else(
  O E))
 else(
 O F)
def Nt(a0 a1:V Xa):W Y:=
if((a0.length:X) !=(a1.length:X)) then(
 O E)
else(
 IB a0 a1 bigN (0:X))
def Nh(a0 a1:Xe):W Y:=
(QB a0.Tide a1.Tide).bind fun r1=>
if r1 then(
 (Nt a0.Surges a1.Surges).bind fun r3=>
 if r3 then(
 O F)
 else(
 O E))
else(
 O E)
def Nl(a0 a1:X7):W Y:=
if(a0.Name==a1.Name) then(
 if(a0.Wait==a1.Wait) then(
 O F)
 else(
 O E))
else(
 O E)
def Iy(a0 a1:V X7):Z→X→W Y
| 0,_=>U
| n+1,v2=>
 if(decide (v2<(a0.length:X))) then(
 (ix a0 v2).bind fun x4=>
 (ix a1 v2).bind fun x5=>
 (Nl x4 x5).bind fun r6=>
 if r6 then(
  Iy a0 a1 n (zM .i64 (v2+(1:X))))
 else(
  O E))
 else(
 O F)
def Nm(a0 a1:V X7):W Y:=
if((a0.length:X) !=(a1.length:X)) then(
 O E)
else(
 Iy a0 a1 bigN (0:X))
def Nn(a0 a1:X2):W Y:=
if(a0.A !=a1.A) then(
 O E)
else(
 if(a0.B !=a1.B) then(
 O E)
 else(
 if(a0.Depth !=a1.Depth) then(
  O E)
 else(
  if(a0.Minutes !=a1.Minutes) then(
  O E)
  else(
  if(a0.Meet==a1.Meet) then(
   O F)
  else(
   O E)))))
def Iz(a0 a1:V X2):Z→X→W Y
| 0,_=>U
| n+1,v2=>
 if(decide (v2<(a0.length:X))) then(
 (ix a0 v2).bind fun x4=>
 (ix a1 v2).bind fun x5=>
 (Nn x4 x5).bind fun r6=>
 if r6 then(
  Iz a0 a1 n (zM .i64 (v2+(1:X))))
 else(
  O E))
 else(
 O F)
def Np(a0 a1:V X2):W Y:=
if((a0.length:X) !=(a1.length:X)) then(
 O E)
else(
 Iz a0 a1 bigN (0:X))
def Nf(a0 a1:X1):W Y:=
(Nm a0.Points a1.Points).bind fun r1=>
if r1 then(
 (Np a0.Segments a1.Segments).bind fun r3=>
 if r3 then(
 O F)
 else(
 O E))
else(
 O E)
def Nq(a0 a1:X4):W Y:=
if(a0.Name==a1.Name) then(
 if(a0.Length !=a1.Length) then(
 O E)
 else(
 if(a0.Draught !=a1.Draught) then(
  O E)
 else(
  if(a0.Line !=a1.Line) then(
  O E)
  else(
  if(a0.Tugs !=a1.Tugs) then(
   O E)
  else(
   if(a0.Slow==a1.Slow) then(
   O F)
   else(
   O E))))))
else(
 O E)
def IA(a0 a1:V X4):Z→X→W Y
| 0,_=>U
| n+1,v2=>
 if(decide (v2<(a0.length:X))) then(
 (ix a0 v2).bind fun x4=>
 (ix a1 v2).bind fun x5=>
 (Nq x4 x5).bind fun r6=>
 if r6 then(
  IA a0 a1 n (zM .i64 (v2+(1:X))))
 else(
  O E))
 else(
 O F)
def Nr(a0 a1:V X4):W Y:=
if((a0.length:X) !=(a1.length:X)) then(
 O E)
else(
 IA a0 a1 bigN (0:X))
def QA(a0 a1:Xi):W Y:=
if(a0.Gap !=a1.Gap) then(
 O E)
else(
 if(a0.NoMeet==a1.NoMeet) then(
 O F)
 else(
 O E))
def Qz(a0 a1:Xn):W Y:=
if(a0.Tugs !=a1.Tugs) then(
 O E)
else(
 if(a0.Pilots !=a1.Pilots) then(
 O E)
 else(
 if(a0.Rest !=a1.Rest) then(
  O E)
 else(
  (Fu a0.Moves a1.Moves).bind fun r4=>
  if r4 then(
  O F)
  else(
  O E))))
def Ni(a0 a1:X5):W Y:=
(Nh a0.Forecast a1.Forecast).bind fun r1=>
if r1 then(
 (Nf a0.Chart a1.Chart).bind fun r3=>
 if r3 then(
 (Nr a0.Fleet a1.Fleet).bind fun r5=>
 if r5 then(
  (QA a0.Regime a1.Regime).bind fun r7=>
  if r7 then(
  (Qz a0.Crew a1.Crew).bind fun r9=>
  if r9 then(
   O F)
  else(
   O E))
  else(
  O E))
 else(
  O E))
 else(
 O E))
else(
 O E)
def Qy(a0 a1:Xb):W Y:=
if(a0.Ship !=a1.Ship) then(
 O E)
else(
 if(a0.From !=a1.From) then(
 O E)
 else(
 if(a0.To !=a1.To) then(
  O E)
 else(
  if(a0.Ready !=a1.Ready) then(
  O E)
  else(
  if(a0.Due !=a1.Due) then(
   O E)
  else(
   O F)))))
def Iu(a0 a1:V Xb):Z→X→W Y
| 0,_=>U
| n+1,v2=>
 if(decide (v2<(a0.length:X))) then(
 (ix a0 v2).bind fun x4=>
 (ix a1 v2).bind fun x5=>
 (Qy x4 x5).bind fun r6=>
 if r6 then(
  Iu a0 a1 n (zM .i64 (v2+(1:X))))
 else(
  O E))
 else(
 O F)
def Nd(a0 a1:V Xb):W Y:=
if((a0.length:X) !=(a1.length:X)) then(
 O E)
else(
 Iu a0 a1 bigN (0:X))
def Ng(a0 a1:X9):W Y:=
if(a0.Segment !=a1.Segment) then(
 O E)
else(
 if(a0.From !=a1.From) then(
 O E)
 else(
 if(a0.To !=a1.To) then(
  O E)
 else(
  O F)))
def Iv(a0 a1:V X9):Z→X→W Y
| 0,_=>U
| n+1,v2=>
 if(decide (v2<(a0.length:X))) then(
 (ix a0 v2).bind fun x4=>
 (ix a1 v2).bind fun x5=>
 (Ng x4 x5).bind fun r6=>
 if r6 then(
  Iv a0 a1 n (zM .i64 (v2+(1:X))))
 else(
  O E))
 else(
 O F)
def KK(a0 a1:V X9):W Y:=
if((a0.length:X) !=(a1.length:X)) then(
 O E)
else(
 Iv a0 a1 bigN (0:X))
def Fy:Z→X→X→(V Xd)→W (X × V Xd)
| 0,_,_,_=>U
| n+1,v1,v2,v3=>
 if(decide (v2<(v3.length:X))) then(
 (ix v3 v2).bind fun x5=>
 (ix (v3.set (zB v2) (⟨v1,x5.Period,x5.Phase⟩:Xd)) v2).bind fun x6=>
 (ix ((v3.set (zB v2) (⟨v1,x5.Period,x5.Phase⟩:Xd)).set (zB v2) (⟨x6.Amp,(zM .i64 (v1+(1:X))),x6.Phase⟩:Xd)) v2).bind fun x7=>
 Fy n (zM .i64 ((zM .i64 ((zM .i64 (v1+(1:X)))+(1:X)))+(1:X))) (zM .i64 (v2+(1:X))) (((v3.set (zB v2) (⟨v1,x5.Period,x5.Phase⟩:Xd)).set (zB v2) (⟨x6.Amp,(zM .i64 (v1+(1:X))),x6.Phase⟩:Xd)).set (zB v2) (⟨x7.Amp,x7.Period,(zM .i64 ((zM .i64 (v1+(1:X)))+(1:X)))⟩:Xd)))
 else(
 O (v1,v3))
def KT(a0:V Xd)(a1:X):W (X × V Xd):=
Fy bigN a1 (0:X) a0
def KZ(a0:Xm)(a1:X):W (X × V Xd):=
(KT a0.Parts a1).bind fun r1=>
O (r1.1,r1.2)
def FD:Z→X→X→(V Xa)→W (X × V Xa)
| 0,_,_,_=>U
| n+1,v1,v2,v3=>
 if(decide (v2<(v3.length:X))) then(
 (ix v3 v2).bind fun x5=>
 (ix (v3.set (zB v2) (⟨v1,x5.Low,x5.High⟩:Xa)) v2).bind fun x6=>
 (ix ((v3.set (zB v2) (⟨v1,x5.Low,x5.High⟩:Xa)).set (zB v2) (⟨x6.From,(zM .i64 (v1+(1:X))),x6.High⟩:Xa)) v2).bind fun x7=>
 FD n (zM .i64 ((zM .i64 ((zM .i64 (v1+(1:X)))+(1:X)))+(1:X))) (zM .i64 (v2+(1:X))) (((v3.set (zB v2) (⟨v1,x5.Low,x5.High⟩:Xa)).set (zB v2) (⟨x6.From,(zM .i64 (v1+(1:X))),x6.High⟩:Xa)).set (zB v2) (⟨x7.From,x7.Low,(zM .i64 ((zM .i64 (v1+(1:X)))+(1:X)))⟩:Xa)))
 else(
 O (v1,v3))
def KX(a0:V Xa)(a1:X):W (X × V Xa):=
FD bigN a1 (0:X) a0
def KR(a0:Xe)(a1:X):W (X × V Xd × V Xa):=
(KZ a0.Tide a1).bind fun r1=>
(KX a0.Surges r1.1).bind fun r2=>
O (r2.1,r1.2,r2.2)
def IE:Z→X→(V zA)→W (V zA)
| 0,_,_=>U
| n+1,v2,v3=>
 if(decide ((0:X)<v2)) then(
 if Fb ([(IntKind.u8.wrap (zM .i64 ((48:X)+(zM .i64 (zJ v2 (10:X))))))]:V X).length v3.length then(
  IE n (zM .i64 (zF v2 (10:X))) ((zC cb ([(IntKind.u8.wrap (zM .i64 ((48:X)+(zM .i64 (zJ v2 (10:X))))))]:V X))++v3))
 else U)
 else(
 if Fb ([109]:V zA).length v3.length then(
  O (([109]:V zA)++v3))
 else U)
def KY(a0:X):W (V zA):=
if(decide (a0≤(0:X))) then(
 O ([109,48]:V zA))
else(
 IE bigN a0 ([]:V zA))
def Fz:Z→X→X→(V X7)→W (X × V X7)
| 0,_,_,_=>U
| n+1,v1,v2,v3=>
 if(decide (v2<(v3.length:X))) then(
 (KY v1).bind fun r5=>
 (ix v3 v2).bind fun x6=>
 (ix (v3.set (zB v2) (⟨r5,x6.Wait⟩:X7)) v2).bind fun x7=>
 Fz n (zM .i64 ((zM .i64 (v1+(1:X)))+(1:X))) (zM .i64 (v2+(1:X))) ((v3.set (zB v2) (⟨r5,x6.Wait⟩:X7)).set (zB v2) (⟨x7.Name,((zM .i64 (zJ (zM .i64 (v1+(1:X))) (3:X)))==(0:X))⟩:X7)))
 else(
 O (v1,v3))
def KU(a0:V X7)(a1:X):W (X × V X7):=
Fz bigN a1 (0:X) a0
def FA:Z→X→X→(V X2)→W (X × V X2)
| 0,_,_,_=>U
| n+1,v1,v2,v3=>
 if(decide (v2<(v3.length:X))) then(
 (ix v3 v2).bind fun x5=>
 (ix (v3.set (zB v2) (⟨v1,x5.B,x5.Depth,x5.Minutes,x5.Meet⟩:X2)) v2).bind fun x6=>
 (ix ((v3.set (zB v2) (⟨v1,x5.B,x5.Depth,x5.Minutes,x5.Meet⟩:X2)).set (zB v2) (⟨x6.A,(zM .i64 (v1+(1:X))),x6.Depth,x6.Minutes,x6.Meet⟩:X2)) v2).bind fun x7=>
 (ix (((v3.set (zB v2) (⟨v1,x5.B,x5.Depth,x5.Minutes,x5.Meet⟩:X2)).set (zB v2) (⟨x6.A,(zM .i64 (v1+(1:X))),x6.Depth,x6.Minutes,x6.Meet⟩:X2)).set (zB v2) (⟨x7.A,x7.B,(zM .i64 ((zM .i64 (v1+(1:X)))+(1:X))),x7.Minutes,x7.Meet⟩:X2)) v2).bind fun x8=>
 (ix ((((v3.set (zB v2) (⟨v1,x5.B,x5.Depth,x5.Minutes,x5.Meet⟩:X2)).set (zB v2) (⟨x6.A,(zM .i64 (v1+(1:X))),x6.Depth,x6.Minutes,x6.Meet⟩:X2)).set (zB v2) (⟨x7.A,x7.B,(zM .i64 ((zM .i64 (v1+(1:X)))+(1:X))),x7.Minutes,x7.Meet⟩:X2)).set (zB v2) (⟨x8.A,x8.B,x8.Depth,(zM .i64 ((zM .i64 ((zM .i64 (v1+(1:X)))+(1:X)))+(1:X))),x8.Meet⟩:X2)) v2).bind fun x9=>
 FA n (zM .i64 ((zM .i64 ((zM .i64 ((zM .i64 ((zM .i64 (v1+(1:X)))+(1:X)))+(1:X)))+(1:X)))+(1:X))) (zM .i64 (v2+(1:X))) (((((v3.set (zB v2) (⟨v1,x5.B,x5.Depth,x5.Minutes,x5.Meet⟩:X2)).set (zB v2) (⟨x6.A,(zM .i64 (v1+(1:X))),x6.Depth,x6.Minutes,x6.Meet⟩:X2)).set (zB v2) (⟨x7.A,x7.B,(zM .i64 ((zM .i64 (v1+(1:X)))+(1:X))),x7.Minutes,x7.Meet⟩:X2)).set (zB v2) (⟨x8.A,x8.B,x8.Depth,(zM .i64 ((zM .i64 ((zM .i64 (v1+(1:X)))+(1:X)))+(1:X))),x8.Meet⟩:X2)).set (zB v2) (⟨x9.A,x9.B,x9.Depth,x9.Minutes,((zM .i64 (zJ (zM .i64 ((zM .i64 ((zM .i64 ((zM .i64 (v1+(1:X)))+(1:X)))+(1:X)))+(1:X))) (3:X)))==(0:X))⟩:X2)))
 else(
 O (v1,v3))
def KV(a0:V X2)(a1:X):W (X × V X2):=
FA bigN a1 (0:X) a0
def KO(a0:X1)(a1:X):W (X × V X7 × V X2):=
(KU a0.Points a1).bind fun r1=>
(KV a0.Segments r1.1).bind fun r2=>
O (r2.1,r1.2,r2.2)
def FB:Z→X→X→(V X4)→W (X × V X4)
| 0,_,_,_=>U
| n+1,v1,v2,v3=>
 if(decide (v2<(v3.length:X))) then(
 (KY v1).bind fun r5=>
 (ix v3 v2).bind fun x6=>
 (ix (v3.set (zB v2) (⟨r5,x6.Length,x6.Draught,x6.Line,x6.Tugs,x6.Slow⟩:X4)) v2).bind fun x7=>
 (ix ((v3.set (zB v2) (⟨r5,x6.Length,x6.Draught,x6.Line,x6.Tugs,x6.Slow⟩:X4)).set (zB v2) (⟨x7.Name,(zM .i64 (v1+(1:X))),x7.Draught,x7.Line,x7.Tugs,x7.Slow⟩:X4)) v2).bind fun x8=>
 (ix (((v3.set (zB v2) (⟨r5,x6.Length,x6.Draught,x6.Line,x6.Tugs,x6.Slow⟩:X4)).set (zB v2) (⟨x7.Name,(zM .i64 (v1+(1:X))),x7.Draught,x7.Line,x7.Tugs,x7.Slow⟩:X4)).set (zB v2) (⟨x8.Name,x8.Length,(zM .i64 ((zM .i64 (v1+(1:X)))+(1:X))),x8.Line,x8.Tugs,x8.Slow⟩:X4)) v2).bind fun x9=>
 (ix ((((v3.set (zB v2) (⟨r5,x6.Length,x6.Draught,x6.Line,x6.Tugs,x6.Slow⟩:X4)).set (zB v2) (⟨x7.Name,(zM .i64 (v1+(1:X))),x7.Draught,x7.Line,x7.Tugs,x7.Slow⟩:X4)).set (zB v2) (⟨x8.Name,x8.Length,(zM .i64 ((zM .i64 (v1+(1:X)))+(1:X))),x8.Line,x8.Tugs,x8.Slow⟩:X4)).set (zB v2) (⟨x9.Name,x9.Length,x9.Draught,(zM .i64 ((zM .i64 ((zM .i64 (v1+(1:X)))+(1:X)))+(1:X))),x9.Tugs,x9.Slow⟩:X4)) v2).bind fun x10=>
 (ix (((((v3.set (zB v2) (⟨r5,x6.Length,x6.Draught,x6.Line,x6.Tugs,x6.Slow⟩:X4)).set (zB v2) (⟨x7.Name,(zM .i64 (v1+(1:X))),x7.Draught,x7.Line,x7.Tugs,x7.Slow⟩:X4)).set (zB v2) (⟨x8.Name,x8.Length,(zM .i64 ((zM .i64 (v1+(1:X)))+(1:X))),x8.Line,x8.Tugs,x8.Slow⟩:X4)).set (zB v2) (⟨x9.Name,x9.Length,x9.Draught,(zM .i64 ((zM .i64 ((zM .i64 (v1+(1:X)))+(1:X)))+(1:X))),x9.Tugs,x9.Slow⟩:X4)).set (zB v2) (⟨x10.Name,x10.Length,x10.Draught,x10.Line,(zM .i64 ((zM .i64 ((zM .i64 ((zM .i64 (v1+(1:X)))+(1:X)))+(1:X)))+(1:X))),x10.Slow⟩:X4)) v2).bind fun x11=>
 FB n (zM .i64 ((zM .i64 ((zM .i64 ((zM .i64 ((zM .i64 ((zM .i64 (v1+(1:X)))+(1:X)))+(1:X)))+(1:X)))+(1:X)))+(1:X))) (zM .i64 (v2+(1:X))) ((((((v3.set (zB v2) (⟨r5,x6.Length,x6.Draught,x6.Line,x6.Tugs,x6.Slow⟩:X4)).set (zB v2) (⟨x7.Name,(zM .i64 (v1+(1:X))),x7.Draught,x7.Line,x7.Tugs,x7.Slow⟩:X4)).set (zB v2) (⟨x8.Name,x8.Length,(zM .i64 ((zM .i64 (v1+(1:X)))+(1:X))),x8.Line,x8.Tugs,x8.Slow⟩:X4)).set (zB v2) (⟨x9.Name,x9.Length,x9.Draught,(zM .i64 ((zM .i64 ((zM .i64 (v1+(1:X)))+(1:X)))+(1:X))),x9.Tugs,x9.Slow⟩:X4)).set (zB v2) (⟨x10.Name,x10.Length,x10.Draught,x10.Line,(zM .i64 ((zM .i64 ((zM .i64 ((zM .i64 (v1+(1:X)))+(1:X)))+(1:X)))+(1:X))),x10.Slow⟩:X4)).set (zB v2) (⟨x11.Name,x11.Length,x11.Draught,x11.Line,x11.Tugs,((zM .i64 (zJ (zM .i64 ((zM .i64 ((zM .i64 ((zM .i64 ((zM .i64 (v1+(1:X)))+(1:X)))+(1:X)))+(1:X)))+(1:X))) (3:X)))==(0:X))⟩:X4)))
 else(
 O (v1,v3))
def KW(a0:V X4)(a1:X):W (X × V X4):=
FB bigN a1 (0:X) a0
def DJ:Z→X→X→(V X)→W (X × V X)
| 0,_,_,_=>U
| n+1,v1,v2,v3=>
 if(decide (v2<(v3.length:X))) then(
 (ix v3 v2).bind fun x5=>
 DJ n (zM .i64 (v1+(1:X))) (zM .i64 (v2+(1:X))) (v3.set (zB v2) v1))
 else(
 O (v1,v3))
def Fx(a0:V X)(a1:X):W (X × V X):=
DJ bigN a1 (0:X) a0
def KQ(a0:Xn)(a1:X):W (X × V X):=
(Fx a0.Moves a1).bind fun r1=>
O (r1.1,r1.2)
def ID(a0:X5)(a1:X):W (X × V Xd × V Xa × V X7 × V X2 × V X4 × V X):=
(KR a0.Forecast a1).bind fun r1=>
(KO a0.Chart r1.1).bind fun r2=>
(KW a0.Fleet r2.1).bind fun r3=>
(KQ a0.Crew r3.1).bind fun r4=>
O (r4.1,r1.2.1,r1.2.2,r2.2.1,r2.2.2,r3.2,r4.2)
def Fv:Z→X→X→(V Xb)→W (X × V Xb)
| 0,_,_,_=>U
| n+1,v1,v2,v3=>
 if(decide (v2<(v3.length:X))) then(
 (ix v3 v2).bind fun x5=>
 (ix (v3.set (zB v2) (⟨v1,x5.From,x5.To,x5.Ready,x5.Due⟩:Xb)) v2).bind fun x6=>
 (ix ((v3.set (zB v2) (⟨v1,x5.From,x5.To,x5.Ready,x5.Due⟩:Xb)).set (zB v2) (⟨x6.Ship,(zM .i64 (v1+(1:X))),x6.To,x6.Ready,x6.Due⟩:Xb)) v2).bind fun x7=>
 (ix (((v3.set (zB v2) (⟨v1,x5.From,x5.To,x5.Ready,x5.Due⟩:Xb)).set (zB v2) (⟨x6.Ship,(zM .i64 (v1+(1:X))),x6.To,x6.Ready,x6.Due⟩:Xb)).set (zB v2) (⟨x7.Ship,x7.From,(zM .i64 ((zM .i64 (v1+(1:X)))+(1:X))),x7.Ready,x7.Due⟩:Xb)) v2).bind fun x8=>
 (ix ((((v3.set (zB v2) (⟨v1,x5.From,x5.To,x5.Ready,x5.Due⟩:Xb)).set (zB v2) (⟨x6.Ship,(zM .i64 (v1+(1:X))),x6.To,x6.Ready,x6.Due⟩:Xb)).set (zB v2) (⟨x7.Ship,x7.From,(zM .i64 ((zM .i64 (v1+(1:X)))+(1:X))),x7.Ready,x7.Due⟩:Xb)).set (zB v2) (⟨x8.Ship,x8.From,x8.To,(zM .i64 ((zM .i64 ((zM .i64 (v1+(1:X)))+(1:X)))+(1:X))),x8.Due⟩:Xb)) v2).bind fun x9=>
 Fv n (zM .i64 ((zM .i64 ((zM .i64 ((zM .i64 ((zM .i64 (v1+(1:X)))+(1:X)))+(1:X)))+(1:X)))+(1:X))) (zM .i64 (v2+(1:X))) (((((v3.set (zB v2) (⟨v1,x5.From,x5.To,x5.Ready,x5.Due⟩:Xb)).set (zB v2) (⟨x6.Ship,(zM .i64 (v1+(1:X))),x6.To,x6.Ready,x6.Due⟩:Xb)).set (zB v2) (⟨x7.Ship,x7.From,(zM .i64 ((zM .i64 (v1+(1:X)))+(1:X))),x7.Ready,x7.Due⟩:Xb)).set (zB v2) (⟨x8.Ship,x8.From,x8.To,(zM .i64 ((zM .i64 ((zM .i64 (v1+(1:X)))+(1:X)))+(1:X))),x8.Due⟩:Xb)).set (zB v2) (⟨x9.Ship,x9.From,x9.To,x9.Ready,(zM .i64 ((zM .i64 ((zM .i64 ((zM .i64 (v1+(1:X)))+(1:X)))+(1:X)))+(1:X)))⟩:Xb)))
 else(
 O (v1,v3))
def KM(a0:V Xb)(a1:X):W (X × V Xb):=
Fv bigN a1 (0:X) a0
def Fw:Z→X→X→(V X9)→W (X × V X9)
| 0,_,_,_=>U
| n+1,v1,v2,v3=>
 if(decide (v2<(v3.length:X))) then(
 (ix v3 v2).bind fun x5=>
 (ix (v3.set (zB v2) (⟨v1,x5.From,x5.To⟩:X9)) v2).bind fun x6=>
 (ix ((v3.set (zB v2) (⟨v1,x5.From,x5.To⟩:X9)).set (zB v2) (⟨x6.Segment,(zM .i64 (v1+(1:X))),x6.To⟩:X9)) v2).bind fun x7=>
 Fw n (zM .i64 ((zM .i64 ((zM .i64 (v1+(1:X)))+(1:X)))+(1:X))) (zM .i64 (v2+(1:X))) (((v3.set (zB v2) (⟨v1,x5.From,x5.To⟩:X9)).set (zB v2) (⟨x6.Segment,(zM .i64 (v1+(1:X))),x6.To⟩:X9)).set (zB v2) (⟨x7.Segment,x7.From,(zM .i64 ((zM .i64 (v1+(1:X)))+(1:X)))⟩:X9)))
 else(
 O (v1,v3))
def KP(a0:V X9)(a1:X):W (X × V X9):=
Fw bigN a1 (0:X) a0
def IC(a0:V X):Z→X→X→W X
| 0,_,_=>U
| n+1,v1,v2=>
 if(decide (v2<(a0.length:X))) then(
 (ix a0 v2).bind fun x4=>
 if(x4 !=v1) then(
  O (-1:X))
 else(
  IC a0 n (zM .i64 (v1+(1:X))) (zM .i64 (v2+(1:X)))))
 else(
 O v1)
def KL(a0:V X)(a1:X):W X:=
IC a0 bigN a1 (0:X)
def Qx(a0:X5)(a1:V Xb)(a2:V X9):W Y:=
(Ny a0 (1048576:X)).bind fun r1=>
if(decide (r1<(0:X))) then(
 O F)
else(
 (Nu a1 r1).bind fun r3=>
 if(decide (r3<(0:X))) then(
 O F)
 else(
 (Nw a2 r3).bind fun r5=>
 if(decide (r5<(0:X))) then(
  O F)
 else(
  (GH a0).bind fun r7=>
  (GF a1).bind fun r9=>
  (GG a2).bind fun r10=>
  (GK r7 r9 r10).bind fun r11=>
  (GH a0).bind fun r12=>
  (GF a1).bind fun r13=>
  (GG a2).bind fun r14=>
  (Ff r12 r13 r14).bind fun r15=>
  (Fu r15.1 r11.1).bind fun r16=>
  if r16 then(
  if(r15.2==r11.2) then(
   (GH a0).bind fun r19=>
   (Ni r12 r19).bind fun r20=>
   if r20 then(
   (GF a1).bind fun r22=>
   (Nd r13 r22).bind fun r23=>
   if r23 then(
    (GG a2).bind fun r25=>
    (KK r14 r25).bind fun r26=>
    if r26 then(
    (ID r12 (1:X)).bind fun r28=>
    (KM r13 r28.1).bind fun r29=>
    (KP r14 r29.1).bind fun r30=>
    if(decide (r30.1<(0:X))) then(
     O E)
    else(
     (Fu r15.1 r11.1).bind fun r32=>
     if r32 then(
     (Fx r15.1 (1:X)).bind fun r34=>
     (KL r34.2 (1:X)).bind fun r35=>
     if(decide (r35<(0:X))) then(
      O E)
     else(
      if(r35 !=r34.1) then(
      O E)
      else(
      (GH a0).bind fun r38=>
      (GF a1).bind fun r39=>
      (GG a2).bind fun r40=>
      (Ff r38 r39 r40).bind fun r41=>
      (Fu r41.1 r11.1).bind fun r42=>
      if r42 then(
       if(r41.2==r11.2) then(
       (KL r34.2 (1:X)).bind fun r45=>
       if(decide (r45<(0:X))) then(
        O E)
       else(
        if(r45 !=r34.1) then(
        O E)
        else(
        O F)))
       else(
       O E))
      else(
       O E))))
     else(
     O E)))
    else(
    O E))
   else(
    O E))
   else(
   O E))
  else(
   O E))
  else(
  O E))))
class Ct (f:Z) (T:outParam Prop):Prop where
 c:T
theorem Ae{f:Z}{T:Prop}(I:Ct f T):T:=I.c
section
variable {P : Program} {k : V Fr} {Q : Xo → St → Prop} {σ : St} {its : V AItem} {d f : Z} {args : V Opd} {xs : V DV} {rs : V R1} {T : Prop} [I : Ct f T]
theorem lM(hf:T→FC P f xs rs)(h:go P (.ops its::k) Q .normal (O (σ.inst d rs)))(h1:σ.toIVs args=O xs:=by exact rfl)(h3:σ.fresh d=F:=by first | exact rfl | (simp only[St.fresh,zK,zL,Ak]; simp[AV.cells,V1.cells,AC.uses]))(h4:Nat.ble (rs.flatMap R1.cells).length 64=F:=by exact rfl) :
  go P (.ops ((U,.call d f args)::its)::k) Q .normal (O σ):=AA (hf I.c) h h1 h3 h4
theorem ni{N:V Z}{ds:V B0}(hf:T→FC P f xs rs)(h:go P (.dops ds::k) Q .normal (O (σ.inst d rs)))(h1:(σ.less N).toIVs args=O xs:=by exact rfl)(h3:σ.fresh d=F:=by first | exact rfl | (simp only[St.fresh,zK,zL,Ak]; simp[AV.cells,V1.cells,AC.uses]))(h4:Nat.ble (rs.flatMap R1.cells).length 64=F:=by exact rfl) :
  go P (.dops ((O N,U,.call d f args)::ds)::k) Q .normal (O σ):=Cc (hf I.c) h h1 h3 h4
theorem lN(hf:T→FC P f xs rs)(h:go P (.ops its::k) Q .normal (O (σ.inst d rs)))(h1:σ.toDVs args=O xs:=by exact rfl)(h2:CO rs:=by first | exact BD rfl | exact D0 rfl ⟨D1,⟨⟩⟩ | exact D0 rfl ⟨D1,rfl,⟨⟩⟩ | exact D0 rfl ⟨D1,rfl,rfl,⟨⟩⟩ | exact D0 rfl ⟨rfl,rfl,rfl,D1,rfl,⟨⟩⟩)(h3:σ.fresh d=F:=by first | exact rfl | (simp only[St.fresh,zK,zL,Ak]; simp[AV.cells,V1.cells,AC.uses]))(h4:Nat.ble (rs.flatMap R1.cells).length 64=F:=by exact rfl) :
  go P (.ops ((U,.call d f args)::its)::k) Q .normal (O σ):=BO (hf I.c) h1 h2 h3 (zD h4) h
theorem nj{N:V Z}{ds:V B0}(hf:T→FC P f xs rs)(h:go P (.dops ds::k) Q .normal (O (σ.inst d rs)))(h1:(σ.less N).toDVs args=O xs:=by exact rfl)(h2:CO rs:=by first | exact BD rfl | exact D0 rfl ⟨D1,⟨⟩⟩ | exact D0 rfl ⟨D1,rfl,⟨⟩⟩)(h3:σ.fresh d=F:=by first | exact rfl | (simp only[St.fresh,zK,zL,Ak]; simp[AV.cells,V1.cells,AC.uses]))(h4:Nat.ble (rs.flatMap R1.cells).length 64=F:=by exact rfl) :
  go P (.dops ((O N,U,.call d f args)::ds)::k) Q .normal (O σ):=Rl (hf I.c) h1 h2 h3 (zD h4) h
end
theorem Al(es:V (V D)){P:Program}{k:V Fr}{Q:Xo→St→Prop}{σ:St}{its:V AItem}{d sz:Z}{zs:V D}{len:Z}{ps:V (Z × Opd)}(H:go P (.ops its::k) Q .normal (O {(σ.set d (.v (.sc (.own (d*64))))) with rows:=put σ.rows (d*64) (sz,es) }))(hm:σ.made (.bslice d sz zs len ps)=O (.row d sz es):=by exact rfl)(hf:σ.fresh d=F:=by first | exact rfl | (simp only[St.fresh,zK,zL,Ak]; simp[AV.cells,V1.cells,AC.uses])) :
  go P (.ops ((U,.bslice d sz zs len ps)::its)::k) Q .normal (O σ):=As hm hf H
theorem Ej{α:Type}(row:α→V D)(z:α){P:Program}{k:V Fr}{Q:Xo→St→Prop}{σ:St}{its:V AItem}{d:Z}{L C:Opd}{l c:X}{bytes n sz:Z}{zs:V D}(hb:BQ l c bytes=O n)
  (H:go P (.ops its::k) Q .normal (O {(σ.set d (.v (.sc (.own (d*64))))) with rows:=put σ.rows (d*64) (sz,zC row (zG n z)) })) (hl:C4 (σ.val L)=O l:=by exact rfl) (hc:C4 (σ.val C)=O c:=by exact rfl) (hz:zs.length=sz:=by exact rfl) (he:row z=zs:=by exact rfl) (hf:σ.fresh d=F:=by exact rfl):go P (.ops ((U,.mksl d sz bytes zs L C)::its)::k) Q .normal (O σ):=TA hl hc hb hz (Sk he) hf H
theorem Eo{α:Type}(row:α→V D)(y:α){P:Program}{k:V Fr}{Q:Xo→St→Prop}{env bx rows}{id sz off n:Z}{i:X}{xs:V α}{x:α}{yv:V1}{dd:V D}(hx:ix xs i=O x)(H:go P k Q .normal (O ⟨env,bx,put rows id (sz,zC row (xs.set i.toNat y))⟩))(hd:yv.toDs=O dd:=by exact rfl)(hf:A1 rows id=O (sz,zC row xs):=by exact rfl)
  (hn:dd.length=n:=by exact rfl) (ho:Nat.ble (off+n) (row x).length=F:=by exact rfl) (hy:G9 (row x) off dd=row y:=by exact rfl) :
  go P k Q .normal (St.storeV ⟨env,bx,rows⟩ n (.v (.sc (.pe id i.toNat off))) (.v yv)):=AS hd hf (Au hx) hn ho hy H
theorem gc{G:Prop}(k:G:=by
 first | intro S hS | intro hS
 conv at hS=>rhs; reduce
 try simp only[Int.reduceOfNat,Int.reduceNegSucc,Va,UInt8.reduceOfNat] at hS
 subst hS;first | refine AE (Ax ?_) | refine Ax ?_ | skip
 repeat' (first | refine Bg ?_ | refine BM ?_ | refine Ay ?_ | refine Cj ?_ | (obtain⟨_,hc,h⟩:=ob h; first | refine lM (by intro k; apply k; exact hc) ?_ | refine ni (by intro k; apply k; exact hc) ?_ | refine lN (by intro k; apply k; exact hc) ?_ | refine nj (by intro k; apply k; exact hc) ?_ | refine s0 hc ?_ | refine s1 hc ?_) | simp only[*,Nat.reduceBEq,Nat.reduceMul,Nat.reduceAdd,Nat.reduceDiv,Int.reduceBEq,J] | (first | refine s0 ?_ | refine s0 _ ?_ | refine s0 ‹_› ?_ | refine s0 _ ‹_› ?_ | refine s0 _ _ ‹_› ?_ | refine s1 ?_ | refine s1 _ ?_ | refine s1 ‹_› ?_ | refine s1 _ ‹_› ?_ | refine s1 _ _ ‹_› ?_ | refine s2 ?_ | refine s2 _ ?_ | refine s2 ‹_› ?_ | refine s2 _ ‹_› ?_ | refine s2 _ _ ‹_› ?_ | refine s3 ?_ | refine s3 _ ?_ | refine s3 ‹_› ?_ | refine s3 _ ‹_› ?_ | refine s3 _ _ ‹_› ?_) | ((first | show go _ (.code (.loop _)::_) _ _ _ | show go _ (.code (Hj _)::_) _ _ _); (first | refine ih h ?_ (by kernel_rfl) | refine k0 h ?_ (by kernel_rfl) | refine k0 ‹_› h ?_ (by kernel_rfl) | refine k0 ‹_› ‹_› h ?_ (by kernel_rfl) | refine k0 ‹_› ‹_› ‹_› h ?_ (by kernel_rfl) | refine k1 h ?_ (by kernel_rfl) | refine k1 ‹_› h ?_ (by kernel_rfl) | refine k1 ‹_› ‹_› h ?_ (by kernel_rfl) | refine k1 ‹_› ‹_› ‹_› h ?_ (by kernel_rfl) | refine k2 h ?_ (by kernel_rfl) | refine k2 ‹_› h ?_ (by kernel_rfl) | refine k2 ‹_› ‹_› h ?_ (by kernel_rfl) | refine k2 ‹_› ‹_› ‹_› h ?_ (by kernel_rfl) | refine k3 h ?_ (by kernel_rfl) | refine k3 ‹_› h ?_ (by kernel_rfl) | refine k3 ‹_› ‹_› h ?_ (by kernel_rfl) | refine k3 ‹_› ‹_› ‹_› h ?_ (by kernel_rfl)))<;>try simp only[*,Nat.reduceBEq,Nat.reduceMul,Nat.reduceAdd,Nat.reduceDiv,Int.reduceBEq,J,pL,aM,List.map_nil] | (obtain⟨_,_,h⟩:=ob h) | (obtain⟨_,h⟩:=B3 h) | (obtain⟨_,h⟩:=Hq h) | (obtain⟨_,h⟩ | ⟨_,h⟩:=ic h) | (cases h; first | exact t0 | trivial | (repeat' constructor; done)))
 done):G:=k
end Go.Vi
