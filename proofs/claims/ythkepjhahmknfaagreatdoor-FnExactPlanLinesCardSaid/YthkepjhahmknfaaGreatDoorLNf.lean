/-
Plain definitions of functions. No condition.
-/
import Derived.Test.YthkepjhahmknfaaGreatDoorLVi40
import Derived.Test.YthkepjhahmknfaaGreatDoorLLa
namespace Go.Vi
set_option linter.all false
open Int renaming toNat → U, tdiv → X, tmod → C
open Nat renaming le_of_ble_eq_true → V
open List renaming map → W, replicate → Z, not_mem_nil → I, mem_cons → zA
open And renaming intro → Y
open IntKind renaming wrap → zB
open Bool renaming true → T, false → F
open Option renaming some → E, none → G
open _root_ renaming List → H, Option → L, Int → N, Bool → O, Nat → P, UInt8 → Q
def CH(k:IntKind)(x:N)(n:P):N:=k.wrap (x.fdiv (2 ^ min n k.bits))
theorem qM{k:IntKind}{x:N}:CL .shr (.v (.sc (.dat (.int k x)))) (.v (.sc (.dat (.int .u64 8))))=E (.v (.sc (.dat (.int k (CH k x 8))))):=by simp[CL,B8,CH]
theorem A0a{k:IntKind}{x:N}:B8 .shr k x 8=E (.int k (CH k x 8)):=by simp[B8,CH]
theorem qK{k:IntKind}{x:N}:CL .shr (.v (.sc (.dat (.int k x)))) (.v (.sc (.dat (.int .u64 16))))=E (.v (.sc (.dat (.int k (CH k x 16))))):=by simp[CL,B8,CH]
theorem zy{k:IntKind}{x:N}:B8 .shr k x 16=E (.int k (CH k x 16)):=by simp[B8,CH]
theorem qL{k:IntKind}{x:N}:CL .shr (.v (.sc (.dat (.int k x)))) (.v (.sc (.dat (.int .u64 32))))=E (.v (.sc (.dat (.int k (CH k x 32))))):=by simp[CL,B8,CH]
theorem zz{k:IntKind}{x:N}:B8 .shr k x 32=E (.int k (CH k x 32)):=by simp[B8,CH]
structure Xl where
 isS:O
 s:H Q
 n:N
 deriving DecidableEq
def P8(x:Xl):D:= .ifc (bif x.isS then 9 else 3) (bif x.isS then .str x.s else .int .i64 x.n)
theorem pM{t:TypeId}{zc:AC}{x:Xl}:GI t zc (.v (.sc (.dat (P8 x))))=GI t zc (.v (.sc (.dat (.ifc (bif x.isS then 9 else 3) (bif x.isS then .str x.s else .int .i64 x.n))))):=rfl
def rA(x:Xl):H D:= [P8 x]
theorem A4i(x:Xl):rA x= [P8 x]:=rfl
instance:Row rA 1:=⟨fun _=>rfl,V rfl⟩
structure Xd where
 Amp:N
 Period:N
 Phase:N
 deriving DecidableEq
def Xd.row(x:Xd):H D:= [.int .i64 x.Amp,.int .i64 x.Period,.int .i64 x.Phase]
theorem Xd.row_eq(x:Xd):Xd.row x= [.int .i64 x.Amp,.int .i64 x.Period,.int .i64 x.Phase]:=rfl
instance:Row Xd.row 3:=⟨fun _=>rfl,V rfl⟩
instance:FlatRow Xd.row:=⟨fun x d hd=>by simp only[Xd.row_eq,zA,I,or_false] at hd; rcases hd with rfl | rfl | rfl<;>rfl⟩
instance:OfTy (.st [(.int .i64),(.int .i64),(.int .i64)]) Xd.row:=⟨fun ds h=>by
 obtain⟨a0,b0,h0,t0,rfl⟩:=h;obtain⟨a1,b1,h1,t1,rfl⟩:=t0;obtain⟨a2,b2,h2,t2,rfl⟩:=t1;obtain rfl:=t2;obtain⟨x0,rfl⟩:=OfTy.of (row:=rI) _ h0;obtain⟨x1,rfl⟩:=OfTy.of (row:=rI) _ h1;obtain⟨x2,rfl⟩:=OfTy.of (row:=rI) _ h2;exact⟨⟨x0,x1,x2⟩,rfl⟩⟩
structure Xi where
 Mean:N
 Parts:H Xd
 deriving DecidableEq
def Xi.row(x:Xi):H D:= [.int .i64 x.Mean,.sl (W Xd.row x.Parts)]
theorem Xi.row_eq(x:Xi):Xi.row x= [.int .i64 x.Mean,.sl (W Xd.row x.Parts)]:=rfl
instance:Row Xi.row 2:=⟨fun _=>rfl,V rfl⟩
instance:OfTy (.st [(.int .i64),(.sl (.st [(.int .i64),(.int .i64),(.int .i64)]))]) Xi.row:=⟨fun ds h=>by
 obtain⟨a0,b0,h0,t0,rfl⟩:=h;obtain⟨a1,b1,h1,t1,rfl⟩:=t0;obtain rfl:=t1;obtain⟨x0,rfl⟩:=OfTy.of (row:=rI) _ h0;obtain⟨x1,rfl⟩:=OfTy.of (row:=(rL Xd.row)) _ h1;exact⟨⟨x0,x1⟩,rfl⟩⟩
structure Xb where
 From:N
 Low:N
 High:N
 deriving DecidableEq
def Xb.row(x:Xb):H D:= [.int .i64 x.From,.int .i64 x.Low,.int .i64 x.High]
theorem Xb.row_eq(x:Xb):Xb.row x= [.int .i64 x.From,.int .i64 x.Low,.int .i64 x.High]:=rfl
instance:Row Xb.row 3:=⟨fun _=>rfl,V rfl⟩
instance:FlatRow Xb.row:=⟨fun x d hd=>by simp only[Xb.row_eq,zA,I,or_false] at hd; rcases hd with rfl | rfl | rfl<;>rfl⟩
instance:OfTy (.st [(.int .i64),(.int .i64),(.int .i64)]) Xb.row:=⟨fun ds h=>by
 obtain⟨a0,b0,h0,t0,rfl⟩:=h;obtain⟨a1,b1,h1,t1,rfl⟩:=t0;obtain⟨a2,b2,h2,t2,rfl⟩:=t1;obtain rfl:=t2;obtain⟨x0,rfl⟩:=OfTy.of (row:=rI) _ h0;obtain⟨x1,rfl⟩:=OfTy.of (row:=rI) _ h1;obtain⟨x2,rfl⟩:=OfTy.of (row:=rI) _ h2;exact⟨⟨x0,x1,x2⟩,rfl⟩⟩
structure Xc where
 Tide:Xi
 Surges:H Xb
 deriving DecidableEq
def Xc.row(x:Xc):H D:= [.int .i64 x.Tide.Mean,.sl (W Xd.row x.Tide.Parts),.sl (W Xb.row x.Surges)]
theorem Xc.row_eq(x:Xc):Xc.row x= [.int .i64 x.Tide.Mean,.sl (W Xd.row x.Tide.Parts),.sl (W Xb.row x.Surges)]:=rfl
instance:Row Xc.row 3:=⟨fun _=>rfl,V rfl⟩
instance:OfTy (.st [(.st [(.int .i64),(.sl (.st [(.int .i64),(.int .i64),(.int .i64)]))]),(.sl (.st [(.int .i64),(.int .i64),(.int .i64)]))]) Xc.row:=⟨fun ds h=>by
 obtain⟨a0,b0,h0,t0,rfl⟩:=h;obtain⟨a1,b1,h1,t1,rfl⟩:=t0;obtain rfl:=t1;obtain⟨x0,rfl⟩:=OfTy.of (row:=Xi.row) _ h0;obtain⟨x1,rfl⟩:=OfTy.of (row:=(rL Xb.row)) _ h1;exact⟨⟨x0,x1⟩,rfl⟩⟩
structure X9 where
 Name:H Q
 Wait:O
 deriving DecidableEq
def X9.row(x:X9):H D:= [.str x.Name,.bool x.Wait]
theorem X9.row_eq(x:X9):X9.row x= [.str x.Name,.bool x.Wait]:=rfl
instance:Row X9.row 2:=⟨fun _=>rfl,V rfl⟩
instance:FlatRow X9.row:=⟨fun x d hd=>by simp only[X9.row_eq,zA,I,or_false] at hd; rcases hd with rfl | rfl<;>rfl⟩
instance:OfTy (.st [.str,.bool]) X9.row:=⟨fun ds h=>by
 obtain⟨a0,b0,h0,t0,rfl⟩:=h;obtain⟨a1,b1,h1,t1,rfl⟩:=t0;obtain rfl:=t1;obtain⟨x0,rfl⟩:=OfTy.of (row:=rS) _ h0;obtain⟨x1,rfl⟩:=OfTy.of (row:=rB) _ h1;exact⟨⟨x0,x1⟩,rfl⟩⟩
structure X3 where
 A:N
 B:N
 Depth:N
 Minutes:N
 Meet:O
 deriving DecidableEq
def X3.row(x:X3):H D:= [.int .i64 x.A,.int .i64 x.B,.int .i64 x.Depth,.int .i64 x.Minutes,.bool x.Meet]
theorem X3.row_eq(x:X3):X3.row x= [.int .i64 x.A,.int .i64 x.B,.int .i64 x.Depth,.int .i64 x.Minutes,.bool x.Meet]:=rfl
instance:Row X3.row 5:=⟨fun _=>rfl,V rfl⟩
instance:FlatRow X3.row:=⟨fun x d hd=>by simp only[X3.row_eq,zA,I,or_false] at hd; rcases hd with rfl | rfl | rfl | rfl | rfl<;>rfl⟩
instance:OfTy (.st [(.int .i64),(.int .i64),(.int .i64),(.int .i64),.bool]) X3.row:=⟨fun ds h=>by
 obtain⟨a0,b0,h0,t0,rfl⟩:=h;obtain⟨a1,b1,h1,t1,rfl⟩:=t0;obtain⟨a2,b2,h2,t2,rfl⟩:=t1;obtain⟨a3,b3,h3,t3,rfl⟩:=t2;obtain⟨a4,b4,h4,t4,rfl⟩:=t3;obtain rfl:=t4;obtain⟨x0,rfl⟩:=OfTy.of (row:=rI) _ h0;obtain⟨x1,rfl⟩:=OfTy.of (row:=rI) _ h1;obtain⟨x2,rfl⟩:=OfTy.of (row:=rI) _ h2;obtain⟨x3,rfl⟩:=OfTy.of (row:=rI) _ h3;obtain⟨x4,rfl⟩:=OfTy.of (row:=rB) _ h4;exact⟨⟨x0,x1,x2,x3,x4⟩,rfl⟩⟩
structure X6 where
 Points:H X9
 Segments:H X3
 deriving DecidableEq
def X6.row(x:X6):H D:= [.sl (W X9.row x.Points),.sl (W X3.row x.Segments)]
theorem X6.row_eq(x:X6):X6.row x= [.sl (W X9.row x.Points),.sl (W X3.row x.Segments)]:=rfl
instance:Row X6.row 2:=⟨fun _=>rfl,V rfl⟩
instance:OfTy (.st [(.sl (.st [.str,.bool])),(.sl (.st [(.int .i64),(.int .i64),(.int .i64),(.int .i64),.bool]))]) X6.row:=⟨fun ds h=>by
 obtain⟨a0,b0,h0,t0,rfl⟩:=h;obtain⟨a1,b1,h1,t1,rfl⟩:=t0;obtain rfl:=t1;obtain⟨x0,rfl⟩:=OfTy.of (row:=(rL X9.row)) _ h0;obtain⟨x1,rfl⟩:=OfTy.of (row:=(rL X3.row)) _ h1;exact⟨⟨x0,x1⟩,rfl⟩⟩
structure X5 where
 Name:H Q
 Length:N
 Draught:N
 Line:N
 Tugs:N
 Slow:O
 deriving DecidableEq
def X5.row(x:X5):H D:= [.str x.Name,.int .i64 x.Length,.int .i64 x.Draught,.int .i64 x.Line,.int .i64 x.Tugs,.bool x.Slow]
theorem X5.row_eq(x:X5):X5.row x= [.str x.Name,.int .i64 x.Length,.int .i64 x.Draught,.int .i64 x.Line,.int .i64 x.Tugs,.bool x.Slow]:=rfl
instance:Row X5.row 6:=⟨fun _=>rfl,V rfl⟩
instance:FlatRow X5.row:=⟨fun x d hd=>by simp only[X5.row_eq,zA,I,or_false] at hd; rcases hd with rfl | rfl | rfl | rfl | rfl | rfl<;>rfl⟩
instance:OfTy (.st [.str,(.int .i64),(.int .i64),(.int .i64),(.int .i64),.bool]) X5.row:=⟨fun ds h=>by
 obtain⟨a0,b0,h0,t0,rfl⟩:=h;obtain⟨a1,b1,h1,t1,rfl⟩:=t0;obtain⟨a2,b2,h2,t2,rfl⟩:=t1;obtain⟨a3,b3,h3,t3,rfl⟩:=t2;obtain⟨a4,b4,h4,t4,rfl⟩:=t3;obtain⟨a5,b5,h5,t5,rfl⟩:=t4;obtain rfl:=t5;obtain⟨x0,rfl⟩:=OfTy.of (row:=rS) _ h0;obtain⟨x1,rfl⟩:=OfTy.of (row:=rI) _ h1;obtain⟨x2,rfl⟩:=OfTy.of (row:=rI) _ h2;obtain⟨x3,rfl⟩:=OfTy.of (row:=rI) _ h3;obtain⟨x4,rfl⟩:=OfTy.of (row:=rI) _ h4;obtain⟨x5,rfl⟩:=OfTy.of (row:=rB) _ h5;exact⟨⟨x0,x1,x2,x3,x4,x5⟩,rfl⟩⟩
structure Xg where
 Gap:N
 NoMeet:O
 deriving DecidableEq
def Xg.row(x:Xg):H D:= [.int .i64 x.Gap,.bool x.NoMeet]
theorem Xg.row_eq(x:Xg):Xg.row x= [.int .i64 x.Gap,.bool x.NoMeet]:=rfl
instance:Row Xg.row 2:=⟨fun _=>rfl,V rfl⟩
instance:FlatRow Xg.row:=⟨fun x d hd=>by simp only[Xg.row_eq,zA,I,or_false] at hd; rcases hd with rfl | rfl<;>rfl⟩
instance:OfTy (.st [(.int .i64),.bool]) Xg.row:=⟨fun ds h=>by
 obtain⟨a0,b0,h0,t0,rfl⟩:=h;obtain⟨a1,b1,h1,t1,rfl⟩:=t0;obtain rfl:=t1;obtain⟨x0,rfl⟩:=OfTy.of (row:=rI) _ h0;obtain⟨x1,rfl⟩:=OfTy.of (row:=rB) _ h1;exact⟨⟨x0,x1⟩,rfl⟩⟩
structure Xj where
 Tugs:N
 Pilots:N
 Rest:N
 Moves:H N
 deriving DecidableEq
def Xj.row(x:Xj):H D:= [.int .i64 x.Tugs,.int .i64 x.Pilots,.int .i64 x.Rest,.sl (W rI x.Moves)]
theorem Xj.row_eq(x:Xj):Xj.row x= [.int .i64 x.Tugs,.int .i64 x.Pilots,.int .i64 x.Rest,.sl (W rI x.Moves)]:=rfl
instance:Row Xj.row 4:=⟨fun _=>rfl,V rfl⟩
instance:OfTy (.st [(.int .i64),(.int .i64),(.int .i64),(.sl (.int .i64))]) Xj.row:=⟨fun ds h=>by
 obtain⟨a0,b0,h0,t0,rfl⟩:=h;obtain⟨a1,b1,h1,t1,rfl⟩:=t0;obtain⟨a2,b2,h2,t2,rfl⟩:=t1;obtain⟨a3,b3,h3,t3,rfl⟩:=t2;obtain rfl:=t3;obtain⟨x0,rfl⟩:=OfTy.of (row:=rI) _ h0;obtain⟨x1,rfl⟩:=OfTy.of (row:=rI) _ h1;obtain⟨x2,rfl⟩:=OfTy.of (row:=rI) _ h2;obtain⟨x3,rfl⟩:=OfTy.of (row:=(rL rI)) _ h3;exact⟨⟨x0,x1,x2,x3⟩,rfl⟩⟩
structure X7 where
 Forecast:Xc
 Chart:X6
 Fleet:H X5
 Regime:Xg
 Crew:Xj
 deriving DecidableEq
def X7.row(x:X7):H D:= [.int .i64 x.Forecast.Tide.Mean,.sl (W Xd.row x.Forecast.Tide.Parts),.sl (W Xb.row x.Forecast.Surges),.sl (W X9.row x.Chart.Points),.sl (W X3.row x.Chart.Segments),.sl (W X5.row x.Fleet),.int .i64 x.Regime.Gap,.bool x.Regime.NoMeet,.int .i64 x.Crew.Tugs,.int .i64 x.Crew.Pilots,.int .i64 x.Crew.Rest,.sl (W rI x.Crew.Moves)]
theorem X7.row_eq(x:X7):X7.row x= [.int .i64 x.Forecast.Tide.Mean,.sl (W Xd.row x.Forecast.Tide.Parts),.sl (W Xb.row x.Forecast.Surges),.sl (W X9.row x.Chart.Points),.sl (W X3.row x.Chart.Segments),.sl (W X5.row x.Fleet),.int .i64 x.Regime.Gap,.bool x.Regime.NoMeet,.int .i64 x.Crew.Tugs,.int .i64 x.Crew.Pilots,.int .i64 x.Crew.Rest,.sl (W rI x.Crew.Moves)]:=rfl
instance:Row X7.row 12:=⟨fun _=>rfl,V rfl⟩
instance:OfTy (.st [(.st [(.st [(.int .i64),(.sl (.st [(.int .i64),(.int .i64),(.int .i64)]))]),(.sl (.st [(.int .i64),(.int .i64),(.int .i64)]))]),(.st [(.sl (.st [.str,.bool])),(.sl (.st [(.int .i64),(.int .i64),(.int .i64),(.int .i64),.bool]))]),(.sl (.st [.str,(.int .i64),(.int .i64),(.int .i64),(.int .i64),.bool])),(.st [(.int .i64),.bool]),(.st [(.int .i64),(.int .i64),(.int .i64),(.sl (.int .i64))])]) X7.row:=⟨fun ds h=>by
 obtain⟨a0,b0,h0,t0,rfl⟩:=h;obtain⟨a1,b1,h1,t1,rfl⟩:=t0;obtain⟨a2,b2,h2,t2,rfl⟩:=t1;obtain⟨a3,b3,h3,t3,rfl⟩:=t2;obtain⟨a4,b4,h4,t4,rfl⟩:=t3;obtain rfl:=t4;obtain⟨x0,rfl⟩:=OfTy.of (row:=Xc.row) _ h0;obtain⟨x1,rfl⟩:=OfTy.of (row:=X6.row) _ h1;obtain⟨x2,rfl⟩:=OfTy.of (row:=(rL X5.row)) _ h2;obtain⟨x3,rfl⟩:=OfTy.of (row:=Xg.row) _ h3;obtain⟨x4,rfl⟩:=OfTy.of (row:=Xj.row) _ h4;exact⟨⟨x0,x1,x2,x3,x4⟩,rfl⟩⟩
structure Xa where
 Ship:N
 From:N
 To:N
 Ready:N
 Due:N
 deriving DecidableEq
def Xa.row(x:Xa):H D:= [.int .i64 x.Ship,.int .i64 x.From,.int .i64 x.To,.int .i64 x.Ready,.int .i64 x.Due]
theorem Xa.row_eq(x:Xa):Xa.row x= [.int .i64 x.Ship,.int .i64 x.From,.int .i64 x.To,.int .i64 x.Ready,.int .i64 x.Due]:=rfl
instance:Row Xa.row 5:=⟨fun _=>rfl,V rfl⟩
instance:FlatRow Xa.row:=⟨fun x d hd=>by simp only[Xa.row_eq,zA,I,or_false] at hd; rcases hd with rfl | rfl | rfl | rfl | rfl<;>rfl⟩
instance:OfTy (.st [(.int .i64),(.int .i64),(.int .i64),(.int .i64),(.int .i64)]) Xa.row:=⟨fun ds h=>by
 obtain⟨a0,b0,h0,t0,rfl⟩:=h;obtain⟨a1,b1,h1,t1,rfl⟩:=t0;obtain⟨a2,b2,h2,t2,rfl⟩:=t1;obtain⟨a3,b3,h3,t3,rfl⟩:=t2;obtain⟨a4,b4,h4,t4,rfl⟩:=t3;obtain rfl:=t4;obtain⟨x0,rfl⟩:=OfTy.of (row:=rI) _ h0;obtain⟨x1,rfl⟩:=OfTy.of (row:=rI) _ h1;obtain⟨x2,rfl⟩:=OfTy.of (row:=rI) _ h2;obtain⟨x3,rfl⟩:=OfTy.of (row:=rI) _ h3;obtain⟨x4,rfl⟩:=OfTy.of (row:=rI) _ h4;exact⟨⟨x0,x1,x2,x3,x4⟩,rfl⟩⟩
structure X1 where
 Ship:N
 Segment:N
 Toward:O
 Start:N
 End:N
 deriving DecidableEq
def X1.row(x:X1):H D:= [.int .i64 x.Ship,.int .i64 x.Segment,.bool x.Toward,.int .i64 x.Start,.int .i64 x.End]
theorem X1.row_eq(x:X1):X1.row x= [.int .i64 x.Ship,.int .i64 x.Segment,.bool x.Toward,.int .i64 x.Start,.int .i64 x.End]:=rfl
instance:Row X1.row 5:=⟨fun _=>rfl,V rfl⟩
instance:FlatRow X1.row:=⟨fun x d hd=>by simp only[X1.row_eq,zA,I,or_false] at hd; rcases hd with rfl | rfl | rfl | rfl | rfl<;>rfl⟩
instance:OfTy (.st [(.int .i64),(.int .i64),.bool,(.int .i64),(.int .i64)]) X1.row:=⟨fun ds h=>by
 obtain⟨a0,b0,h0,t0,rfl⟩:=h;obtain⟨a1,b1,h1,t1,rfl⟩:=t0;obtain⟨a2,b2,h2,t2,rfl⟩:=t1;obtain⟨a3,b3,h3,t3,rfl⟩:=t2;obtain⟨a4,b4,h4,t4,rfl⟩:=t3;obtain rfl:=t4;obtain⟨x0,rfl⟩:=OfTy.of (row:=rI) _ h0;obtain⟨x1,rfl⟩:=OfTy.of (row:=rI) _ h1;obtain⟨x2,rfl⟩:=OfTy.of (row:=rB) _ h2;obtain⟨x3,rfl⟩:=OfTy.of (row:=rI) _ h3;obtain⟨x4,rfl⟩:=OfTy.of (row:=rI) _ h4;exact⟨⟨x0,x1,x2,x3,x4⟩,rfl⟩⟩
structure X2 where
 Start:N
 Arrival:N
 Cost:N
 Passages:H X1
 deriving DecidableEq
def X2.row(x:X2):H D:= [.int .i64 x.Start,.int .i64 x.Arrival,.int .i64 x.Cost,.sl (W X1.row x.Passages)]
theorem X2.row_eq(x:X2):X2.row x= [.int .i64 x.Start,.int .i64 x.Arrival,.int .i64 x.Cost,.sl (W X1.row x.Passages)]:=rfl
instance:Row X2.row 4:=⟨fun _=>rfl,V rfl⟩
instance:OfTy (.st [(.int .i64),(.int .i64),(.int .i64),(.sl (.st [(.int .i64),(.int .i64),.bool,(.int .i64),(.int .i64)]))]) X2.row:=⟨fun ds h=>by
 obtain⟨a0,b0,h0,t0,rfl⟩:=h;obtain⟨a1,b1,h1,t1,rfl⟩:=t0;obtain⟨a2,b2,h2,t2,rfl⟩:=t1;obtain⟨a3,b3,h3,t3,rfl⟩:=t2;obtain rfl:=t3;obtain⟨x0,rfl⟩:=OfTy.of (row:=rI) _ h0;obtain⟨x1,rfl⟩:=OfTy.of (row:=rI) _ h1;obtain⟨x2,rfl⟩:=OfTy.of (row:=rI) _ h2;obtain⟨x3,rfl⟩:=OfTy.of (row:=(rL X1.row)) _ h3;exact⟨⟨x0,x1,x2,x3⟩,rfl⟩⟩
structure X4 where
 From:N
 To:N
 deriving DecidableEq
def X4.row(x:X4):H D:= [.int .i64 x.From,.int .i64 x.To]
theorem X4.row_eq(x:X4):X4.row x= [.int .i64 x.From,.int .i64 x.To]:=rfl
instance:Row X4.row 2:=⟨fun _=>rfl,V rfl⟩
instance:FlatRow X4.row:=⟨fun x d hd=>by simp only[X4.row_eq,zA,I,or_false] at hd; rcases hd with rfl | rfl<;>rfl⟩
instance:OfTy (.st [(.int .i64),(.int .i64)]) X4.row:=⟨fun ds h=>by
 obtain⟨a0,b0,h0,t0,rfl⟩:=h;obtain⟨a1,b1,h1,t1,rfl⟩:=t0;obtain rfl:=t1;obtain⟨x0,rfl⟩:=OfTy.of (row:=rI) _ h0;obtain⟨x1,rfl⟩:=OfTy.of (row:=rI) _ h1;exact⟨⟨x0,x1⟩,rfl⟩⟩
structure X8 where
 From:N
 To:N
 A:N
 B:N
 deriving DecidableEq
def X8.row(x:X8):H D:= [.int .i64 x.From,.int .i64 x.To,.int .i64 x.A,.int .i64 x.B]
theorem X8.row_eq(x:X8):X8.row x= [.int .i64 x.From,.int .i64 x.To,.int .i64 x.A,.int .i64 x.B]:=rfl
instance:Row X8.row 4:=⟨fun _=>rfl,V rfl⟩
instance:FlatRow X8.row:=⟨fun x d hd=>by simp only[X8.row_eq,zA,I,or_false] at hd; rcases hd with rfl | rfl | rfl | rfl<;>rfl⟩
instance:OfTy (.st [(.int .i64),(.int .i64),(.int .i64),(.int .i64)]) X8.row:=⟨fun ds h=>by
 obtain⟨a0,b0,h0,t0,rfl⟩:=h;obtain⟨a1,b1,h1,t1,rfl⟩:=t0;obtain⟨a2,b2,h2,t2,rfl⟩:=t1;obtain⟨a3,b3,h3,t3,rfl⟩:=t2;obtain rfl:=t3;obtain⟨x0,rfl⟩:=OfTy.of (row:=rI) _ h0;obtain⟨x1,rfl⟩:=OfTy.of (row:=rI) _ h1;obtain⟨x2,rfl⟩:=OfTy.of (row:=rI) _ h2;obtain⟨x3,rfl⟩:=OfTy.of (row:=rI) _ h3;exact⟨⟨x0,x1,x2,x3⟩,rfl⟩⟩
structure Xh where
 waits:H O
 minutes:H N
 sure:H (H X4)
 deriving DecidableEq
def Xh.row(x:Xh):H D:= [.sl (W rB x.waits),.sl (W rI x.minutes),.sl (W (rL X4.row) x.sure)]
theorem Xh.row_eq(x:Xh):Xh.row x= [.sl (W rB x.waits),.sl (W rI x.minutes),.sl (W (rL X4.row) x.sure)]:=rfl
instance:Row Xh.row 3:=⟨fun _=>rfl,V rfl⟩
instance:OfTy (.st [(.sl .bool),(.sl (.int .i64)),(.sl (.sl (.st [(.int .i64),(.int .i64)])))]) Xh.row:=⟨fun ds h=>by
 obtain⟨a0,b0,h0,t0,rfl⟩:=h;obtain⟨a1,b1,h1,t1,rfl⟩:=t0;obtain⟨a2,b2,h2,t2,rfl⟩:=t1;obtain rfl:=t2;obtain⟨x0,rfl⟩:=OfTy.of (row:=(rL rB)) _ h0;obtain⟨x1,rfl⟩:=OfTy.of (row:=(rL rI)) _ h1;obtain⟨x2,rfl⟩:=OfTy.of (row:=(rL (rL X4.row))) _ h2;exact⟨⟨x0,x1,x2⟩,rfl⟩⟩
structure Xe where
 i0:O
 i1:O
 i2:O
 i3:O
 i4:O
 i5:O
 i6:O
 i7:O
 deriving DecidableEq
def Xe.row(x:Xe):H D:= [.bool x.i0,.bool x.i1,.bool x.i2,.bool x.i3,.bool x.i4,.bool x.i5,.bool x.i6,.bool x.i7]
theorem Xe.row_eq(x:Xe):Xe.row x= [.bool x.i0,.bool x.i1,.bool x.i2,.bool x.i3,.bool x.i4,.bool x.i5,.bool x.i6,.bool x.i7]:=rfl
instance:Row Xe.row 8:=⟨fun _=>rfl,V rfl⟩
def Xe.set(x:Xe)(n:P)(v:O):Xe:=⟨bif n==0 then v else x.i0,bif n==1 then v else x.i1,bif n==2 then v else x.i2,bif n==3 then v else x.i3,bif n==4 then v else x.i4,bif n==5 then v else x.i5,bif n==6 then v else x.i6,bif n==7 then v else x.i7⟩
theorem Xe.set_eq(x:Xe){n:P}{v:O}(h:n<8):BY (W AC.dat (Xe.row x)) n [.dat (.bool v)]=W AC.dat (Xe.row (Xe.set x n v)):=by
 match n,h with
 | 0,_=>rfl
 | 1,_=>rfl
 | 2,_=>rfl
 | 3,_=>rfl
 | 4,_=>rfl
 | 5,_=>rfl
 | 6,_=>rfl
 | 7,_=>rfl
instance:FlatRow Xe.row:=⟨fun x d hd=>by simp only[Xe.row_eq,zA,I,or_false] at hd; rcases hd with rfl | rfl | rfl | rfl | rfl | rfl | rfl | rfl<;>rfl⟩
instance:OfTy (.st [.bool,.bool,.bool,.bool,.bool,.bool,.bool,.bool]) Xe.row:=⟨fun ds h=>by
 obtain⟨a0,b0,h0,t0,rfl⟩:=h;obtain⟨a1,b1,h1,t1,rfl⟩:=t0;obtain⟨a2,b2,h2,t2,rfl⟩:=t1;obtain⟨a3,b3,h3,t3,rfl⟩:=t2;obtain⟨a4,b4,h4,t4,rfl⟩:=t3;obtain⟨a5,b5,h5,t5,rfl⟩:=t4;obtain⟨a6,b6,h6,t6,rfl⟩:=t5;obtain⟨a7,b7,h7,t7,rfl⟩:=t6;obtain rfl:=t7;obtain⟨x0,rfl⟩:=OfTy.of (row:=rB) _ h0;obtain⟨x1,rfl⟩:=OfTy.of (row:=rB) _ h1;obtain⟨x2,rfl⟩:=OfTy.of (row:=rB) _ h2;obtain⟨x3,rfl⟩:=OfTy.of (row:=rB) _ h3;obtain⟨x4,rfl⟩:=OfTy.of (row:=rB) _ h4;obtain⟨x5,rfl⟩:=OfTy.of (row:=rB) _ h5;obtain⟨x6,rfl⟩:=OfTy.of (row:=rB) _ h6;obtain⟨x7,rfl⟩:=OfTy.of (row:=rB) _ h7;exact⟨⟨x0,x1,x2,x3,x4,x5,x6,x7⟩,rfl⟩⟩
structure Xf where
 sets:H N
 most:N
 groups:H N
 who:H N
 deriving DecidableEq
def Xf.row(x:Xf):H D:= [.sl (W rU x.sets),.int .i64 x.most,.sl (W rU x.groups),.sl (W rI x.who)]
theorem Xf.row_eq(x:Xf):Xf.row x= [.sl (W rU x.sets),.int .i64 x.most,.sl (W rU x.groups),.sl (W rI x.who)]:=rfl
instance:Row Xf.row 4:=⟨fun _=>rfl,V rfl⟩
instance:OfTy (.st [(.sl (.int .u64)),(.int .i64),(.sl (.int .u64)),(.sl (.int .i64))]) Xf.row:=⟨fun ds h=>by
 obtain⟨a0,b0,h0,t0,rfl⟩:=h;obtain⟨a1,b1,h1,t1,rfl⟩:=t0;obtain⟨a2,b2,h2,t2,rfl⟩:=t1;obtain⟨a3,b3,h3,t3,rfl⟩:=t2;obtain rfl:=t3;obtain⟨x0,rfl⟩:=OfTy.of (row:=(rL rU)) _ h0;obtain⟨x1,rfl⟩:=OfTy.of (row:=rI) _ h1;obtain⟨x2,rfl⟩:=OfTy.of (row:=(rL rU)) _ h2;obtain⟨x3,rfl⟩:=OfTy.of (row:=(rL rI)) _ h3;exact⟨⟨x0,x1,x2,x3⟩,rfl⟩⟩
abbrev CI(x:Xf):H XC:= [.d (.sl (W rU x.sets)),.d (.int .i64 x.most),.r 0,.r 1]
abbrev CJ(x:Xf):AE:= [(1,W rU x.groups),(1,W rI x.who)]
def A5b:=Y @gy (Y @qM (Y @A0a (Y @qK (Y @zy (Y @qL (Y @zz (Y @pM (Y @A4i (Y @Xd.row_eq (Y @Xi.row_eq (Y @Xb.row_eq (Y @Xc.row_eq (Y @X9.row_eq (Y @X3.row_eq (Y @X6.row_eq (Y @X5.row_eq (Y @Xg.row_eq (Y @Xj.row_eq (Y @X7.row_eq (Y @Xa.row_eq (Y @X1.row_eq (Y @X2.row_eq (Y @X4.row_eq (Y @X8.row_eq (Y @Xh.row_eq (Y @Xe.row_eq (@Xf.row_eq)))))))))))))))))))))))))))
def J:=Y A5c (Y A5e (Y A5f (Y A5d A5b)))
/- laws_szPartS -/
def N3(a0:H Xd)(a1:N):L N:=
if(decide ((zB .i64 (a1 - (a0.length:N)))<(0:N))) then(
 E (-1:N))
else(
 E (zB .i64 (a1 - (a0.length:N))))
/- laws_szTide -/
def S9(a0:Xi)(a1:N):L N:=
(N3 a0.Parts a1).bind fun r1=>
if(decide (r1<(0:N))) then(
 E (-1:N))
else(
 E r1)
/- laws_szSurgeS -/
def N9(a0:H Xb)(a1:N):L N:=
if(decide ((zB .i64 (a1 - (a0.length:N)))<(0:N))) then(
 E (-1:N))
else(
 E (zB .i64 (a1 - (a0.length:N))))
/- laws_szForecast -/
def MY(a0:Xc)(a1:N):L N:=
(S9 a0.Tide a1).bind fun r1=>
if(decide (r1<(0:N))) then(
 E (-1:N))
else(
 (N9 a0.Surges r1).bind fun r3=>
 if(decide (r3<(0:N))) then(
 E (-1:N))
 else(
 E r3))
/- laws_szPoint -/
def N4(a0:X9)(a1:N):L N:=
if(decide ((zB .i64 (a1 - (a0.Name.length:N)))<(0:N))) then(
 E (-1:N))
else(
 E (zB .i64 (a1 - (a0.Name.length:N))))
/- laws_szPointS -/
def G0(a0:H X9):P→N→N→L N
| 0,_,_=>G
| n+1,v2,v3=>
 if(decide (v3<(a0.length:N))) then(
 (ix a0 v3).bind fun x5=>
 (N4 x5 v2).bind fun r6=>
 if(decide (r6<(0:N))) then(
  E (-1:N))
 else(
  G0 a0 n r6 (zB .i64 (v3+(1:N)))))
 else(
 E v2)
def N5(a0:H X9)(a1:N):L N:=
if(decide ((zB .i64 (a1 - (a0.length:N)))<(0:N))) then(
 E (-1:N))
else(
 G0 a0 bigN (zB .i64 (a1 - (a0.length:N))) (0:N))
/- laws_szSegmentS -/
def N6(a0:H X3)(a1:N):L N:=
if(decide ((zB .i64 (a1 - (a0.length:N)))<(0:N))) then(
 E (-1:N))
else(
 E (zB .i64 (a1 - (a0.length:N))))
/- laws_szChart -/
def MX(a0:X6)(a1:N):L N:=
(N5 a0.Points a1).bind fun r1=>
if(decide (r1<(0:N))) then(
 E (-1:N))
else(
 (N6 a0.Segments r1).bind fun r3=>
 if(decide (r3<(0:N))) then(
 E (-1:N))
 else(
 E r3))
/- laws_szShip -/
def N7(a0:X5)(a1:N):L N:=
if(decide ((zB .i64 (a1 - (a0.Name.length:N)))<(0:N))) then(
 E (-1:N))
else(
 E (zB .i64 (a1 - (a0.Name.length:N))))
/- laws_szShipS -/
def G1(a0:H X5):P→N→N→L N
| 0,_,_=>G
| n+1,v2,v3=>
 if(decide (v3<(a0.length:N))) then(
 (ix a0 v3).bind fun x5=>
 (N7 x5 v2).bind fun r6=>
 if(decide (r6<(0:N))) then(
  E (-1:N))
 else(
  G1 a0 n r6 (zB .i64 (v3+(1:N)))))
 else(
 E v2)
def N8(a0:H X5)(a1:N):L N:=
if(decide ((zB .i64 (a1 - (a0.length:N)))<(0:N))) then(
 E (-1:N))
else(
 G1 a0 bigN (zB .i64 (a1 - (a0.length:N))) (0:N))
/- laws_szIntS -/
def N0(a0:H N)(a1:N):L N:=
if(decide ((zB .i64 (a1 - (a0.length:N)))<(0:N))) then(
 E (-1:N))
else(
 E (zB .i64 (a1 - (a0.length:N))))
/- laws_szCrew -/
def S7(a0:Xj)(a1:N):L N:=
(N0 a0.Moves a1).bind fun r1=>
if(decide (r1<(0:N))) then(
 E (-1:N))
else(
 E r1)
/- laws_szHarbour -/
def MZ(a0:X7)(a1:N):L N:=
(MY a0.Forecast a1).bind fun r1=>
if(decide (r1<(0:N))) then(
 E (-1:N))
else(
 (MX a0.Chart r1).bind fun r3=>
 if(decide (r3<(0:N))) then(
 E (-1:N))
 else(
 (N8 a0.Fleet r3).bind fun r5=>
 if(decide (r5<(0:N))) then(
  E (-1:N))
 else(
  (S7 a0.Crew r5).bind fun r7=>
  if(decide (r7<(0:N))) then(
  E (-1:N))
  else(
  E r7))))
/- laws_szCallS -/
def MW(a0:H Xa)(a1:N):L N:=
if(decide ((zB .i64 (a1 - (a0.length:N)))<(0:N))) then(
 E (-1:N))
else(
 E (zB .i64 (a1 - (a0.length:N))))
/- laws_szPassageS -/
def S8(a0:H X1)(a1:N):L N:=
if(decide ((zB .i64 (a1 - (a0.length:N)))<(0:N))) then(
 E (-1:N))
else(
 E (zB .i64 (a1 - (a0.length:N))))
/- laws_szOption -/
def N1(a0:X2)(a1:N):L N:=
(S8 a0.Passages a1).bind fun r1=>
if(decide (r1<(0:N))) then(
 E (-1:N))
else(
 E r1)
/- laws_szOptionS -/
def FZ(a0:H X2):P→N→N→L N
| 0,_,_=>G
| n+1,v2,v3=>
 if(decide (v3<(a0.length:N))) then(
 (ix a0 v3).bind fun x5=>
 (N1 x5 v2).bind fun r6=>
 if(decide (r6<(0:N))) then(
  E (-1:N))
 else(
  FZ a0 n r6 (zB .i64 (v3+(1:N)))))
 else(
 E v2)
def N2(a0:H X2)(a1:N):L N:=
if(decide ((zB .i64 (a1 - (a0.length:N)))<(0:N))) then(
 E (-1:N))
else(
 FZ a0 bigN (zB .i64 (a1 - (a0.length:N))) (0:N))
/- laws_toPart -/
def Sc(a0:Xd):L Xd:=
E a0
/- laws_toPartS -/
def I3(a0:H Xd):P→N→(H Xd)→L (H Xd)
| 0,_,_=>G
| n+1,v2,v3=>
 if(decide (v2<(a0.length:N))) then(
 (ix a0 v2).bind fun x5=>
 (Sc x5).bind fun r6=>
 (ix v3 v2).bind fun x7=>
 I3 a0 n (zB .i64 (v2+(1:N))) (v3.set (U v2) r6))
 else(
 E v3)
def Nf(a0:H Xd):L (H Xd):=
(C9 (a0.length:N) (a0.length:N) 24).bind fun n1=>
I3 a0 bigN (0:N) (Z n1 (⟨(0:N),(0:N),(0:N)⟩:Xd))
/- laws_toTide -/
def Sj(a0:Xi):L Xi:=
(Nf a0.Parts).bind fun r1=>
E (⟨a0.Mean,r1⟩:Xi)
/- laws_toSurge -/
def Si(a0:Xb):L Xb:=
E a0
/- laws_toSurgeS -/
def I8(a0:H Xb):P→N→(H Xb)→L (H Xb)
| 0,_,_=>G
| n+1,v2,v3=>
 if(decide (v2<(a0.length:N))) then(
 (ix a0 v2).bind fun x5=>
 (Si x5).bind fun r6=>
 (ix v3 v2).bind fun x7=>
 I8 a0 n (zB .i64 (v2+(1:N))) (v3.set (U v2) r6))
 else(
 E v3)
def Nk(a0:H Xb):L (H Xb):=
(C9 (a0.length:N) (a0.length:N) 24).bind fun n1=>
I8 a0 bigN (0:N) (Z n1 (⟨(0:N),(0:N),(0:N)⟩:Xb))
/- laws_toForecast -/
def Nb(a0:Xc):L Xc:=
(Sj a0.Tide).bind fun r1=>
(Nk a0.Surges).bind fun r2=>
E (⟨r1,r2⟩:Xc)
/- laws_toPoint -/
def Se(a0:X9):L X9:=
E a0
/- laws_toPointS -/
def I5(a0:H X9):P→N→(H X9)→L (H X9)
| 0,_,_=>G
| n+1,v2,v3=>
 if(decide (v2<(a0.length:N))) then(
 (ix a0 v2).bind fun x5=>
 (Se x5).bind fun r6=>
 (ix v3 v2).bind fun x7=>
 I5 a0 n (zB .i64 (v2+(1:N))) (v3.set (U v2) r6))
 else(
 E v3)
def Nh(a0:H X9):L (H X9):=
(C9 (a0.length:N) (a0.length:N) 24).bind fun n1=>
I5 a0 bigN (0:N) (Z n1 (⟨([]:H Q),F⟩:X9))
/- laws_toSegment -/
def Sg(a0:X3):L X3:=
E a0
/- laws_toSegmentS -/
def I6(a0:H X3):P→N→(H X3)→L (H X3)
| 0,_,_=>G
| n+1,v2,v3=>
 if(decide (v2<(a0.length:N))) then(
 (ix a0 v2).bind fun x5=>
 (Sg x5).bind fun r6=>
 (ix v3 v2).bind fun x7=>
 I6 a0 n (zB .i64 (v2+(1:N))) (v3.set (U v2) r6))
 else(
 E v3)
def Ni(a0:H X3):L (H X3):=
(C9 (a0.length:N) (a0.length:N) 40).bind fun n1=>
I6 a0 bigN (0:N) (Z n1 (⟨(0:N),(0:N),(0:N),(0:N),F⟩:X3))
/- laws_toChart -/
def Na(a0:X6):L X6:=
(Nh a0.Points).bind fun r1=>
(Ni a0.Segments).bind fun r2=>
E (⟨r1,r2⟩:X6)
/- laws_toShip -/
def Sh(a0:X5):L X5:=
E a0
/- laws_toShipS -/
def I7(a0:H X5):P→N→(H X5)→L (H X5)
| 0,_,_=>G
| n+1,v2,v3=>
 if(decide (v2<(a0.length:N))) then(
 (ix a0 v2).bind fun x5=>
 (Sh x5).bind fun r6=>
 (ix v3 v2).bind fun x7=>
 I7 a0 n (zB .i64 (v2+(1:N))) (v3.set (U v2) r6))
 else(
 E v3)
def Nj(a0:H X5):L (H X5):=
(C9 (a0.length:N) (a0.length:N) 56).bind fun n1=>
I7 a0 bigN (0:N) (Z n1 (⟨([]:H Q),(0:N),(0:N),(0:N),(0:N),F⟩:X5))
/- laws_toRegime -/
def Sf(a0:Xg):L Xg:=
E a0
/- laws_toIntS -/
def I1(a0:H N):P→N→(H N)→L (H N)
| 0,_,_=>G
| n+1,v2,v3=>
 if(decide (v2<(a0.length:N))) then(
 (ix a0 v2).bind fun x5=>
 (ix v3 v2).bind fun x6=>
 I1 a0 n (zB .i64 (v2+(1:N))) (v3.set (U v2) x5))
 else(
 E v3)
def Nc(a0:H N):L (H N):=
(C9 (a0.length:N) (a0.length:N) 8).bind fun n1=>
I1 a0 bigN (0:N) (Z n1 (0:N))
/- laws_toCrew -/
def Sb(a0:Xj):L Xj:=
(Nc a0.Moves).bind fun r1=>
E (⟨a0.Tugs,a0.Pilots,a0.Rest,r1⟩:Xj)
/- laws_toHarbour -/
def G3(a0:X7):L X7:=
(Nb a0.Forecast).bind fun r1=>
(Na a0.Chart).bind fun r2=>
(Nj a0.Fleet).bind fun r3=>
(Sf a0.Regime).bind fun r4=>
(Sb a0.Crew).bind fun r5=>
E (⟨r1,r2,r3,r4,r5⟩:X7)
/- laws_toCall -/
def Sa(a0:Xa):L Xa:=
E a0
/- laws_toCallS -/
def I0(a0:H Xa):P→N→(H Xa)→L (H Xa)
| 0,_,_=>G
| n+1,v2,v3=>
 if(decide (v2<(a0.length:N))) then(
 (ix a0 v2).bind fun x5=>
 (Sa x5).bind fun r6=>
 (ix v3 v2).bind fun x7=>
 I0 a0 n (zB .i64 (v2+(1:N))) (v3.set (U v2) r6))
 else(
 E v3)
def G2(a0:H Xa):L (H Xa):=
(C9 (a0.length:N) (a0.length:N) 40).bind fun n1=>
I0 a0 bigN (0:N) (Z n1 (⟨(0:N),(0:N),(0:N),(0:N),(0:N)⟩:Xa))
/- laws_toPassage -/
def Sd(a0:X1):L X1:=
E a0
/- laws_toPassageS -/
def I4(a0:H X1):P→N→(H X1)→L (H X1)
| 0,_,_=>G
| n+1,v2,v3=>
 if(decide (v2<(a0.length:N))) then(
 (ix a0 v2).bind fun x5=>
 (Sd x5).bind fun r6=>
 (ix v3 v2).bind fun x7=>
 I4 a0 n (zB .i64 (v2+(1:N))) (v3.set (U v2) r6))
 else(
 E v3)
def Ng(a0:H X1):L (H X1):=
(C9 (a0.length:N) (a0.length:N) 40).bind fun n1=>
I4 a0 bigN (0:N) (Z n1 (⟨(0:N),(0:N),F,(0:N),(0:N)⟩:X1))
/- laws_toOption -/
def Nd(a0:X2):L X2:=
(Ng a0.Passages).bind fun r1=>
E (⟨a0.Start,a0.Arrival,a0.Cost,r1⟩:X2)
/- laws_toOptionS -/
def I2(a0:H X2):P→N→(H X2)→L (H X2)
| 0,_,_=>G
| n+1,v2,v3=>
 if(decide (v2<(a0.length:N))) then(
 (ix a0 v2).bind fun x5=>
 (Nd x5).bind fun r6=>
 (ix v3 v2).bind fun x7=>
 I2 a0 n (zB .i64 (v2+(1:N))) (v3.set (U v2) r6))
 else(
 E v3)
def G4(a0:H X2):L (H X2):=
(C9 (a0.length:N) (a0.length:N) 48).bind fun n1=>
I2 a0 bigN (0:N) (Z n1 (⟨(0:N),(0:N),(0:N),([]:H X1)⟩:X2))
/- spec_l01In -/
def AM(a0 a1 a2:N):L O:=
if(decide (a1≤a0)) then(
 E (decide (a0≤a2)))
else(
 E F)
/- spec_PartOk -/
def NC(a0:Xd):L O:=
(AM a0.Amp (0:N) (1000:N)).bind fun r1=>
if r1 then(
 (AM a0.Period (4:N) (2880:N)).bind fun r3=>
 if r3 then(
 if((zB .i64 (C a0.Period (4:N)))==(0:N)) then(
  (AM a0.Phase (0:N) (zB .i64 (a0.Period - (1:N)))).bind fun r6=>
  E r6)
 else(
  E F))
 else(
 E F))
else(
 E F)
/- spec_TideOk -/
def IA(a0:Xi):P→N→L O
| 0,_=>G
| n+1,v4=>
 if(decide (v4<(a0.Parts.length:N))) then(
 (ix a0.Parts v4).bind fun x6=>
 (NC x6).bind fun r7=>
 if r7 then(
  IA a0 n (zB .i64 (v4+(1:N))))
 else(
  E F))
 else(
 E T)
def NO(a0:Xi):L O:=
(AM a0.Mean (-1000:N) (1000:N)).bind fun r1=>
if r1 then(
 if(decide ((4:N)<(a0.Parts.length:N))) then(
 E F)
 else(
 IA a0 bigN (0:N)))
else(
 E F)
/- spec_SurgeOk -/
def NN(a0:Xb):L O:=
(AM a0.From (0:N) (2880:N)).bind fun r1=>
if r1 then(
 (AM a0.Low (-500:N) (500:N)).bind fun r3=>
 if r3 then(
 (AM a0.High a0.Low (500:N)).bind fun r5=>
 E r5)
 else(
 E F))
else(
 E F)
/- spec_ForecastOk -/
def G5(a0:Xc):P→N→L O
| 0,_=>G
| n+1,v7=>
 if(decide (v7<(a0.Surges.length:N))) then(
 (ix a0.Surges v7).bind fun x9=>
 (NN x9).bind fun r10=>
 if r10 then(
  if(decide ((0:N)<v7)) then(
  (ix a0.Surges (zB .i64 (v7 - (1:N)))).bind fun x13=>
  if(decide (x9.From≤x13.From)) then(
   E F)
  else(
   G5 a0 n (zB .i64 (v7+(1:N)))))
  else(
  G5 a0 n (zB .i64 (v7+(1:N)))))
 else(
  E F))
 else(
 E T)
def Ik(a0:Xc):L O:=
(NO a0.Tide).bind fun r1=>
if r1 then(
 (AM (a0.Surges.length:N) (1:N) (6:N)).bind fun r3=>
 if r3 then(
 (ix a0.Surges (0:N)).bind fun x5=>
 if(x5.From !=(0:N)) then(
  E F)
 else(
  G5 a0 bigN (0:N)))
 else(
 E F))
else(
 E F)
/- spec_IsName -/
def Nx(a0:H Q)(v1:N)(Ep:N→L O):L O:=
Ep (zB .i64 (v1+(1:N)))
def Nw(a0:H Q)(v1:N)(Ep:N→L O)(v5:O):L O:=
if v5 then(
 Nx a0 v1 Ep)
else(
 if(v1==(0:N)) then(
 E F)
 else(
 (ix a0 v1).bind fun b8=>
 if(decide ((b8.toNat:N)<(48:N))) then(
  E F)
 else(
  if(decide ((57:N)<(b8.toNat:N))) then(
  E F)
  else(
  Nx a0 v1 Ep))))
def G7(a0:H Q):P→N→L O
| 0,_=>G
| n+1,v1=>
 if(decide (v1<(a0.length:N))) then(
 (ix a0 v1).bind fun b3=>
 if(decide ((97:N)≤(b3.toNat:N))) then(
  Nw a0 v1 (G7 a0 n) (decide ((b3.toNat:N)≤(122:N))))
 else(
  Nw a0 v1 (G7 a0 n) F))
 else(
 (AM (a0.length:N) (1:N) (8:N)).bind fun r11=>
 E r11)
def Kh(a0:H Q):L O:=
G7 a0 bigN (0:N)
/- spec_PointNamed -/
def It(a1:H Q)(a0:X6):P→N→L N
| 0,_=>G
| n+1,v1=>
 if(decide (v1<(a0.Points.length:N))) then(
 (ix a0.Points v1).bind fun x3=>
 if(x3.Name==a1) then(
  E v1)
 else(
  It a1 a0 n (zB .i64 (v1+(1:N)))))
 else(
 E (-1:N))
def NI(a0:X6)(a1:H Q):L N:=
It a1 a0 bigN (0:N)
/- spec_l05Joins -/
def NV(a0:X3)(a1 a2:N):L O:=
if(a0.A==a1) then(
 if(a0.B==a2) then(
 E T)
 else(
 if(a0.A==a2) then(
  E (a0.B==a1))
 else(
  E F)))
else(
 if(a0.A==a2) then(
 E (a0.B==a1))
 else(
 E F))
/- spec_ChartOk -/
def Ie(a0:X6)(v11:N)(x13:X3)(y24:H X3)(y25:N)(Og:N→L O):P→N→L O
| 0,_=>G
| n+1,v26=>
 if(decide (v26<y25)) then(
 (ix y24 v26).bind fun x28=>
 (NV x28 x13.A x13.B).bind fun r29=>
 if r29 then(
  E F)
 else(
  Ie a0 v11 x13 y24 y25 Og n (zB .i64 (v26+(1:N)))))
 else(
 Og (zB .i64 (v11+(1:N))))
def Eg(a0:X6):P→N→L O
| 0,_=>G
| n+1,v11=>
 if(decide (v11<(a0.Segments.length:N))) then(
 (ix a0.Segments v11).bind fun x13=>
 (AM x13.A (0:N) (zB .i64 ((a0.Points.length:N) - (1:N)))).bind fun r14=>
 if r14 then(
  (AM x13.B (0:N) (zB .i64 ((a0.Points.length:N) - (1:N)))).bind fun r16=>
  if r16 then(
  if(x13.A==x13.B) then(
   E F)
  else(
   (AM x13.Depth (0:N) (3000:N)).bind fun r19=>
   if r19 then(
   (AM x13.Minutes (1:N) (240:N)).bind fun r21=>
   if r21 then(
    (bnd (a0.Segments.length:N) v11 (0:N) a0.Segments.length).bind fun p23=>
    Ie a0 v11 x13 ((a0.Segments.drop p23.1).take (p23.2 - p23.1)) (((a0.Segments.drop p23.1).take (p23.2 - p23.1)).length:N) (Eg a0 n) bigN (0:N))
   else(
    E F))
   else(
   E F)))
  else(
  E F))
 else(
  E F))
 else(
 E T)
def Ic(a0:X6):P→N→L O
| 0,_=>G
| n+1,v3=>
 if(decide (v3<(a0.Points.length:N))) then(
 (ix a0.Points v3).bind fun x5=>
 (Kh x5.Name).bind fun r6=>
 if r6 then(
  (NI a0 x5.Name).bind fun r9=>
  if(r9 !=v3) then(
  E F)
  else(
  Ic a0 n (zB .i64 (v3+(1:N)))))
 else(
  E F))
 else(
 Eg a0 bigN (0:N))
def Dq(a0:X6):L O:=
if(decide ((8:N)<(a0.Points.length:N))) then(
 E F)
else(
 if(decide ((10:N)<(a0.Segments.length:N))) then(
 E F)
 else(
 Ic a0 bigN (0:N)))
/- spec_ShipOk -/
def Dr(a0:X5):L O:=
(Kh a0.Name).bind fun r1=>
if r1 then(
 (AM a0.Length (10:N) (400:N)).bind fun r3=>
 if r3 then(
 (AM a0.Draught (100:N) (2000:N)).bind fun r5=>
 if r5 then(
  (AM a0.Line (0:N) (3:N)).bind fun r7=>
  if r7 then(
  (AM a0.Tugs (0:N) (4:N)).bind fun r9=>
  E r9)
  else(
  E F))
 else(
  E F))
 else(
 E F))
else(
 E F)
/- spec_ShipNamed -/
def Iz(a1:H Q)(a0:H X5):P→N→L N
| 0,_=>G
| n+1,v1=>
 if(decide (v1<(a0.length:N))) then(
 (ix a0 v1).bind fun x3=>
 if(x3.Name==a1) then(
  E v1)
 else(
  Iz a1 a0 n (zB .i64 (v1+(1:N)))))
 else(
 E (-1:N))
def NL(a0:H X5)(a1:H Q):L N:=
Iz a1 a0 bigN (0:N)
/- spec_FleetOk -/
def Ij(a0:H X5):P→N→L O
| 0,_=>G
| n+1,v2=>
 if(decide (v2<(a0.length:N))) then(
 (ix a0 v2).bind fun x4=>
 (Dr x4).bind fun r5=>
 if r5 then(
  (NL a0 x4.Name).bind fun r7=>
  if(r7 !=v2) then(
  E F)
  else(
  Ij a0 n (zB .i64 (v2+(1:N)))))
 else(
  E F))
 else(
 E T)
def Kb(a0:H X5):L O:=
if(decide ((6:N)<(a0.length:N))) then(
 E F)
else(
 Ij a0 bigN (0:N))
/- spec_RegimeOk -/
def Iu(a0:Xg):L O:=
(AM a0.Gap (0:N) (60:N)).bind fun r1=>
E r1
/- spec_l13Table -/
def Gk(a1:H N):P→N→L O
| 0,_=>G
| n+1,v4=>
 if(decide (v4<(a1.length:N))) then(
 (ix a1 v4).bind fun x6=>
 (AM x6 (0:N) (240:N)).bind fun r7=>
 if r7 then(
  Gk a1 n (zB .i64 (v4+(1:N))))
 else(
  E F))
 else(
 E T)
def Gj(a0:N)(a1:H N):L O:=
(AM a0 (0:N) (2880:N)).bind fun r1=>
if r1 then(
 if((a1.length:N) !=(64:N)) then(
 E F)
 else(
 Gk a1 bigN (0:N)))
else(
 E F)
/- spec_CrewOk -/
def Ig(a0:Xj):L O:=
(AM a0.Tugs (0:N) (12:N)).bind fun r1=>
if r1 then(
 (AM a0.Pilots (0:N) (12:N)).bind fun r3=>
 if r3 then(
 (Gj a0.Rest a0.Moves).bind fun r5=>
 E r5)
 else(
 E F))
else(
 E F)
/- spec_HarbourOk -/
def Kg(a0:X7):L O:=
(Ik a0.Forecast).bind fun r1=>
if r1 then(
 (Dq a0.Chart).bind fun r3=>
 if r3 then(
 (Kb a0.Fleet).bind fun r5=>
 if r5 then(
  (Iu a0.Regime).bind fun r7=>
  if r7 then(
  (Ig a0.Crew).bind fun r9=>
  E r9)
  else(
  E F))
 else(
  E F))
 else(
 E F))
else(
 E F)
/- spec_CallOk -/
def Ia(a0:X7)(a1:Xa):L O:=
(Kg a0).bind fun r1=>
if r1 then(
 (AM a1.Ship (0:N) (zB .i64 ((a0.Fleet.length:N) - (1:N)))).bind fun r3=>
 if r3 then(
 (AM a1.From (0:N) (zB .i64 ((a0.Chart.Points.length:N) - (1:N)))).bind fun r5=>
 if r5 then(
  (AM a1.To (0:N) (zB .i64 ((a0.Chart.Points.length:N) - (1:N)))).bind fun r7=>
  if r7 then(
  if(a1.From !=a1.To) then(
   (AM a1.Ready (0:N) (2880:N)).bind fun r10=>
   if r10 then(
   (AM a1.Due a1.Ready (2880:N)).bind fun r12=>
   E r12)
   else(
   E F))
  else(
   E F))
  else(
  E F))
 else(
  E F))
 else(
 E F))
else(
 E F)
/- spec_CallsOk -/
def K9(a1:H Xa)(v4:N)(a0:X7)(x6:Xa)(y10:H Xa)(y11:N)(Of:N→L O):P→N→L O
| 0,_=>G
| n+1,v12=>
 if(decide (v12<y11)) then(
 (ix y10 v12).bind fun x14=>
 if(x6.Ship==x14.Ship) then(
  E F)
 else(
  K9 a1 v4 a0 x6 y10 y11 Of n (zB .i64 (v12+(1:N)))))
 else(
 Of (zB .i64 (v4+(1:N))))
def K7(a1:H Xa)(a0:X7):P→N→L O
| 0,_=>G
| n+1,v4=>
 if(decide (v4<(a1.length:N))) then(
 (ix a1 v4).bind fun x6=>
 (Ia a0 x6).bind fun r7=>
 if r7 then(
  (bnd (a1.length:N) v4 (0:N) a1.length).bind fun p9=>
  K9 a1 v4 a0 x6 ((a1.drop p9.1).take (p9.2 - p9.1)) (((a1.drop p9.1).take (p9.2 - p9.1)).length:N) (K7 a1 a0 n) bigN (0:N))
 else(
  E F))
 else(
 E T)
def Np(a0:X7)(a1:H Xa):L O:=
(Kg a0).bind fun r1=>
if r1 then(
 if(decide ((6:N)<(a1.length:N))) then(
 E F)
 else(
 K7 a1 a0 bigN (0:N)))
else(
 E F)
/- spec_l05Other -/
def Sr(a0:X3)(a1:N):L N:=
if(a1==a0.A) then(
 E a0.B)
else(
 if(a1==a0.B) then(
 E a0.A)
 else(
 E (-1:N)))
/- spec_l05Has -/
def IE(a1:N)(a0:H N):P→N→L O
| 0,_=>G
| n+1,v1=>
 if(decide (v1<(a0.length:N))) then(
 (ix a0 v1).bind fun x3=>
 if(x3==a1) then(
  E T)
 else(
  IE a1 a0 n (zB .i64 (v1+(1:N)))))
 else(
 E F)
def NU(a0:H N)(a1:N):L O:=
IE a1 a0 bigN (0:N)
/- spec_l05Points -/
def IF(r9:N)(a2:H N)(v1:N)(a0:X6)(v2:H N)(SZ:N→(H N)→L ((H N) × O))(v12:O):L ((H N) × O):=
if v12 then(
 E (([]:H N),F))
else(
 if AJ v2.length ([r9]:H N).length 8 then(
 SZ (zB .i64 (v1+(1:N))) (v2++([r9]:H N)))
 else G)
def Gf(a2:H N)(a0:X6):P→N→(H N)→L ((H N) × O)
| 0,_,_=>G
| n+1,v1,v2=>
 if(decide (v1<(a2.length:N))) then(
 (ix a2 v1).bind fun x4=>
 (AM x4 (0:N) (zB .i64 ((a0.Segments.length:N) - (1:N)))).bind fun r5=>
 if r5 then(
  (ix a0.Segments x4).bind fun x7=>
  (ix v2 (zB .i64 ((v2.length:N) - (1:N)))).bind fun x8=>
  (Sr x7 x8).bind fun r9=>
  if(decide (r9<(0:N))) then(
  IF r9 a2 v1 a0 v2 (Gf a2 a0 n) T)
  else(
  (NU v2 r9).bind fun r11=>
  IF r9 a2 v1 a0 v2 (Gf a2 a0 n) r11))
 else(
  E (([]:H N),F)))
 else(
 E (v2,T))
def Kr(a0:X6)(a1:N)(a2:H N):L ((H N) × O):=
Gf a2 a0 bigN (0:N) ([a1]:H N)
/- spec_RouteOk -/
def Gc(a0:X6)(a1:N)(a2:H N):L O:=
(Dq a0).bind fun r1=>
if r1 then(
 (AM a1 (0:N) (zB .i64 ((a0.Points.length:N) - (1:N)))).bind fun r3=>
 if r3 then(
 (Kr a0 a1 a2).bind fun r5=>
 E r5.2)
 else(
 E F))
else(
 E F)
/- spec_RoutePoints -/
def Gd(a0:X6)(a1:N)(a2:H N):L (H N):=
(Gc a0 a1 a2).bind fun r1=>
if r1 then(
 (Kr a0 a1 a2).bind fun r3=>
 E r3.1)
else(
 E ([]:H N))
/- spec_l15Leads -/
def Sx(a0:X7)(a1:Xa)(a2:H N):L O:=
(Gd a0.Chart a1.From a2).bind fun r1=>
if(decide ((1:N)<(r1.length:N))) then(
 (ix r1 (zB .i64 ((r1.length:N) - (1:N)))).bind fun x3=>
 E (x3==a1.To))
else(
 E F)
/- spec_l07Ok -/
def IG(a0:X6)(a1:N)(a2:X5):L O:=
(Dq a0).bind fun r1=>
if r1 then(
 (Dr a2).bind fun r3=>
 if r3 then(
 (AM a1 (0:N) (zB .i64 ((a0.Segments.length:N) - (1:N)))).bind fun r5=>
 E r5)
 else(
 E F))
else(
 E F)
/- spec_SquatOf -/
def Sq(a0:X5):L N:=
(Dr a0).bind fun r1=>
if r1 then(
 if a0.Slow then(
 E (zB .i64 (X a0.Draught (50:N))))
 else(
 E (zB .i64 (X a0.Draught (20:N)))))
else(
 E (0:N))
/- spec_NeedOf -/
def So(a0:X5):L N:=
(Dr a0).bind fun r1=>
if r1 then(
 (Sq a0).bind fun r3=>
 E (zB .i64 ((zB .i64 (a0.Draught+r3))+(50:N))))
else(
 E (0:N))
/- spec_LevelFor -/
def NA(a0:X6)(a1:N)(a2:X5):L N:=
(IG a0 a1 a2).bind fun r1=>
if r1 then(
 (So a2).bind fun r3=>
 (ix a0.Segments a1).bind fun x4=>
 E (zB .i64 (r3 - x4.Depth)))
else(
 E (0:N))
/- spec_l03Surge -/
def Fc(a1:N)(a0:Xc):P→N→N→N→N→L Xb
| 0,_,_,_,_=>G
| n+1,v2,v3,v4,v5=>
 if(decide (v2<(a0.Surges.length:N))) then(
 (ix a0.Surges v2).bind fun x7=>
 if(decide (x7.From≤a1)) then(
  Fc a1 a0 n (zB .i64 (v2+(1:N))) x7.From x7.Low x7.High)
 else(
  Fc a1 a0 n (zB .i64 (v2+(1:N))) v3 v4 v5))
 else(
 E (⟨v3,v4,v5⟩:Xb))
def IC(a0:Xc)(a1:N):L Xb:=
(ix a0.Surges (0:N)).bind fun x1=>
Fc a1 a0 bigN (0:N) x1.From x1.Low x1.High
/- spec_Wave -/
def NQ(a1 v6:N):L N:=
if(decide (v6<(zB .i64 (X a1 (2:N))))) then(
 if(zB .i64 ((zB .i64 (X a1 (2:N)))*(zB .i64 (X a1 (2:N)))))==0 then G else
 E (zB .i64 (X (zB .i64 ((zB .i64 ((40000:N)*v6))*(zB .i64 ((zB .i64 (X a1 (2:N))) - v6)))) (zB .i64 ((zB .i64 (X a1 (2:N)))*(zB .i64 (X a1 (2:N))))))))
else(
 if(zB .i64 ((zB .i64 (X a1 (2:N)))*(zB .i64 (X a1 (2:N)))))==0 then G else
 E (zB .i64 (0 - (zB .i64 (X (zB .i64 ((zB .i64 ((40000:N)*(zB .i64 (v6 - (zB .i64 (X a1 (2:N)))))))*(zB .i64 ((zB .i64 (X a1 (2:N))) - (zB .i64 (v6 - (zB .i64 (X a1 (2:N))))))))) (zB .i64 ((zB .i64 (X a1 (2:N)))*(zB .i64 (X a1 (2:N))))))))))
def NP(a0 a1:N):L N:=
if(decide (a1<(4:N))) then(
 E (0:N))
else(
 if(decide ((2880:N)<a1)) then(
 E (0:N))
 else(
 if((zB .i64 (C a1 (4:N))) !=(0:N)) then(
  E (0:N))
 else(
  if a1==0 then G else
  if(decide ((zB .i64 (C a0 a1))<(0:N))) then(
  NQ a1 (zB .i64 ((zB .i64 (C a0 a1))+a1)))
  else(
  NQ a1 (zB .i64 (C a0 a1))))))
/- spec_l02Level -/
def IB(a1:N)(a0:Xi):P→N→N→L N
| 0,_,_=>G
| n+1,v1,v2=>
 if(decide (v2<(a0.Parts.length:N))) then(
 (ix a0.Parts v2).bind fun x4=>
 (NP (zB .i64 (a1+x4.Phase)) x4.Period).bind fun r5=>
 IB a1 a0 n (zB .i64 (v1+(zB .i64 (X (zB .i64 (x4.Amp*r5)) (10000:N))))) (zB .i64 (v2+(1:N))))
 else(
 E v1)
def Kq(a0:Xi)(a1:N):L N:=
IB a1 a0 bigN a0.Mean (0:N)
/- spec_l04Of -/
def ID(v1:N)(a0:H O)(v2:H X4)(Oi:N→(H X4)→L (H X4))(v8:O):L (H X4):=
if v8 then(
 (ix v2 (zB .i64 ((v2.length:N) - (1:N)))).bind fun x10=>
 Oi (zB .i64 (v1+(1:N))) (v2.set (U (zB .i64 ((v2.length:N) - (1:N)))) (⟨x10.From,v1⟩:X4)))
else(
 if AJ v2.length ([(⟨v1,v1⟩:X4)]:H X4).length 16 then(
 Oi (zB .i64 (v1+(1:N))) (v2++([(⟨v1,v1⟩:X4)]:H X4)))
 else G)
def Ei(a0:H O):P→N→(H X4)→L (H X4)
| 0,_,_=>G
| n+1,v1,v2=>
 if(decide (v1<(a0.length:N))) then(
 (ix a0 v1).bind fun x4=>
 if x4 then(
  if(decide ((0:N)<(v2.length:N))) then(
  (ix v2 (zB .i64 ((v2.length:N) - (1:N)))).bind fun x7=>
  ID v1 a0 v2 (Ei a0 n) (x7.To==(zB .i64 (v1 - (1:N)))))
  else(
  ID v1 a0 v2 (Ei a0 n) F))
 else(
  Ei a0 n (zB .i64 (v1+(1:N))) v2))
 else(
 E v2)
def NT(a0:H O):L (H X4):=
Ei a0 bigN (0:N) ([]:H X4)
/- spec_l04Levels -/
def NS(a1 v2:N)(a0:Xc)(v3:H O)(SY:O→N→(H O)→L (H X4))(v7:O)(v8:N):L (H X4):=
(Kq a0.Tide v2).bind fun r9=>
if AJ v3.length ([(decide (a1≤(zB .i64 (r9+v8))))]:H O).length 1 then(
 SY v7 (zB .i64 (v2+(1:N))) (v3++([(decide (a1≤(zB .i64 (r9+v8))))]:H O)))
else G
def Ge(a1:N)(a0:Xc):P→O→N→(H O)→L (H X4)
| 0,_,_,_=>G
| n+1,v1,v2,v3=>
 if(decide (v2≤(2880:N))) then(
 (IC a0 v2).bind fun r5=>
 if v1 then(
  NS a1 v2 a0 v3 (Ge a1 a0 n) T r5.High)
 else(
  NS a1 v2 a0 v3 (Ge a1 a0 n) F r5.Low))
 else(
 (NT v3).bind fun r11=>
 E r11)
def NR(a0:Xc)(a1:N)(a2:O):L (H X4):=
Ge a1 a0 bigN a2 (0:N) ([]:H O)
/- spec_l06Minutes -/
def Fe(a0:X3)(a1:X5):L N:=
if a1.Slow then(
 E (zB .i64 ((2:N)*a0.Minutes)))
else(
 E a0.Minutes)
/- spec_MinutesOn -/
def Kj(a0:X6)(a1:N)(a2:X5):L N:=
(Dq a0).bind fun r1=>
if r1 then(
 (Dr a2).bind fun r3=>
 if r3 then(
 (AM a1 (0:N) (zB .i64 ((a0.Segments.length:N) - (1:N)))).bind fun r5=>
 if r5 then(
  (ix a0.Segments a1).bind fun x7=>
  (Fe x7 a2).bind fun r9=>
  E r9)
 else(
  E (0:N)))
 else(
 E (0:N)))
else(
 E (0:N))
/- spec_WindowsOk -/
def Fb(a0:H X4):P→N→L O
| 0,_=>G
| n+1,v1=>
 if(decide (v1<(a0.length:N))) then(
 (ix a0 v1).bind fun x3=>
 (AM x3.From (0:N) (2880:N)).bind fun r4=>
 if r4 then(
  (AM x3.To x3.From (2880:N)).bind fun r6=>
  if r6 then(
  if(decide ((0:N)<v1)) then(
   (ix a0 (zB .i64 (v1 - (1:N)))).bind fun x9=>
   if(decide (x3.From≤(zB .i64 (x9.To+(1:N))))) then(
   E F)
   else(
   Fb a0 n (zB .i64 (v1+(1:N)))))
  else(
   Fb a0 n (zB .i64 (v1+(1:N)))))
  else(
  E F))
 else(
  E F))
 else(
 E T)
def Ko(a0:H X4):L O:=
Fb a0 bigN (0:N)
/- spec_ShrinkWindows -/
def Fa(a1:N)(a0:H X4):P→N→(H X4)→L (H X4)
| 0,_,_=>G
| n+1,v5,v6=>
 if(decide (v5<(a0.length:N))) then(
 (ix a0 v5).bind fun x8=>
 if(decide (a1≤(zB .i64 (x8.To - x8.From)))) then(
  if AJ v6.length ([(⟨x8.From,(zB .i64 (x8.To - a1))⟩:X4)]:H X4).length 16 then(
  Fa a1 a0 n (zB .i64 (v5+(1:N))) (v6++([(⟨x8.From,(zB .i64 (x8.To - a1))⟩:X4)]:H X4)))
  else G)
 else(
  Fa a1 a0 n (zB .i64 (v5+(1:N))) v6))
 else(
 E v6)
def Sp(a0:H X4)(a1:N):L (H X4):=
(Ko a0).bind fun r1=>
if r1 then(
 (AM a1 (0:N) (2880:N)).bind fun r3=>
 if r3 then(
 Fa a1 a0 bigN (0:N) ([]:H X4))
 else(
 E ([]:H X4)))
else(
 E ([]:H X4))
/- spec_l07Starts -/
def Ss(a0:Xc)(a1:X6)(a2:N)(a3:X5)(a4:O):L (H X4):=
(Ik a0).bind fun r1=>
if r1 then(
 (IG a1 a2 a3).bind fun r3=>
 if r3 then(
 (NA a1 a2 a3).bind fun r5=>
 (NR a0 r5 a4).bind fun r6=>
 (Kj a1 a2 a3).bind fun r7=>
 (Sp r6 r7).bind fun r9=>
 E r9)
 else(
 E ([]:H X4)))
else(
 E ([]:H X4))
/- spec_SureStarts -/
def NM(a0:Xc)(a1:X6)(a2:N)(a3:X5):L (H X4):=
(Ss a0 a1 a2 a3 F).bind fun r1=>
E r1
/- spec_l08Starts -/
def Gg(a3:H N)(a0:Xc)(a1:X6)(a2:X5):P→N→(H (H X4))→L (H (H X4))
| 0,_,_=>G
| n+1,v1,v2=>
 if(decide (v1<(a3.length:N))) then(
 (ix a3 v1).bind fun x4=>
 (NM a0 a1 x4 a2).bind fun r5=>
 if AJ v2.length ([r5]:H (H X4)).length 24 then(
  Gg a3 a0 a1 a2 n (zB .i64 (v1+(1:N))) (v2++([r5]:H (H X4))))
 else G)
 else(
 E v2)
def Su(a0:Xc)(a1:X6)(a2:X5)(a3:H N):L (H (H X4)):=
Gg a3 a0 a1 a2 bigN (0:N) ([]:H (H X4))
/- spec_HasMinute -/
def Il(a1:N)(a0:H X4):P→N→L O
| 0,_=>G
| n+1,v1=>
 if(decide (v1<(a0.length:N))) then(
 (ix a0 v1).bind fun x3=>
 (AM a1 x3.From x3.To).bind fun r4=>
 if r4 then(
  E T)
 else(
  Il a1 a0 n (zB .i64 (v1+(1:N)))))
 else(
 E F)
def Nu(a0:H X4)(a1:N):L O:=
Il a1 a0 bigN (0:N)
/- spec_NextMinute -/
def Ip(a1:N)(a0:H X4):P→N→L N
| 0,_=>G
| n+1,v3=>
 if(decide (v3<(a0.length:N))) then(
 (ix a0 v3).bind fun x5=>
 if(decide (a1≤x5.To)) then(
  E (if x5.From<a1 then a1 else x5.From))
 else(
  Ip a1 a0 n (zB .i64 (v3+(1:N)))))
 else(
 E (-1:N))
def NB(a0:H X4)(a1:N):L N:=
(Ko a0).bind fun r1=>
if r1 then(
 Ip a1 a0 bigN (0:N))
else(
 E (-1:N))
/- spec_l08Sail -/
def IH(a2 a3:H N)(a4:H (H X4))(v4 r12:N)(a0:X6)(a1:X5)(v5:H N)(T0:N→(H N)→L ((H N) × O))(v17:O):L ((H N) × O):=
if v17 then(
 E (([]:H N),F))
else(
 if AJ v5.length ([r12]:H N).length 8 then(
 T0 (zB .i64 (v4+(1:N))) (v5++([r12]:H N)))
 else G)
def Ej(a2 a3:H N)(a4:H (H X4))(a0:X6)(a1:X5):P→N→(H N)→L ((H N) × O)
| 0,_,_=>G
| n+1,v4,v5=>
 if(decide (v4<(a3.length:N))) then(
 (ix v5 (zB .i64 (v4 - (1:N)))).bind fun x7=>
 (ix a3 (zB .i64 (v4 - (1:N)))).bind fun x8=>
 (ix a0.Segments x8).bind fun x9=>
 (Fe x9 a1).bind fun r10=>
 (ix a4 v4).bind fun x11=>
 (NB x11 (zB .i64 (x7+r10))).bind fun r12=>
 if(decide (r12<(0:N))) then(
  IH a2 a3 a4 v4 r12 a0 a1 v5 (Ej a2 a3 a4 a0 a1 n) T)
 else(
  if(r12 !=(zB .i64 (x7+r10))) then(
  (ix a2 v4).bind fun x15=>
  (ix a0.Points x15).bind fun x16=>
  IH a2 a3 a4 v4 r12 a0 a1 v5 (Ej a2 a3 a4 a0 a1 n) (!x16.Wait))
  else(
  IH a2 a3 a4 v4 r12 a0 a1 v5 (Ej a2 a3 a4 a0 a1 n) F)))
 else(
 E (v5,T))
def NW(a0:X6)(a1:X5)(a2 a3:H N)(a4:H (H X4))(a5:N):L ((H N) × O):=
(ix a4 (0:N)).bind fun x1=>
(Nu x1 a5).bind fun r2=>
if r2 then(
 Ej a2 a3 a4 a0 a1 bigN (1:N) ([a5]:H N))
else(
 E (([]:H N),F))
/- spec_SailRoute -/
def Iw(a3:N)(a4:H N)(a5:N)(a0:Xc)(a1:X6)(a2:X5)(v7:O):L ((H N) × O):=
if v7 then(
 E (([]:H N),F))
else(
 (Gd a1 a3 a4).bind fun r9=>
 (Su a0 a1 a2 a4).bind fun r10=>
 (NW a1 a2 r9 a4 r10 a5).bind fun r11=>
 E (r11.1,r11.2))
def NK(a0:Xc)(a1:X6)(a2:X5)(a3:N)(a4:H N)(a5:N):L ((H N) × O):=
(Ik a0).bind fun r1=>
if r1 then(
 (Dr a2).bind fun r3=>
 if r3 then(
 (Gc a1 a3 a4).bind fun r5=>
 if r5 then(
  Iw a3 a4 a5 a0 a1 a2 ((a4.length:N)==(0:N)))
 else(
  Iw a3 a4 a5 a0 a1 a2 T))
 else(
 Iw a3 a4 a5 a0 a1 a2 T))
else(
 Iw a3 a4 a5 a0 a1 a2 T)
/- spec_RouteMinutes -/
def Iv(a1:H N)(a0:X6):P→N→N→L N
| 0,_,_=>G
| n+1,v3,v4=>
 if(decide (v4<(a1.length:N))) then(
 (ix a1 v4).bind fun x6=>
 (AM x6 (0:N) (zB .i64 ((a0.Segments.length:N) - (1:N)))).bind fun r7=>
 if r7 then(
  (ix a0.Segments x6).bind fun x9=>
  Iv a1 a0 n (zB .i64 (v3+x9.Minutes)) (zB .i64 (v4+(1:N))))
 else(
  E (-1:N)))
 else(
 E v3)
def NJ(a0:X6)(a1:H N):L N:=
(Dq a0).bind fun r1=>
if r1 then(
 Iv a1 a0 bigN (0:N) (0:N))
else(
 E (-1:N))
/- spec_ArrivalOf -/
def Nn(a0:X6)(a1:X5)(a2 a3:H N):L N:=
(NJ a0 a2).bind fun r1=>
if(decide (r1<(0:N))) then(
 E (-1:N))
else(
 (Dr a1).bind fun r3=>
 if r3 then(
 if((a2.length:N) !=(a3.length:N)) then(
  E (-1:N))
 else(
  if((a2.length:N)==(0:N)) then(
  E (-1:N))
  else(
  (ix a3 (zB .i64 ((a3.length:N) - (1:N)))).bind fun x7=>
  (AM x7 (0:N) (2880:N)).bind fun r9=>
  if r9 then(
   (ix a2 (zB .i64 ((a2.length:N) - (1:N)))).bind fun x11=>
   (ix a0.Segments x11).bind fun x12=>
   (Fe x12 a1).bind fun r13=>
   E (zB .i64 (x7+r13)))
  else(
   E (-1:N)))))
 else(
 E (-1:N)))
/- spec_PassagesOf -/
def Iq(a1:N)(a5 a4:H N)(a0:X6)(a2:X5)(r6:(H N)):P→N→(H X1)→L (H X1)
| 0,_,_=>G
| n+1,v7,v8=>
 if(decide (v7<(a4.length:N))) then(
 (ix a4 v7).bind fun x10=>
 (ix a5 v7).bind fun x11=>
 (AM x11 (0:N) (2880:N)).bind fun r12=>
 if r12 then(
  (ix a0.Segments x10).bind fun x14=>
  (ix r6 v7).bind fun x15=>
  (Fe x14 a2).bind fun r16=>
  if AJ v8.length ([(⟨a1,x10,(x14.A==x15),x11,(zB .i64 (x11+r16))⟩:X1)]:H X1).length 40 then(
  Iq a1 a5 a4 a0 a2 r6 n (zB .i64 (v7+(1:N))) (v8++([(⟨a1,x10,(x14.A==x15),x11,(zB .i64 (x11+r16))⟩:X1)]:H X1)))
  else G)
 else(
  E ([]:H X1)))
 else(
 E v8)
def ND(a0:X6)(a1:N)(a2:X5)(a3:N)(a4 a5:H N):L (H X1):=
(Gc a0 a3 a4).bind fun r1=>
if r1 then(
 (Dr a2).bind fun r3=>
 if r3 then(
 if((a4.length:N) !=(a5.length:N)) then(
  E ([]:H X1))
 else(
  (Gd a0 a3 a4).bind fun r6=>
  Iq a1 a5 a4 a0 a2 r6 bigN (0:N) ([]:H X1)))
 else(
 E ([]:H X1)))
else(
 E ([]:H X1))
/- spec_l15Make -/
def Gm(a2:H N)(a0:X7)(x1:X5)(x2 r3:N)(r4:(H X1)):P→N→N→L (X2 × O)
| 0,_,_=>G
| n+1,v5,v6=>
 if(decide (v5<(a2.length:N))) then(
 (ix a2 v5).bind fun x8=>
 (ix a0.Chart.Segments x8).bind fun x9=>
 (Fe x9 x1).bind fun r10=>
 Gm a2 a0 x1 x2 r3 r4 n (zB .i64 (v5+(1:N))) (zB .i64 (v6 - r10)))
 else(
 E ((⟨x2,r3,v6,r4⟩:X2),(decide (r3≤(2880:N)))))
def Sy(a0:X7)(a1:Xa)(a2 a3:H N):L (X2 × O):=
(ix a0.Fleet a1.Ship).bind fun x1=>
(ix a3 (0:N)).bind fun x2=>
(Nn a0.Chart x1 a2 a3).bind fun r3=>
(ND a0.Chart a1.Ship x1 a1.From a2 a3).bind fun r4=>
Gm a2 a0 x1 x2 r3 r4 bigN (0:N) (zB .i64 (r3 - a1.Ready))
/- spec_OptionAt -/
def G9(a2:H N)(a3:N)(a0:X7)(a1:Xa)(v6:O):L (X2 × O):=
if v6 then(
 E ((⟨(0:N),(0:N),(0:N),([]:H X1)⟩:X2),F))
else(
 (ix a0.Fleet a1.Ship).bind fun x8=>
 (NK a0.Forecast a0.Chart x8 a1.From a2 a3).bind fun r9=>
 if r9.2 then(
 (Sy a0 a1 a2 r9.1).bind fun r11=>
 if r11.2 then(
  E (r11.1,T))
 else(
  E ((⟨(0:N),(0:N),(0:N),([]:H X1)⟩:X2),F)))
 else(
 E ((⟨(0:N),(0:N),(0:N),([]:H X1)⟩:X2),F)))
def Kk(a0:X7)(a1:Xa)(a2:H N)(a3:N):L (X2 × O):=
(Ia a0 a1).bind fun r1=>
if r1 then(
 (AM a3 a1.Ready a1.Due).bind fun r3=>
 if r3 then(
 (Sx a0 a1 a2).bind fun r5=>
 G9 a2 a3 a0 a1 (!r5))
 else(
 G9 a2 a3 a0 a1 T))
else(
 G9 a2 a3 a0 a1 T)
/- spec_SameOptions -/
def Iy(a0 a1:X2):P→N→L O
| 0,_=>G
| n+1,v5=>
 if(decide (v5<(a0.Passages.length:N))) then(
 (ix a0.Passages v5).bind fun x7=>
 (ix a1.Passages v5).bind fun x8=>
 if((x7.Ship==x8.Ship)&&((x7.Segment==x8.Segment)&&((x7.Toward==x8.Toward)&&((x7.Start==x8.Start)&&((x7.End==x8.End)&&T))))) then(
  Iy a0 a1 n (zB .i64 (v5+(1:N))))
 else(
  E F))
 else(
 E T)
def Ix(a0 a1:X2):L O:=
if(a0.Start !=a1.Start) then(
 E F)
else(
 if(a0.Arrival !=a1.Arrival) then(
 E F)
 else(
 if(a0.Cost !=a1.Cost) then(
  E F)
 else(
  if((a0.Passages.length:N) !=(a1.Passages.length:N)) then(
  E F)
  else(
  Iy a0 a1 bigN (0:N)))))
/- spec_IsOption -/
def Im(a2:X2)(a0:X7)(a1:Xa):P→N→(H N)→L O
| 0,_,_=>G
| n+1,v3,v4=>
 if(decide (v3<(a2.Passages.length:N))) then(
 (ix a2.Passages v3).bind fun x6=>
 if AJ v4.length ([x6.Segment]:H N).length 8 then(
  Im a2 a0 a1 n (zB .i64 (v3+(1:N))) (v4++([x6.Segment]:H N)))
 else G)
 else(
 (Kk a0 a1 v4 a2.Start).bind fun r9=>
 if r9.2 then(
  (Ix r9.1 a2).bind fun r11=>
  E r11)
 else(
  E F))
def Ki(a0:X7)(a1:Xa)(a2:X2):L O:=
(Ia a0 a1).bind fun r1=>
if r1 then(
 Im a2 a0 a1 bigN (0:N) ([]:H N))
else(
 E F)
/- spec_Overlaps -/
def Kl(a0 a1:X1):L O:=
E (decide ((if a0.Start<a1.Start then a1.Start else a0.Start)<(if a1.End<a0.End then a1.End else a0.End)))
/- spec_l09Near -/
def NX(a2 v3 v4:N):L O:=
E (decide ((zB .i64 (v4 - v3))<a2))
def Ks(a0 a1 a2:N):L O:=
if(decide ((if a1<a0 then a1 else a0)<(0:N))) then(
 if(decide ((zB .i64 ((if a1<a0 then a1 else a0)+(9223372036854775807:N)))<(if a0<a1 then a1 else a0))) then(
 E F)
 else(
 NX a2 (if a1<a0 then a1 else a0) (if a0<a1 then a1 else a0)))
else(
 NX a2 (if a1<a0 then a1 else a0) (if a0<a1 then a1 else a0))
/- spec_ConflictOf -/
def Ns(a0:X6)(a1:Xg)(a2 a3:X1):L N:=
(Dq a0).bind fun r1=>
if r1 then(
 (Iu a1).bind fun r3=>
 if r3 then(
 (AM a2.Segment (0:N) (zB .i64 ((a0.Segments.length:N) - (1:N)))).bind fun r5=>
 if r5 then(
  if(a2.Segment !=a3.Segment) then(
  E (0:N))
  else(
  if(a2.Ship==a3.Ship) then(
   (Kl a2 a3).bind fun r9=>
   if r9 then(
   E (1:N))
   else(
   E (0:N)))
  else(
   if(a2.Toward==a3.Toward) then(
   (Ks a2.Start a3.Start a1.Gap).bind fun r17=>
   if r17 then(
    E (3:N))
   else(
    (Ks a2.End a3.End a1.Gap).bind fun r19=>
    if r19 then(
    E (3:N))
    else(
    if(decide (a2.Start<a3.Start)) then(
     if(decide (a3.End<a2.End)) then(
     E (4:N))
     else(
     if(decide (a3.Start<a2.Start)) then(
      if(decide (a2.End<a3.End)) then(
      E (4:N))
      else(
      E (0:N)))
     else(
      E (0:N))))
    else(
     if(decide (a3.Start<a2.Start)) then(
     if(decide (a2.End<a3.End)) then(
      E (4:N))
     else(
      E (0:N)))
     else(
     E (0:N))))))
   else(
   (Kl a2 a3).bind fun r12=>
   if r12 then(
    if a1.NoMeet then(
    E (2:N))
    else(
    (ix a0.Segments a2.Segment).bind fun x15=>
    if x15.Meet then(
     E (0:N))
    else(
     E (2:N))))
   else(
    E (0:N))))))
 else(
  E (0:N)))
 else(
 E (0:N)))
else(
 E (0:N))
/- spec_Clashes -/
def If(a3 a2:H X1)(v1:N)(a0:X6)(a1:Xg)(x3:X1)(Oh:N→L O):P→N→L O
| 0,_=>G
| n+1,v4=>
 if(decide (v4<(a3.length:N))) then(
 (ix a3 v4).bind fun x6=>
 (Ns a0 a1 x3 x6).bind fun r7=>
 if(r7 !=(0:N)) then(
  E T)
 else(
  If a3 a2 v1 a0 a1 x3 Oh n (zB .i64 (v4+(1:N)))))
 else(
 Oh (zB .i64 (v1+(1:N))))
def F9(a3 a2:H X1)(a0:X6)(a1:Xg):P→N→L O
| 0,_=>G
| n+1,v1=>
 if(decide (v1<(a2.length:N))) then(
 (ix a2 v1).bind fun x3=>
 If a3 a2 v1 a0 a1 x3 (F9 a3 a2 a0 a1 n) bigN (0:N))
 else(
 E F)
def Nr(a0:X6)(a1:Xg)(a2 a3:H X1):L O:=
F9 a3 a2 a0 a1 bigN (0:N)
/- spec_ChainsOf -/
def Ib(a0:H X2):P→N→(H (H X1))→L (H (H X1))
| 0,_,_=>G
| n+1,v1,v2=>
 if(decide (v1<(a0.length:N))) then(
 (ix a0 v1).bind fun x4=>
 if AJ ([]:H X1).length x4.Passages.length 40 then(
  if AJ v2.length ([x4.Passages]:H (H X1)).length 24 then(
  Ib a0 n (zB .i64 (v1+(1:N))) (v2++([x4.Passages]:H (H X1))))
  else G)
 else G)
 else(
 E v2)
def Nq(a0:H X2):L (H (H X1)):=
Ib a0 bigN (0:N) ([]:H (H X1))
/- spec_PassageOk -/
def Km(a0:X6)(a1:H X5)(a2:X1):L O:=
(Dq a0).bind fun r1=>
if r1 then(
 (Kb a1).bind fun r3=>
 if r3 then(
 (AM a2.Ship (0:N) (zB .i64 ((a1.length:N) - (1:N)))).bind fun r5=>
 if r5 then(
  (AM a2.Segment (0:N) (zB .i64 ((a0.Segments.length:N) - (1:N)))).bind fun r7=>
  if r7 then(
  (AM a2.Start (0:N) (2880:N)).bind fun r9=>
  if r9 then(
   (ix a1 a2.Ship).bind fun x11=>
   (Kj a0 a2.Segment x11).bind fun r12=>
   if(a2.End==(zB .i64 (a2.Start+r12))) then(
   E (decide (a2.End≤(2880:N))))
   else(
   E F))
  else(
   E F))
  else(
  E F))
 else(
  E F))
 else(
 E F))
else(
 E F)
/- spec_l08Ends -/
def Ff(a0:X6)(a1:X1):L (N × N):=
(ix a0.Segments a1.Segment).bind fun x1=>
if a1.Toward then(
 E (x1.A,x1.B))
else(
 E (x1.B,x1.A))
/- spec_l14Tugs -/
def Gl(a1:H X5)(r7:N × N)(a2:H X1)(v1:N)(a0:X6)(x4:X1)(Oj:N→(H X8)→L ((H X8) × O)):P→N→(H X8)→L ((H X8) × O)
| 0,_,_=>G
| n+1,v8,v9=>
 (ix a1 x4.Ship).bind fun x10=>
 if(decide (v8<x10.Tugs)) then(
 if AJ v9.length ([(⟨x4.Start,x4.End,r7.1,r7.2⟩:X8)]:H X8).length 32 then(
  Gl a1 r7 a2 v1 a0 x4 Oj n (zB .i64 (v8+(1:N))) (v9++([(⟨x4.Start,x4.End,r7.1,r7.2⟩:X8)]:H X8)))
 else G)
 else(
 if(decide ((12:N)<(v9.length:N))) then(
  E (([]:H X8),F))
 else(
  Oj (zB .i64 (v1+(1:N))) v9))
def Fh(a1:H X5)(a2:H X1)(a0:X6):P→N→(H X8)→L ((H X8) × O)
| 0,_,_=>G
| n+1,v1,v2=>
 if(decide (v1<(a2.length:N))) then(
 (ix a2 v1).bind fun x4=>
 (Km a0 a1 x4).bind fun r5=>
 if r5 then(
  (Ff a0 x4).bind fun r7=>
  Gl a1 r7 a2 v1 a0 x4 (Fh a1 a2 a0 n) bigN (0:N) v2)
 else(
  E (([]:H X8),F)))
 else(
 E (v2,T))
def Sw(a0:X6)(a1:H X5)(a2:H X1):L ((H X8) × O):=
Fh a1 a2 a0 bigN (0:N) ([]:H X8)
/- spec_l13Duty -/
def II(a0:X8):L O:=
(AM a0.From (0:N) (2880:N)).bind fun r1=>
if r1 then(
 if(decide (a0.From<a0.To)) then(
 if(decide (a0.To≤(2880:N))) then(
  (AM a0.A (0:N) (7:N)).bind fun r5=>
  if r5 then(
  (AM a0.B (0:N) (7:N)).bind fun r7=>
  E r7)
  else(
  E F))
 else(
  E F))
 else(
 E F))
else(
 E F)
/- spec_DutiesOk -/
def Ii(a0:H X8):P→N→L O
| 0,_=>G
| n+1,v2=>
 if(decide (v2<(a0.length:N))) then(
 (ix a0 v2).bind fun x4=>
 (II x4).bind fun r5=>
 if r5 then(
  Ii a0 n (zB .i64 (v2+(1:N))))
 else(
  E F))
 else(
 E T)
def Nt(a0:H X8):L O:=
if(decide ((12:N)<(a0.length:N))) then(
 E F)
else(
 Ii a0 bigN (0:N))
/- spec_Gap -/
def Kf(a0:N)(a1:H N)(a2 a3:X8)(v6:O):L (N × O):=
if v6 then(
 E ((0:N),F))
else(
 (ix a1 (zB .i64 ((zB .i64 (a2.B*(8:N)))+a3.A))).bind fun x8=>
 E ((zB .i64 (a0+x8)),T))
def Sn(a0:N)(a1:H N)(a2 a3:X8):L (N × O):=
(Gj a0 a1).bind fun r1=>
if r1 then(
 (AM a2.B (0:N) (7:N)).bind fun r3=>
 if r3 then(
 (AM a3.A (0:N) (7:N)).bind fun r5=>
 Kf a0 a1 a2 a3 (!r5))
 else(
 Kf a0 a1 a2 a3 T))
else(
 Kf a0 a1 a2 a3 T)
/- spec_CanFollow -/
def Ka(a0:N)(a1:H N)(a2 a3:X8):L O:=
(Sn a0 a1 a2 a3).bind fun r1=>
if r1.2 then(
 (II a2).bind fun r3=>
 if r3 then(
 (II a3).bind fun r5=>
 if r5 then(
  E (decide ((zB .i64 (a2.To+r1.1))≤a3.From)))
 else(
  E F))
 else(
 E F))
else(
 E F)
/- spec_l13Both -/
def Gh(a0:N)(a1:H N)(a2:H X8)(v1:N)(x4:X8)(v2:H (H O))(KH:N→(H (H O))→L (H (H O))):P→N→(H O)→L (H (H O))
| 0,_,_=>G
| n+1,v5,v6=>
 if(decide (v5<(a2.length:N))) then(
 (ix a2 v5).bind fun x8=>
 (Ka a0 a1 x4 x8).bind fun r9=>
 if r9 then(
  if AJ v6.length ([T]:H O).length 1 then(
  Gh a0 a1 a2 v1 x4 v2 KH n (zB .i64 (v5+(1:N))) (v6++([T]:H O)))
  else G)
 else(
  (Ka a0 a1 x8 x4).bind fun r12=>
  if AJ v6.length ([r12]:H O).length 1 then(
  Gh a0 a1 a2 v1 x4 v2 KH n (zB .i64 (v5+(1:N))) (v6++([r12]:H O)))
  else G))
 else(
 if AJ v2.length ([v6]:H (H O)).length 24 then(
  KH (zB .i64 (v1+(1:N))) (v2++([v6]:H (H O))))
 else G)
def Fg(a0:N)(a1:H N)(a2:H X8):P→N→(H (H O))→L (H (H O))
| 0,_,_=>G
| n+1,v1,v2=>
 if(decide (v1<(a2.length:N))) then(
 (ix a2 v1).bind fun x4=>
 Gh a0 a1 a2 v1 x4 v2 (Fg a0 a1 a2 n) bigN (0:N) ([]:H O))
 else(
 E v2)
def NY(a0:N)(a1:H N)(a2:H X8):L (H (H O)):=
Fg a0 a1 a2 bigN (0:N) ([]:H (H O))
/- spec_l13Search -/
def Kt(rec_:(H (H O))→(H N)→N→L ((H N) × O))(a0:H (H O))(a1:H N)(a2 v2 v6:N)(Df:N→L ((H N) × O)):L ((H N) × O):=
Df (zB .i64 (v6+(1:N)))
def Ds(rec_:(H (H O))→(H N)→N→L ((H N) × O))(a0:H (H O))(a1:H N)(a2 v2 v6:N)(Df:N→L ((H N) × O)):P→O→N→L ((H N) × O)
| 0,_,_=>G
| n+1,v9,v10=>
 if(decide (v10<(a1.length:N))) then(
 (ix a1 v10).bind fun x12=>
 if(x12==v6) then(
  (ix a0 (a1.length:N)).bind fun x14=>
  (ix x14 v10).bind fun x15=>
  if x15 then(
  Ds rec_ a0 a1 a2 v2 v6 Df n v9 (zB .i64 (v10+(1:N))))
  else(
  Ds rec_ a0 a1 a2 v2 v6 Df n F (zB .i64 (v10+(1:N)))))
 else(
  Ds rec_ a0 a1 a2 v2 v6 Df n v9 (zB .i64 (v10+(1:N)))))
 else(
 if v9 then(
  if AJ ([]:H N).length a1.length 8 then(
  if AJ a1.length ([v6]:H N).length 8 then(
   (rec_ a0 (a1++([v6]:H N)) a2).bind fun r20=>
   if r20.2 then(
   E (r20.1,T))
   else(
   Kt rec_ a0 a1 a2 v2 v6 Df))
  else G)
  else G)
 else(
  Kt rec_ a0 a1 a2 v2 v6 Df))
def DP(rec_:(H (H O))→(H N)→N→L ((H N) × O))(a0:H (H O))(a1:H N)(a2 v2:N):P→N→L ((H N) × O)
| 0,_=>G
| n+1,v6=>
 if(decide (v6≤v2)) then(
 if(decide (v6<a2)) then(
  Ds rec_ a0 a1 a2 v2 v6 (DP rec_ a0 a1 a2 v2 n) bigN T (0:N))
 else(
  E (([]:H N),F)))
 else(
 E (([]:H N),F))
def Gi(rec_:(H (H O))→(H N)→N→L ((H N) × O))(a0:H (H O))(a1:H N)(a2:N):P→N→N→L ((H N) × O)
| 0,_,_=>G
| n+1,v2,v3=>
 if(decide (v3<(a1.length:N))) then(
 (ix a1 v3).bind fun x5=>
 Gi rec_ a0 a1 a2 n (if v2<(zB .i64 (x5+(1:N))) then(zB .i64 (x5+(1:N))) else v2) (zB .i64 (v3+(1:N))))
 else(
 DP rec_ a0 a1 a2 v2 bigN (0:N))
def NZ(rec_:(H (H O))→(H N)→N→L ((H N) × O))(a0:H (H O))(a1:H N)(a2:N):L ((H N) × O):=
if((a1.length:N)==(a0.length:N)) then(
 E (a1,T))
else(
 Gi rec_ a0 a1 a2 bigN (0:N) (0:N))
def CA:P→(H (H O))→(H N)→N→L ((H N) × O)
| 0,_,_,_=>G
| n+1,a0,a1,a2=>NZ (CA n) a0 a1 a2
def Sv(a0:H (H O))(a1:H N)(a2:N):L ((H N) × O):=CA bigN a0 a1 a2
/- spec_LeastCover -/
def Io(a2:H X8)(r6:(H (H O))):P→N→L ((H N) × N × O)
| 0,_=>G
| n+1,v7=>
 if(decide (v7≤(a2.length:N))) then(
 (Sv r6 ([]:H N) v7).bind fun r9=>
 if r9.2 then(
  E (r9.1,v7,T))
 else(
  Io a2 r6 n (zB .i64 (v7+(1:N)))))
 else(
 E (([]:H N),(0:N),F))
def Nz(a0:N)(a1:H N)(a2:H X8)(v4:O):L ((H N) × N × O):=
if v4 then(
 E (([]:H N),(0:N),F))
else(
 (NY a0 a1 a2).bind fun r6=>
 Io a2 r6 bigN (0:N))
def In(a0:N)(a1:H N)(a2:H X8):L ((H N) × N × O):=
(Nt a2).bind fun r1=>
if r1 then(
 (Gj a0 a1).bind fun r3=>
 Nz a0 a1 a2 (!r3))
else(
 Nz a0 a1 a2 T)
/- spec_TugsNeeded -/
def Kn(a0:Xj)(a1:X6)(a2:H X5)(a3:H X1):L N:=
(Sw a1 a2 a3).bind fun r1=>
(Ig a0).bind fun r2=>
if r2 then(
 if r1.2 then(
 (In (0:N) a0.Moves r1.1).bind fun r5=>
 if r5.2.2 then(
  E r5.2.1)
 else(
  E (-1:N)))
 else(
 E (-1:N)))
else(
 E (-1:N))
/- spec_IsChain -/
def G6(a1:H X1)(a0:X6):P→N→L O
| 0,_=>G
| n+1,v3=>
 if(decide (v3<(a1.length:N))) then(
 (ix a1 v3).bind fun x5=>
 (ix a1 (0:N)).bind fun x6=>
 if(x5.Ship !=x6.Ship) then(
  E F)
 else(
  (AM x5.Segment (0:N) (zB .i64 ((a0.Segments.length:N) - (1:N)))).bind fun r9=>
  if r9 then(
  if(v3==(0:N)) then(
   G6 a1 a0 n (zB .i64 (v3+(1:N))))
  else(
   (Ff a0 x5).bind fun r12=>
   (ix a1 (zB .i64 (v3 - (1:N)))).bind fun x13=>
   (Ff a0 x13).bind fun r14=>
   if(r12.1 !=r14.2) then(
   E F)
   else(
   if(decide (x5.Start<x13.End)) then(
    E F)
   else(
    G6 a1 a0 n (zB .i64 (v3+(1:N)))))))
  else(
  E F)))
 else(
 E T)
def Nv(a0:X6)(a1:H X1):L O:=
(Dq a0).bind fun r1=>
if r1 then(
 G6 a1 a0 bigN (0:N))
else(
 E F)
/- spec_PilotDuty -/
def Ir(a1:H X5)(a2:H X1)(a0:X6):P→N→L (X8 × O)
| 0,_=>G
| n+1,v5=>
 if(decide (v5<(a2.length:N))) then(
 (ix a2 v5).bind fun x7=>
 (Km a0 a1 x7).bind fun r9=>
 if r9 then(
  Ir a1 a2 a0 n (zB .i64 (v5+(1:N))))
 else(
  E ((⟨(0:N),(0:N),(0:N),(0:N)⟩:X8),F)))
 else(
 (ix a2 (zB .i64 ((a2.length:N) - (1:N)))).bind fun x11=>
 (ix a2 (0:N)).bind fun x12=>
 (Ff a0 x12).bind fun r13=>
 (Ff a0 x11).bind fun r14=>
 E ((⟨x12.Start,x11.End,r13.1,r14.2⟩:X8),T))
def NF(a1:H X5)(a2:H X1)(a0:X6)(v3:O):L (X8 × O):=
if v3 then(
 E ((⟨(0:N),(0:N),(0:N),(0:N)⟩:X8),F))
else(
 Ir a1 a2 a0 bigN (0:N))
def NE(a0:X6)(a1:H X5)(a2:H X1):L (X8 × O):=
if((a2.length:N)==(0:N)) then(
 NF a1 a2 a0 T)
else(
 (Nv a0 a2).bind fun r2=>
 NF a1 a2 a0 (!r2))
/- spec_PilotsNeeded -/
def Ga(a2:H X5)(a3:H (H X1))(a0:Xj)(a1:X6):P→N→(H X8)→L N
| 0,_,_=>G
| n+1,v3,v4=>
 if(decide (v3<(a3.length:N))) then(
 (ix a3 v3).bind fun x6=>
 if((x6.length:N)==(0:N)) then(
  Ga a2 a3 a0 a1 n (zB .i64 (v3+(1:N))) v4)
 else(
  (NE a1 a2 x6).bind fun r9=>
  if r9.2 then(
  if AJ v4.length ([r9.1]:H X8).length 32 then(
   Ga a2 a3 a0 a1 n (zB .i64 (v3+(1:N))) (v4++([r9.1]:H X8)))
  else G)
  else(
  E (-1:N))))
 else(
 (In a0.Rest a0.Moves v4).bind fun r12=>
 if r12.2.2 then(
  E r12.2.1)
 else(
  E (-1:N)))
def NG(a0:Xj)(a1:X6)(a2:H X5)(a3:H (H X1)):L N:=
(Ig a0).bind fun r1=>
if r1 then(
 Ga a2 a3 a0 a1 bigN (0:N) ([]:H X8))
else(
 E (-1:N))
/- spec_CrewSuffices -/
def Ih(a2:H X5)(a3:H (H X1))(a0:Xj)(a1:X6):P→N→(H X1)→L O
| 0,_,_=>G
| n+1,v1,v2=>
 if(decide (v1<(a3.length:N))) then(
 (ix a3 v1).bind fun x4=>
 if AJ v2.length x4.length 40 then(
  Ih a2 a3 a0 a1 n (zB .i64 (v1+(1:N))) (v2++x4))
 else G)
 else(
 (Kn a0 a1 a2 v2).bind fun r6=>
 (AM r6 (0:N) a0.Tugs).bind fun r7=>
 if r7 then(
  (NG a0 a1 a2 a3).bind fun r9=>
  (AM r9 (0:N) a0.Pilots).bind fun r10=>
  E r10)
 else(
  E F))
def Sm(a0:Xj)(a1:X6)(a2:H X5)(a3:H (H X1)):L O:=
Ih a2 a3 a0 a1 bigN (0:N) ([]:H X1)
/- spec_l16Fit -/
def IJ(a1:H X2)(v1:N)(a0:X7)(x3:X2)(y5:H X2)(y6:N)(Ol:N→L O):P→N→L O
| 0,_=>G
| n+1,v7=>
 if(decide (v7<y6)) then(
 (ix y5 v7).bind fun x9=>
 (Nr a0.Chart a0.Regime x3.Passages x9.Passages).bind fun r10=>
 if r10 then(
  E F)
 else(
  IJ a1 v1 a0 x3 y5 y6 Ol n (zB .i64 (v7+(1:N)))))
 else(
 Ol (zB .i64 (v1+(1:N))))
def Fi(a1:H X2)(a0:X7):P→N→L O
| 0,_=>G
| n+1,v1=>
 if(decide (v1<(a1.length:N))) then(
 (ix a1 v1).bind fun x3=>
 (bnd (a1.length:N) v1 (0:N) a1.length).bind fun p4=>
 IJ a1 v1 a0 x3 ((a1.drop p4.1).take (p4.2 - p4.1)) (((a1.drop p4.1).take (p4.2 - p4.1)).length:N) (Fi a1 a0 n) bigN (0:N))
 else(
 (Nq a1).bind fun r12=>
 (Sm a0.Crew a0.Chart a0.Fleet r12).bind fun r13=>
 E r13)
def Sz(a0:X7)(a1:H X2):L O:=
Fi a1 a0 bigN (0:N)
/- spec_IsPlan -/
def G8(a1:H Xa)(a2:H X2)(a0:X7):P→N→L O
| 0,_=>G
| n+1,v4=>
 if(decide (v4<(a2.length:N))) then(
 (ix a2 v4).bind fun x6=>
 (ix a1 v4).bind fun x7=>
 (Ki a0 x7 x6).bind fun r9=>
 if r9 then(
  G8 a1 a2 a0 n (zB .i64 (v4+(1:N))))
 else(
  E F))
 else(
 (Sz a0 a2).bind fun r11=>
 E r11)
def Ny(a0:X7)(a1:H Xa)(a2:H X2):L O:=
(Np a0 a1).bind fun r1=>
if r1 then(
 if((a2.length:N) !=(a1.length:N)) then(
 E F)
 else(
 G8 a1 a2 a0 bigN (0:N)))
else(
 E F)
/- spec_FormatInt -/
def Kd(rec_:N→L (H Q)):P→N→(H Q)→L (H Q)
| 0,_,_=>G
| n+1,v6,v7=>
 if(decide ((9:N)<v6)) then(
 if Ce ([(IntKind.u8.wrap (zB .i64 ((48:N)+(zB .i64 (C v6 (10:N))))))]:H N).length v7.length then(
  Kd rec_ n (zB .i64 (X v6 (10:N))) ((W GK ([(IntKind.u8.wrap (zB .i64 ((48:N)+(zB .i64 (C v6 (10:N))))))]:H N))++v7))
 else G)
 else(
 if Ce ([(IntKind.u8.wrap (zB .i64 ((48:N)+v6)))]:H N).length v7.length then(
  E ((W GK ([(IntKind.u8.wrap (zB .i64 ((48:N)+v6)))]:H N))++v7))
 else G)
def Ke(rec_:N→L (H Q))(a0:N):L (H Q):=
if(decide (a0<(0:N))) then(
 if((zB .i64 (X a0 (10:N)))==(0:N)) then(
 if Ce ([45]:H Q).length ([(IntKind.u8.wrap (zB .i64 ((48:N) - a0)))]:H N).length then(
  E (([45]:H Q)++(W GK ([(IntKind.u8.wrap (zB .i64 ((48:N) - a0)))]:H N))))
 else G)
 else(
 (rec_ (zB .i64 (X a0 (10:N)))).bind fun r4=>
 if Ce r4.length ([(IntKind.u8.wrap (zB .i64 ((48:N) - (zB .i64 (C a0 (10:N))))))]:H N).length then(
  E (r4++(W GK ([(IntKind.u8.wrap (zB .i64 ((48:N) - (zB .i64 (C a0 (10:N))))))]:H N))))
 else G))
else(
 Kd rec_ bigN a0 ([]:H Q))
def Eh:P→N→L (H Q)
| 0,_=>G
| n+1,a0=>Ke (Eh n) a0
def Kc(a0:N):L (H Q):=Eh bigN a0
/- spec_PlanLines -/
def Gb(a2:H X2)(a1:H Xa)(a0:X7):P→N→(H (H Q))→L (H (H Q))
| 0,_,_=>G
| n+1,v3,v4=>
 if(decide (v3<(a1.length:N))) then(
 (ix a1 v3).bind fun x6=>
 (ix a2 v3).bind fun x7=>
 (ix a0.Fleet x6.Ship).bind fun x8=>
 if Ce x8.Name.length ([32,115,116,97,114,116,32]:H Q).length then(
  (Kc x7.Start).bind fun r10=>
  if Ce (x8.Name++([32,115,116,97,114,116,32]:H Q)).length r10.length then(
  if Ce ((x8.Name++([32,115,116,97,114,116,32]:H Q))++r10).length ([32,97,114,114,105,118,101,32]:H Q).length then(
   (Kc x7.Arrival).bind fun r13=>
   if Ce (((x8.Name++([32,115,116,97,114,116,32]:H Q))++r10)++([32,97,114,114,105,118,101,32]:H Q)).length r13.length then(
   if Ce ((((x8.Name++([32,115,116,97,114,116,32]:H Q))++r10)++([32,97,114,114,105,118,101,32]:H Q))++r13).length ([32,119,97,105,116,32]:H Q).length then(
    (Kc x7.Cost).bind fun r16=>
    if Ce (((((x8.Name++([32,115,116,97,114,116,32]:H Q))++r10)++([32,97,114,114,105,118,101,32]:H Q))++r13)++([32,119,97,105,116,32]:H Q)).length r16.length then(
    if AJ v4.length ([((((((x8.Name++([32,115,116,97,114,116,32]:H Q))++r10)++([32,97,114,114,105,118,101,32]:H Q))++r13)++([32,119,97,105,116,32]:H Q))++r16)]:H (H Q)).length 16 then(
     Gb a2 a1 a0 n (zB .i64 (v3+(1:N))) (v4++([((((((x8.Name++([32,115,116,97,114,116,32]:H Q))++r10)++([32,97,114,114,105,118,101,32]:H Q))++r13)++([32,119,97,105,116,32]:H Q))++r16)]:H (H Q))))
    else G)
    else G)
   else G)
   else G)
  else G)
  else G)
 else G)
 else(
 E v4)
def NH(a0:X7)(a1:H Xa)(a2:H X2):L (H (H Q)):=
(Ny a0 a1 a2).bind fun r1=>
if r1 then(
 Gb a2 a1 a0 bigN (0:N) ([]:H (H Q)))
else(
 E ([]:H (H Q)))
/- impl_within -/
def BN(a0 a1 a2:N):L O:=
if(decide (a1≤a0)) then(
 E (decide (a0≤a2)))
else(
 E F)
/- impl_isPeriod -/
def JO(a0:N):L O:=
(BN a0 (4:N) (2880:N)).bind fun r1=>
if r1 then(
 E ((zB .i64 (C a0 (4:N)))==(0:N)))
else(
 E F)
/- impl_PartOk -/
def M9(a0:Xd):L O:=
(BN a0.Amp (0:N) (1000:N)).bind fun r1=>
if r1 then(
 (JO a0.Period).bind fun r3=>
 if r3 then(
 (BN a0.Phase (0:N) (zB .i64 (a0.Period - (1:N)))).bind fun r5=>
 E r5)
 else(
 E F))
else(
 E F)
/- impl_TideOk -/
def Hv(a0:Xi):P→N→L O
| 0,_=>G
| n+1,v4=>
 if(decide (v4<(a0.Parts.length:N))) then(
 (ix a0.Parts v4).bind fun x6=>
 (M9 x6).bind fun r7=>
 if r7 then(
  Hv a0 n (zB .i64 (v4+(1:N))))
 else(
  E F))
 else(
 E T)
def Mj(a0:Xi):L O:=
(BN a0.Mean (-1000:N) (1000:N)).bind fun r1=>
if r1 then(
 if(decide ((4:N)<(a0.Parts.length:N))) then(
 E F)
 else(
 Hv a0 bigN (0:N)))
else(
 E F)
/- impl_isMinute -/
def CY(a0:N):L O:=
(BN a0 (0:N) (2880:N)).bind fun r1=>
E r1
/- impl_SurgeOk -/
def Mi(a0:Xb):L O:=
(CY a0.From).bind fun r1=>
if r1 then(
 if(decide ((-500:N)≤a0.Low)) then(
 if(decide (a0.Low≤a0.High)) then(
  E (decide (a0.High≤(500:N))))
 else(
  E F))
 else(
 E F))
else(
 E F)
/- impl_ForecastOk -/
def FM(a0:Xc):P→N→L O
| 0,_=>G
| n+1,v7=>
 if(decide (v7<(a0.Surges.length:N))) then(
 (ix a0.Surges v7).bind fun x9=>
 (Mi x9).bind fun r10=>
 if r10 then(
  if(decide ((0:N)<v7)) then(
  (ix a0.Surges (zB .i64 (v7 - (1:N)))).bind fun x13=>
  if(decide (x9.From≤x13.From)) then(
   E F)
  else(
   FM a0 n (zB .i64 (v7+(1:N)))))
  else(
  FM a0 n (zB .i64 (v7+(1:N)))))
 else(
  E F))
 else(
 E T)
def FL(a0:Xc):L O:=
(Mj a0.Tide).bind fun r1=>
if r1 then(
 (BN (a0.Surges.length:N) (1:N) (6:N)).bind fun r3=>
 if r3 then(
 (ix a0.Surges (0:N)).bind fun x5=>
 if(x5.From !=(0:N)) then(
  E F)
 else(
  FM a0 bigN (0:N)))
 else(
 E F))
else(
 E F)
/- impl_IsName -/
def M1(a0:H Q)(v3:N)(En:N→L O):L O:=
En (zB .i64 (v3+(1:N)))
def M0(a0:H Q)(v3:N)(En:N→L O)(v7:O):L O:=
if v7 then(
 M1 a0 v3 En)
else(
 if(v3==(0:N)) then(
 E F)
 else(
 (ix a0 v3).bind fun b10=>
 if(decide ((b10.toNat:N)<(48:N))) then(
  E F)
 else(
  if(decide ((57:N)<(b10.toNat:N))) then(
  E F)
  else(
  M1 a0 v3 En))))
def FN(a0:H Q):P→N→L O
| 0,_=>G
| n+1,v3=>
 if(decide (v3<(a0.length:N))) then(
 (ix a0 v3).bind fun b5=>
 if(decide ((97:N)≤(b5.toNat:N))) then(
  M0 a0 v3 (FN a0 n) (decide ((b5.toNat:N)≤(122:N))))
 else(
  M0 a0 v3 (FN a0 n) F))
 else(
 E T)
def JE(a0:H Q):L O:=
(BN (a0.length:N) (1:N) (8:N)).bind fun r1=>
if r1 then(
 FN a0 bigN (0:N))
else(
 E F)
/- impl_PointNamed -/
def Hq(a1:H Q)(a0:X6):P→N→L N
| 0,_=>G
| n+1,v1=>
 if(decide (v1<(a0.Points.length:N))) then(
 (ix a0.Points v1).bind fun x3=>
 if(x3.Name==a1) then(
  E v1)
 else(
  Hq a1 a0 n (zB .i64 (v1+(1:N)))))
 else(
 E (-1:N))
def Mc(a0:X6)(a1:H Q):L N:=
Hq a1 a0 bigN (0:N)
/- impl_isIndex -/
def BM(a0 a1:N):L O:=
if(decide ((0:N)≤a0)) then(
 E (decide (a0<a1)))
else(
 E F)
/- impl_Segment_joins -/
def Mf(a0:X3)(a1 a2:N):L O:=
if(a0.A==a1) then(
 if(a0.B==a2) then(
 E T)
 else(
 if(a0.A==a2) then(
  E (a0.B==a1))
 else(
  E F)))
else(
 if(a0.A==a2) then(
 E (a0.B==a1))
 else(
 E F))
/- impl_ChartOk -/
def H9(a0:X6)(v11:N)(x13:X3)(y24:H X3)(y25:N)(Ob:N→L O):P→N→L O
| 0,_=>G
| n+1,v26=>
 if(decide (v26<y25)) then(
 (ix y24 v26).bind fun x28=>
 (Mf x28 x13.A x13.B).bind fun r29=>
 if r29 then(
  E F)
 else(
  H9 a0 v11 x13 y24 y25 Ob n (zB .i64 (v26+(1:N)))))
 else(
 Ob (zB .i64 (v11+(1:N))))
def E9(a0:X6):P→N→L O
| 0,_=>G
| n+1,v11=>
 if(decide (v11<(a0.Segments.length:N))) then(
 (ix a0.Segments v11).bind fun x13=>
 (BM x13.A (a0.Points.length:N)).bind fun r14=>
 if r14 then(
  (BM x13.B (a0.Points.length:N)).bind fun r16=>
  if r16 then(
  if(x13.A==x13.B) then(
   E F)
  else(
   (BN x13.Depth (0:N) (3000:N)).bind fun r19=>
   if r19 then(
   (BN x13.Minutes (1:N) (240:N)).bind fun r21=>
   if r21 then(
    (bnd (a0.Segments.length:N) v11 (0:N) a0.Segments.length).bind fun p23=>
    H9 a0 v11 x13 ((a0.Segments.drop p23.1).take (p23.2 - p23.1)) (((a0.Segments.drop p23.1).take (p23.2 - p23.1)).length:N) (E9 a0 n) bigN (0:N))
   else(
    E F))
   else(
   E F)))
  else(
  E F))
 else(
  E F))
 else(
 E T)
def H8(a0:X6):P→N→L O
| 0,_=>G
| n+1,v3=>
 if(decide (v3<(a0.Points.length:N))) then(
 (ix a0.Points v3).bind fun x5=>
 (JE x5.Name).bind fun r6=>
 if r6 then(
  (Mc a0 x5.Name).bind fun r9=>
  if(r9 !=v3) then(
  E F)
  else(
  H8 a0 n (zB .i64 (v3+(1:N)))))
 else(
  E F))
 else(
 E9 a0 bigN (0:N))
def DM(a0:X6):L O:=
if(decide ((8:N)<(a0.Points.length:N))) then(
 E F)
else(
 if(decide ((10:N)<(a0.Segments.length:N))) then(
 E F)
 else(
 H8 a0 bigN (0:N)))
/- impl_ShipOk -/
def Ea(a0:X5):L O:=
(JE a0.Name).bind fun r1=>
if r1 then(
 (BN a0.Length (10:N) (400:N)).bind fun r3=>
 if r3 then(
 (BN a0.Draught (100:N) (2000:N)).bind fun r5=>
 if r5 then(
  (BM a0.Line (4:N)).bind fun r7=>
  if r7 then(
  (BN a0.Tugs (0:N) (4:N)).bind fun r9=>
  E r9)
  else(
  E F))
 else(
  E F))
 else(
 E F))
else(
 E F)
/- impl_ShipNamed -/
def Hu(a1:H Q)(a0:H X5):P→N→L N
| 0,_=>G
| n+1,v1=>
 if(decide (v1<(a0.length:N))) then(
 (ix a0 v1).bind fun x3=>
 if(x3.Name==a1) then(
  E v1)
 else(
  Hu a1 a0 n (zB .i64 (v1+(1:N)))))
 else(
 E (-1:N))
def Mg(a0:H X5)(a1:H Q):L N:=
Hu a1 a0 bigN (0:N)
/- impl_FleetOk -/
def He(a0:H X5):P→N→L O
| 0,_=>G
| n+1,v2=>
 if(decide (v2<(a0.length:N))) then(
 (ix a0 v2).bind fun x4=>
 (Ea x4).bind fun r5=>
 if r5 then(
  (Mg a0 x4.Name).bind fun r7=>
  if(r7 !=v2) then(
  E F)
  else(
  He a0 n (zB .i64 (v2+(1:N)))))
 else(
  E F))
 else(
 E T)
def JC(a0:H X5):L O:=
if(decide ((6:N)<(a0.length:N))) then(
 E F)
else(
 He a0 bigN (0:N))
/- impl_RegimeOk -/
def RP(a0:Xg):L O:=
(BN a0.Gap (0:N) (60:N)).bind fun r1=>
E r1
/- impl_movesOk -/
def FV(a0:H N):P→N→L O
| 0,_=>G
| n+1,v2=>
 if(decide (v2<(a0.length:N))) then(
 (ix a0 v2).bind fun x4=>
 (BN x4 (0:N) (240:N)).bind fun r5=>
 if r5 then(
  FV a0 n (zB .i64 (v2+(1:N))))
 else(
  E F))
 else(
 E T)
def FU(a0:H N):L O:=
if((a0.length:N) !=(64:N)) then(
 E F)
else(
 FV a0 bigN (0:N))
/- impl_CrewOk -/
def LV(a0:Xj):L O:=
(BN a0.Tugs (0:N) (12:N)).bind fun r1=>
if r1 then(
 (BN a0.Pilots (0:N) (12:N)).bind fun r3=>
 if r3 then(
 (CY a0.Rest).bind fun r5=>
 if r5 then(
  (FU a0.Moves).bind fun r7=>
  E r7)
 else(
  E F))
 else(
 E F))
else(
 E F)
/- impl_HarbourOk -/
def JD(a0:X7):L O:=
(FL a0.Forecast).bind fun r1=>
if r1 then(
 (DM a0.Chart).bind fun r3=>
 if r3 then(
 (JC a0.Fleet).bind fun r5=>
 if r5 then(
  (RP a0.Regime).bind fun r7=>
  if r7 then(
  (LV a0.Crew).bind fun r9=>
  E r9)
  else(
  E F))
 else(
  E F))
 else(
 E F))
else(
 E F)
/- impl_callOk -/
def JL(a0:X7)(a1:Xa):L O:=
(BM a1.Ship (a0.Fleet.length:N)).bind fun r1=>
if r1 then(
 (BM a1.From (a0.Chart.Points.length:N)).bind fun r3=>
 if r3 then(
 (BM a1.To (a0.Chart.Points.length:N)).bind fun r5=>
 if r5 then(
  if(a1.From !=a1.To) then(
  (CY a1.Ready).bind fun r9=>
  if r9 then(
   (BN a1.Due a1.Ready (2880:N)).bind fun r11=>
   E r11)
  else(
   E F))
  else(
  E F))
 else(
  E F))
 else(
 E F))
else(
 E F)
/- impl_CallsOk -/
def EQ(a1:H Xa)(v4:N)(a0:X7)(x6:Xa)(y10:H Xa)(y11:N)(Oa:N→L O):P→N→L O
| 0,_=>G
| n+1,v12=>
 if(decide (v12<y11)) then(
 (ix y10 v12).bind fun x14=>
 if(x14.Ship==x6.Ship) then(
  E F)
 else(
  EQ a1 v4 a0 x6 y10 y11 Oa n (zB .i64 (v12+(1:N)))))
 else(
 Oa (zB .i64 (v4+(1:N))))
def DL(a1:H Xa)(a0:X7):P→N→L O
| 0,_=>G
| n+1,v4=>
 if(decide (v4<(a1.length:N))) then(
 (ix a1 v4).bind fun x6=>
 (JL a0 x6).bind fun r7=>
 if r7 then(
  (bnd (a1.length:N) v4 (0:N) a1.length).bind fun p9=>
  EQ a1 v4 a0 x6 ((a1.drop p9.1).take (p9.2 - p9.1)) (((a1.drop p9.1).take (p9.2 - p9.1)).length:N) (DL a1 a0 n) bigN (0:N))
 else(
  E F))
 else(
 E T)
def LU(a0:X7)(a1:H Xa):L O:=
(JD a0).bind fun r1=>
if r1 then(
 if(decide ((6:N)<(a1.length:N))) then(
 E F)
 else(
 DL a1 a0 bigN (0:N)))
else(
 E F)
/- impl_CallOk -/
def LS(a0:X7)(a1:Xa):L O:=
(JD a0).bind fun r1=>
if r1 then(
 (JL a0 a1).bind fun r3=>
 E r3)
else(
 E F)
/- impl_Segment_end -/
def Me(a0:X3)(a1:N):L N:=
if(a1==a0.A) then(
 E a0.B)
else(
 if(a1==a0.B) then(
 E a0.A)
 else(
 E (-1:N)))
/- impl_Chart_points -/
def Hb(r14:N)(a2:H N)(v6:N)(a0:X6)(v7:Xe)(v8:H N)(SV:N→N→Xe→(H N)→L ((H N) × O))(v19:O):L ((H N) × O):=
if v19 then(
 E (([]:H N),F))
else(
 if decide ((0:N)≤r14)&&decide (r14<(8:N)) then(
 if AJ v8.length ([r14]:H N).length 8 then(
  SV r14 (zB .i64 (v6+(1:N))) (⟨((Xe.set v7 (U r14) T)).i0,((Xe.set v7 (U r14) T)).i1,((Xe.set v7 (U r14) T)).i2,((Xe.set v7 (U r14) T)).i3,((Xe.set v7 (U r14) T)).i4,((Xe.set v7 (U r14) T)).i5,((Xe.set v7 (U r14) T)).i6,((Xe.set v7 (U r14) T)).i7⟩:Xe) (v8++([r14]:H N)))
 else G)
 else G)
def FJ(a2:H N)(a0:X6):P→N→N→Xe→(H N)→L ((H N) × O)
| 0,_,_,_,_=>G
| n+1,v5,v6,v7,v8=>
 if(decide (v6<(a2.length:N))) then(
 (ix a2 v6).bind fun x10=>
 (BM x10 (a0.Segments.length:N)).bind fun r11=>
 if r11 then(
  (ix a0.Segments x10).bind fun x13=>
  (Me x13 v5).bind fun r14=>
  if(decide (r14<(0:N))) then(
  Hb r14 a2 v6 a0 v7 v8 (FJ a2 a0 n) T)
  else(
  if decide ((0:N)≤r14)&&decide (r14<(8:N)) then(
   (ix ([v7.i0,v7.i1,v7.i2,v7.i3,v7.i4,v7.i5,v7.i6,v7.i7]:H O) r14).bind fun x17=>
   Hb r14 a2 v6 a0 v7 v8 (FJ a2 a0 n) x17)
  else G))
 else(
  E (([]:H N),F)))
 else(
 E (v8,T))
def Ha(a0:X6)(a1:N)(a2:H N):L ((H N) × O):=
(BM a1 (a0.Points.length:N)).bind fun r1=>
if r1 then(
 if decide ((0:N)≤a1)&&decide (a1<(8:N)) then(
 FJ a2 a0 bigN a1 (0:N) (⟨((Xe.set (⟨F,F,F,F,F,F,F,F⟩:Xe) (U a1) T)).i0,((Xe.set (⟨F,F,F,F,F,F,F,F⟩:Xe) (U a1) T)).i1,((Xe.set (⟨F,F,F,F,F,F,F,F⟩:Xe) (U a1) T)).i2,((Xe.set (⟨F,F,F,F,F,F,F,F⟩:Xe) (U a1) T)).i3,((Xe.set (⟨F,F,F,F,F,F,F,F⟩:Xe) (U a1) T)).i4,((Xe.set (⟨F,F,F,F,F,F,F,F⟩:Xe) (U a1) T)).i5,((Xe.set (⟨F,F,F,F,F,F,F,F⟩:Xe) (U a1) T)).i6,((Xe.set (⟨F,F,F,F,F,F,F,F⟩:Xe) (U a1) T)).i7⟩:Xe) ([a1]:H N))
 else G)
else(
 E (([]:H N),F))
/- impl_RoutePoints -/
def ES(a0:X6)(a1:N)(a2:H N):L (H N):=
(DM a0).bind fun r1=>
if r1 then(
 (Ha a0 a1 a2).bind fun r3=>
 E r3.1)
else(
 E ([]:H N))
/- impl_RouteOk -/
def FQ(a0:X6)(a1:N)(a2:H N):L O:=
(DM a0).bind fun r1=>
if r1 then(
 (Ha a0 a1 a2).bind fun r3=>
 E r3.2)
else(
 E F)
/- impl_Ship_minutes -/
def ET(a0:X5)(a1:X3):L N:=
if a0.Slow then(
 E (zB .i64 ((2:N)*a1.Minutes)))
else(
 E a1.Minutes)
/- impl_onSegment -/
def HC(a0:X6)(a1:N)(a2:X5):L O:=
(DM a0).bind fun r1=>
if r1 then(
 (Ea a2).bind fun r3=>
 if r3 then(
 (BM a1 (a0.Segments.length:N)).bind fun r5=>
 E r5)
 else(
 E F))
else(
 E F)
/- impl_Ship_squat -/
def RS(a0:X5):L N:=
if a0.Slow then(
 E (zB .i64 (X a0.Draught (50:N))))
else(
 E (zB .i64 (X a0.Draught (20:N))))
/- impl_Ship_need -/
def RQ(a0:X5):L N:=
(RS a0).bind fun r1=>
E (zB .i64 ((zB .i64 (a0.Draught+r1))+(50:N)))
/- impl_LevelFor -/
def M4(a0:X6)(a1:N)(a2:X5):L N:=
(HC a0 a1 a2).bind fun r1=>
if r1 then(
 (RQ a2).bind fun r3=>
 (ix a0.Segments a1).bind fun x4=>
 E (zB .i64 (r3 - x4.Depth)))
else(
 E (0:N))
/- impl_windowsOf -/
def HI(a0:N→L O)(v2:N)(Fm:O→N→(H X4)→L (H X4))(v11:O)(v12:H X4):L (H X4):=
Fm v11 (zB .i64 (v2+(1:N))) v12
def JS(a0:N→L O)(v2:N)(Fm:O→N→(H X4)→L (H X4))(v9:H X4):L (H X4):=
(ix v9 (zB .i64 ((v9.length:N) - (1:N)))).bind fun x10=>
HI a0 v2 Fm T (v9.set (U (zB .i64 ((v9.length:N) - (1:N)))) (⟨x10.From,v2⟩:X4))
def F0(a0:N→L O):P→O→N→(H X4)→L (H X4)
| 0,_,_,_=>G
| n+1,v1,v2,v3=>
 if(decide (v2≤(2880:N))) then(
 (a0 v2).bind fun r5=>
 if r5 then(
  if v1 then(
  JS a0 v2 (F0 a0 n) v3)
  else(
  if AJ v3.length ([(⟨v2,(0:N)⟩:X4)]:H X4).length 16 then(
   JS a0 v2 (F0 a0 n) (v3++([(⟨v2,(0:N)⟩:X4)]:H X4)))
  else G))
 else(
  HI a0 v2 (F0 a0 n) F v3))
 else(
 E v3)
def Mz(a0:N→L O):L (H X4):=
F0 a0 bigN F (0:N) ([]:H X4)
/- impl_Wave -/
def Ml(a0 a1:N):L N:=
(JO a1).bind fun r1=>
if r1 then(
 if a1==0 then G else
 if a1==0 then G else
 if(decide ((zB .i64 (X a1 (2:N)))≤(zB .i64 (C (zB .i64 ((zB .i64 (C a0 a1))+a1)) a1)))) then(
 if(zB .i64 ((zB .i64 (X a1 (2:N)))*(zB .i64 (X a1 (2:N)))))==0 then G else
 E (zB .i64 (0 - (zB .i64 (X (zB .i64 ((zB .i64 ((40000:N)*(zB .i64 ((zB .i64 (C (zB .i64 ((zB .i64 (C a0 a1))+a1)) a1)) - (zB .i64 (X a1 (2:N)))))))*(zB .i64 ((zB .i64 (X a1 (2:N))) - (zB .i64 ((zB .i64 (C (zB .i64 ((zB .i64 (C a0 a1))+a1)) a1)) - (zB .i64 (X a1 (2:N))))))))) (zB .i64 ((zB .i64 (X a1 (2:N)))*(zB .i64 (X a1 (2:N))))))))))
 else(
 if(zB .i64 ((zB .i64 (X a1 (2:N)))*(zB .i64 (X a1 (2:N)))))==0 then G else
 E (zB .i64 (X (zB .i64 ((zB .i64 ((40000:N)*(zB .i64 (C (zB .i64 ((zB .i64 (C a0 a1))+a1)) a1))))*(zB .i64 ((zB .i64 (X a1 (2:N))) - (zB .i64 (C (zB .i64 ((zB .i64 (C a0 a1))+a1)) a1)))))) (zB .i64 ((zB .i64 (X a1 (2:N)))*(zB .i64 (X a1 (2:N)))))))))
else(
 E (0:N))
/- impl_Tide_level -/
def Hw(a1:N)(a0:Xi):P→N→N→L N
| 0,_,_=>G
| n+1,v1,v2=>
 if(decide (v2<(a0.Parts.length:N))) then(
 (ix a0.Parts v2).bind fun x4=>
 (Ml (zB .i64 (a1+x4.Phase)) x4.Period).bind fun r5=>
 Hw a1 a0 n (zB .i64 (v1+(zB .i64 (X (zB .i64 (x4.Amp*r5)) (10000:N))))) (zB .i64 (v2+(1:N))))
 else(
 E v1)
def RW(a0:Xi)(a1:N):L N:=
Hw a1 a0 bigN a0.Mean (0:N)
/- impl_Forecast_surge -/
def ER(a1:N)(a0:Xc):P→N→N→L N
| 0,_,_=>G
| n+1,v1,v2=>
 if(decide (v2<(a0.Surges.length:N))) then(
 (ix a0.Surges v2).bind fun x4=>
 if(decide (x4.From≤a1)) then(
  ER a1 a0 n v2 (zB .i64 (v2+(1:N))))
 else(
  ER a1 a0 n v1 (zB .i64 (v2+(1:N)))))
 else(
 E v1)
def LX(a0:Xc)(a1:N):L N:=
ER a1 a0 bigN (0:N) (0:N)
/- impl_Forecast_low -/
def LW(a0:Xc)(a1:N):L N:=
(RW a0.Tide a1).bind fun r1=>
(LX a0 a1).bind fun r2=>
(ix a0.Surges r2).bind fun x3=>
E (zB .i64 (r1+x3.Low))
/- impl_LowWindows_1 -/
def RO(a0:N)(c0:Xc)(c1:N):L O:=
(LW c0 a0).bind fun r1=>
E (decide (c1≤r1))
/- impl_LowWindows -/
def M5(a0:Xc)(a1:N):L (H X4):=
(FL a0).bind fun r1=>
if r1 then(
 (Mz (fun z0=>RO z0 a0 a1)).bind fun r3=>
 E r3)
else(
 E ([]:H X4))
/- impl_MinutesOn -/
def M6(a0:X6)(a1:N)(a2:X5):L N:=
(DM a0).bind fun r1=>
if r1 then(
 (Ea a2).bind fun r3=>
 if r3 then(
 (BM a1 (a0.Segments.length:N)).bind fun r5=>
 if r5 then(
  (ix a0.Segments a1).bind fun x7=>
  (ET a2 x7).bind fun r9=>
  E r9)
 else(
  E (0:N)))
 else(
 E (0:N)))
else(
 E (0:N))
/- impl_WindowsOk -/
def EV(a0:H X4):P→N→L O
| 0,_=>G
| n+1,v1=>
 if(decide (v1<(a0.length:N))) then(
 (ix a0 v1).bind fun x3=>
 if(decide (x3.From<(0:N))) then(
  E F)
 else(
  if(decide (x3.To<x3.From)) then(
  E F)
  else(
  if(decide ((2880:N)<x3.To)) then(
   E F)
  else(
   if(decide ((0:N)<v1)) then(
   (ix a0 (zB .i64 (v1 - (1:N)))).bind fun x8=>
   if(decide (x3.From≤(zB .i64 (x8.To+(1:N))))) then(
    E F)
   else(
    EV a0 n (zB .i64 (v1+(1:N)))))
   else(
   EV a0 n (zB .i64 (v1+(1:N))))))))
 else(
 E T)
def JK(a0:H X4):L O:=
EV a0 bigN (0:N)
/- impl_ShrinkWindows -/
def EU(a1:N)(a0:H X4):P→N→(H X4)→L (H X4)
| 0,_,_=>G
| n+1,v5,v6=>
 if(decide (v5<(a0.length:N))) then(
 (ix a0 v5).bind fun x8=>
 if(decide (a1≤(zB .i64 (x8.To - x8.From)))) then(
  if AJ v6.length ([(⟨x8.From,(zB .i64 (x8.To - a1))⟩:X4)]:H X4).length 16 then(
  EU a1 a0 n (zB .i64 (v5+(1:N))) (v6++([(⟨x8.From,(zB .i64 (x8.To - a1))⟩:X4)]:H X4)))
  else G)
 else(
  EU a1 a0 n (zB .i64 (v5+(1:N))) v6))
 else(
 E v6)
def RU(a0:H X4)(a1:N):L (H X4):=
(JK a0).bind fun r1=>
if r1 then(
 (CY a1).bind fun r3=>
 if r3 then(
 EU a1 a0 bigN (0:N) ([]:H X4))
 else(
 E ([]:H X4)))
else(
 E ([]:H X4))
/- impl_SureStarts -/
def Mh(a0:Xc)(a1:X6)(a2:N)(a3:X5):L (H X4):=
(FL a0).bind fun r1=>
if r1 then(
 (HC a1 a2 a3).bind fun r3=>
 if r3 then(
 (M4 a1 a2 a3).bind fun r5=>
 (M5 a0 r5).bind fun r6=>
 (M6 a1 a2 a3).bind fun r7=>
 (RU r6 r7).bind fun r9=>
 E r9)
 else(
 E ([]:H X4)))
else(
 E ([]:H X4))
/- impl_voyageOf -/
def HG(a4:H N)(a0:Xc)(a1:X6)(a2:X5)(y11:H N)(y12:N):P→N→(H O)→(H N)→(H (H X4))→L (Xh × O)
| 0,_,_,_,_=>G
| n+1,v13,v14,v15,v16=>
 if(decide (v13<y12)) then(
 (ix y11 v13).bind fun x18=>
 (ix a1.Points x18).bind fun x19=>
 if AJ v14.length ([x19.Wait]:H O).length 1 then(
  (ix a4 v13).bind fun x21=>
  (ix a1.Segments x21).bind fun x22=>
  (ET a2 x22).bind fun r23=>
  if AJ v15.length ([r23]:H N).length 8 then(
  (Mh a0 a1 x21 a2).bind fun r25=>
  if AJ v16.length ([r25]:H (H X4)).length 24 then(
   HG a4 a0 a1 a2 y11 y12 n (zB .i64 (v13+(1:N))) (v14++([x19.Wait]:H O)) (v15++([r23]:H N)) (v16++([r25]:H (H X4))))
  else G)
  else G)
 else G)
 else(
 E ((⟨v14,v15,v16⟩:Xh),T))
def HF(a3:N)(a4:H N)(a0:Xc)(a1:X6)(a2:X5)(v7:O):L (Xh × O):=
if v7 then(
 E ((⟨([]:H O),([]:H N),([]:H (H X4))⟩:Xh),F))
else(
 (ES a1 a3 a4).bind fun r9=>
 (bnd (r9.length:N) (a4.length:N) (0:N) r9.length).bind fun p10=>
 HG a4 a0 a1 a2 ((r9.drop p10.1).take (p10.2 - p10.1)) (((r9.drop p10.1).take (p10.2 - p10.1)).length:N) bigN (0:N) ([]:H O) ([]:H N) ([]:H (H X4)))
def HE(a0:Xc)(a1:X6)(a2:X5)(a3:N)(a4:H N):L (Xh × O):=
(FL a0).bind fun r1=>
if r1 then(
 (Ea a2).bind fun r3=>
 if r3 then(
 (FQ a1 a3 a4).bind fun r5=>
 if r5 then(
  HF a3 a4 a0 a1 a2 ((a4.length:N)==(0:N)))
 else(
  HF a3 a4 a0 a1 a2 T))
 else(
 HF a3 a4 a0 a1 a2 T))
else(
 HF a3 a4 a0 a1 a2 T)
/- impl_callVoyage -/
def Hx(a2:H N)(a0:X7)(a1:Xa)(v4:O):L (Xh × O):=
if v4 then(
 E ((⟨([]:H O),([]:H N),([]:H (H X4))⟩:Xh),F))
else(
 (ix a0.Fleet a1.Ship).bind fun x6=>
 (HE a0.Forecast a0.Chart x6 a1.From a2).bind fun r7=>
 E (r7.1,r7.2))
def RX(a0:X7)(a1:Xa)(a2:H N):L (Xh × O):=
(ES a0.Chart a1.From a2).bind fun r1=>
if((r1.length:N)==(0:N)) then(
 Hx a2 a0 a1 T)
else(
 (ix r1 (zB .i64 ((r1.length:N) - (1:N)))).bind fun x3=>
 Hx a2 a0 a1 (x3 !=a1.To))
/- impl_HasMinute -/
def Hg(a1:N)(a0:H X4):P→N→L O
| 0,_=>G
| n+1,v1=>
 if(decide (v1<(a0.length:N))) then(
 (ix a0 v1).bind fun x3=>
 (BN a1 x3.From x3.To).bind fun r4=>
 if r4 then(
  E T)
 else(
  Hg a1 a0 n (zB .i64 (v1+(1:N)))))
 else(
 E F)
def LZ(a0:H X4)(a1:N):L O:=
Hg a1 a0 bigN (0:N)
/- impl_NextMinute -/
def Hm(a1:N)(a0:H X4):P→N→L N
| 0,_=>G
| n+1,v3=>
 if(decide (v3<(a0.length:N))) then(
 (ix a0 v3).bind fun x5=>
 if(decide (a1≤x5.To)) then(
  E (if x5.From<a1 then a1 else x5.From))
 else(
  Hm a1 a0 n (zB .i64 (v3+(1:N)))))
 else(
 E (-1:N))
def M7(a0:H X4)(a1:N):L N:=
(JK a0).bind fun r1=>
if r1 then(
 Hm a1 a0 bigN (0:N))
else(
 E (-1:N))
/- impl_voyage_sail -/
def HH(v4 r10:N)(a0:Xh)(v5:H N)(SX:N→(H N)→L ((H N) × O))(v14:O):L ((H N) × O):=
if v14 then(
 E (([]:H N),F))
else(
 if AJ v5.length ([r10]:H N).length 8 then(
 SX (zB .i64 (v4+(1:N))) (v5++([r10]:H N)))
 else G)
def Ee(a0:Xh):P→N→(H N)→L ((H N) × O)
| 0,_,_=>G
| n+1,v4,v5=>
 if(decide (v4<(a0.sure.length:N))) then(
 (ix v5 (zB .i64 (v4 - (1:N)))).bind fun x7=>
 (ix a0.minutes (zB .i64 (v4 - (1:N)))).bind fun x8=>
 (ix a0.sure v4).bind fun x9=>
 (M7 x9 (zB .i64 (x7+x8))).bind fun r10=>
 if(decide (r10<(0:N))) then(
  HH v4 r10 a0 v5 (Ee a0 n) T)
 else(
  if(decide ((zB .i64 (x7+x8))<r10)) then(
  (ix a0.waits v4).bind fun x13=>
  HH v4 r10 a0 v5 (Ee a0 n) (!x13))
  else(
  HH v4 r10 a0 v5 (Ee a0 n) F)))
 else(
 E (v5,T))
def My(a0:Xh)(a1:N):L ((H N) × O):=
(ix a0.sure (0:N)).bind fun x1=>
(LZ x1 a1).bind fun r2=>
if r2 then(
 Ee a0 bigN (1:N) ([a1]:H N))
else(
 E (([]:H N),F))
/- impl_PassagesOf -/
def Hn(a1:N)(a5 a4:H N)(a0:X6)(a2:X5)(r6:(H N)):P→N→(H X1)→L (H X1)
| 0,_,_=>G
| n+1,v7,v8=>
 if(decide (v7<(a4.length:N))) then(
 (ix a4 v7).bind fun x10=>
 (ix a5 v7).bind fun x11=>
 (CY x11).bind fun r12=>
 if r12 then(
  (ix a0.Segments x10).bind fun x14=>
  (ix r6 v7).bind fun x15=>
  (ET a2 x14).bind fun r16=>
  if AJ v8.length ([(⟨a1,x10,(x15==x14.A),x11,(zB .i64 (x11+r16))⟩:X1)]:H X1).length 40 then(
  Hn a1 a5 a4 a0 a2 r6 n (zB .i64 (v7+(1:N))) (v8++([(⟨a1,x10,(x15==x14.A),x11,(zB .i64 (x11+r16))⟩:X1)]:H X1)))
  else G)
 else(
  E ([]:H X1)))
 else(
 E v8)
def Mb(a0:X6)(a1:N)(a2:X5)(a3:N)(a4 a5:H N):L (H X1):=
(FQ a0 a3 a4).bind fun r1=>
if r1 then(
 (Ea a2).bind fun r3=>
 if r3 then(
 if((a4.length:N) !=(a5.length:N)) then(
  E ([]:H X1))
 else(
  (ES a0 a3 a4).bind fun r6=>
  Hn a1 a5 a4 a0 a2 r6 bigN (0:N) ([]:H X1)))
 else(
 E ([]:H X1)))
else(
 E ([]:H X1))
/- impl_RouteMinutes -/
def Hr(a1:H N)(a0:X6):P→N→N→L N
| 0,_,_=>G
| n+1,v3,v4=>
 if(decide (v4<(a1.length:N))) then(
 (ix a1 v4).bind fun x6=>
 (BM x6 (a0.Segments.length:N)).bind fun r7=>
 if r7 then(
  (ix a0.Segments x6).bind fun x9=>
  Hr a1 a0 n (zB .i64 (v3+x9.Minutes)) (zB .i64 (v4+(1:N))))
 else(
  E (-1:N)))
 else(
 E v3)
def Md(a0:X6)(a1:H N):L N:=
(DM a0).bind fun r1=>
if r1 then(
 Hr a1 a0 bigN (0:N) (0:N))
else(
 E (-1:N))
/- impl_ArrivalOf -/
def LR(a0:X6)(a1:X5)(a2 a3:H N):L N:=
(Md a0 a2).bind fun r1=>
if(decide (r1<(0:N))) then(
 E (-1:N))
else(
 (Ea a1).bind fun r3=>
 if r3 then(
 if((a2.length:N)==(0:N)) then(
  E (-1:N))
 else(
  if((a2.length:N) !=(a3.length:N)) then(
  E (-1:N))
  else(
  (ix a3 (zB .i64 ((a2.length:N) - (1:N)))).bind fun x7=>
  (CY x7).bind fun r9=>
  if r9 then(
   (ix a2 (zB .i64 ((a2.length:N) - (1:N)))).bind fun x11=>
   (ix a0.Segments x11).bind fun x12=>
   (ET a1 x12).bind fun r13=>
   E (zB .i64 (x7+r13)))
  else(
   E (-1:N)))))
 else(
 E (-1:N)))
/- impl_option -/
def FW(a2:Xh)(a4 r5:N)(r4:(H X1)):P→N→N→L (X2 × O)
| 0,_,_=>G
| n+1,v6,v7=>
 if(decide (v6<(a2.minutes.length:N))) then(
 (ix a2.minutes v6).bind fun x9=>
 FW a2 a4 r5 r4 n (zB .i64 (v6+(1:N))) (zB .i64 (v7 - x9)))
 else(
 E ((⟨a4,r5,v7,r4⟩:X2),(decide (r5≤(2880:N)))))
def RZ(a0:X7)(a1:Xa)(a2:Xh)(a3:H N)(a4:N):L (X2 × O):=
(My a2 a4).bind fun r1=>
if r1.2 then(
 (ix a0.Fleet a1.Ship).bind fun x3=>
 (Mb a0.Chart a1.Ship x3 a1.From a3 r1.1).bind fun r4=>
 (LR a0.Chart x3 a3 r1.1).bind fun r5=>
 FW a2 a4 r5 r4 bigN (0:N) (zB .i64 (r5 - a1.Ready)))
else(
 E ((⟨(0:N),(0:N),(0:N),([]:H X1)⟩:X2),F))
/- impl_OptionAt -/
def M8(a2:H N)(a3:N)(a0:X7)(a1:Xa)(v4:O):L (X2 × O):=
if v4 then(
 E ((⟨(0:N),(0:N),(0:N),([]:H X1)⟩:X2),F))
else(
 (RX a0 a1 a2).bind fun r6=>
 if r6.2 then(
 (RZ a0 a1 r6.1 a2 a3).bind fun r9=>
 if r9.2 then(
  E (r9.1,T))
 else(
  E ((⟨(0:N),(0:N),(0:N),([]:H X1)⟩:X2),F)))
 else(
 E ((⟨(0:N),(0:N),(0:N),([]:H X1)⟩:X2),F)))
def JG(a0:X7)(a1:Xa)(a2:H N)(a3:N):L (X2 × O):=
(LS a0 a1).bind fun r1=>
if r1 then(
 (BN a3 a1.Ready a1.Due).bind fun r3=>
 M8 a2 a3 a0 a1 (!r3))
else(
 M8 a2 a3 a0 a1 T)
/- slices_Equal_Passage -/
def I9(a0 a1:H X1):P→N→L O
| 0,_=>G
| n+1,v2=>
 if(decide (v2<(a0.length:N))) then(
 (ix a0 v2).bind fun x4=>
 (ix a1 v2).bind fun x5=>
 if((x4.Ship==x5.Ship)&&((x4.Segment==x5.Segment)&&((x4.Toward==x5.Toward)&&((x4.Start==x5.Start)&&((x4.End==x5.End)&&T))))) then(
  I9 a0 a1 n (zB .i64 (v2+(1:N))))
 else(
  E F))
 else(
 E T)
def Sl(a0 a1:H X1):L O:=
if((a0.length:N) !=(a1.length:N)) then(
 E F)
else(
 I9 a0 a1 bigN (0:N))
/- impl_SameOptions -/
def Ht(a0 a1:X2):L O:=
if(a0.Start==a1.Start) then(
 if(a0.Arrival==a1.Arrival) then(
 if(a0.Cost==a1.Cost) then(
  (Sl a0.Passages a1.Passages).bind fun r4=>
  E r4)
 else(
  E F))
 else(
 E F))
else(
 E F)
/- impl_IsOption -/
def Hk(a2:X2)(a0:X7)(a1:Xa):P→N→(H N)→L O
| 0,_,_=>G
| n+1,v1,v2=>
 if(decide (v1<(a2.Passages.length:N))) then(
 (ix a2.Passages v1).bind fun x4=>
 if AJ v2.length ([x4.Segment]:H N).length 8 then(
  Hk a2 a0 a1 n (zB .i64 (v1+(1:N))) (v2++([x4.Segment]:H N)))
 else G)
 else(
 (JG a0 a1 v2 a2.Start).bind fun r6=>
 if r6.2 then(
  (Ht r6.1 a2).bind fun r9=>
  E r9)
 else(
  E F))
def Hh(a0:X7)(a1:Xa)(a2:X2):L O:=
Hk a2 a0 a1 bigN (0:N) ([]:H N)
/- impl_Overlaps -/
def JH(a0 a1:X1):L O:=
E (decide ((if a0.Start<a1.Start then a1.Start else a0.Start)<(if a1.End<a0.End then a1.End else a0.End)))
/- impl_near -/
def JR(a0 a1 a2:N):L O:=
E (decide ((IntKind.u64.wrap ((IntKind.u64.wrap (if a0<a1 then a1 else a0)) - (IntKind.u64.wrap (if a1<a0 then a1 else a0))))<(IntKind.u64.wrap a2)))
/- impl_conflict -/
def Mq(a2 a3:X1)(v22:O):L N:=
if v22 then(
 E (3:N))
else(
 if(decide (a2.Start<a3.Start)) then(
 if(decide (a3.End<a2.End)) then(
  E (4:N))
 else(
  if(decide (a3.Start<a2.Start)) then(
  if(decide (a2.End<a3.End)) then(
   E (4:N))
  else(
   E (0:N)))
  else(
  E (0:N))))
 else(
 if(decide (a3.Start<a2.Start)) then(
  if(decide (a2.End<a3.End)) then(
  E (4:N))
  else(
  E (0:N)))
 else(
  E (0:N))))
def Hz(a1:Xg)(a2 a3:X1)(v15 v16:O):L N:=
if v15 then(
 E (2:N))
else(
 if(a2.Toward==a3.Toward) then(
 (JR a2.Start a3.Start a1.Gap).bind fun r19=>
 if r19 then(
  Mq a2 a3 T)
 else(
  (JR a2.End a3.End a1.Gap).bind fun r21=>
  Mq a2 a3 r21))
 else(
 E (0:N)))
def Mp(a0:X6)(a1:Xg)(a2 a3:X1)(v7:O):L N:=
if v7 then(
 E (1:N))
else(
 if(a2.Ship==a3.Ship) then(
 E (0:N))
 else(
 if(a2.Toward==a3.Toward) then(
  Hz a1 a2 a3 F a1.NoMeet)
 else(
  (JH a2 a3).bind fun r11=>
  if r11 then(
  if a1.NoMeet then(
   Hz a1 a2 a3 T T)
  else(
   (ix a0.Segments a2.Segment).bind fun x14=>
   Hz a1 a2 a3 (!x14.Meet) F))
  else(
  Hz a1 a2 a3 F a1.NoMeet))))
def Mo(a0:X6)(a1:Xg)(a2 a3:X1)(v3:O):L N:=
if v3 then(
 E (0:N))
else(
 if(a2.Ship==a3.Ship) then(
 (JH a2 a3).bind fun r6=>
 Mp a0 a1 a2 a3 r6)
 else(
 Mp a0 a1 a2 a3 F))
def Mn(a0:X6)(a1:Xg)(a2 a3:X1):L N:=
if(a2.Segment !=a3.Segment) then(
 Mo a0 a1 a2 a3 T)
else(
 (BM a2.Segment (a0.Segments.length:N)).bind fun r2=>
 Mo a0 a1 a2 a3 (!r2))
/- impl_clashes -/
def Hy(a3 a2:H X1)(v1:N)(a0:X6)(a1:Xg)(x3:X1)(Oc:N→L O):P→N→L O
| 0,_=>G
| n+1,v4=>
 if(decide (v4<(a3.length:N))) then(
 (ix a3 v4).bind fun x6=>
 (Mn a0 a1 x3 x6).bind fun r7=>
 if(r7 !=(0:N)) then(
  E T)
 else(
  Hy a3 a2 v1 a0 a1 x3 Oc n (zB .i64 (v4+(1:N)))))
 else(
 Oc (zB .i64 (v1+(1:N))))
def EW(a3 a2:H X1)(a0:X6)(a1:Xg):P→N→L O
| 0,_=>G
| n+1,v1=>
 if(decide (v1<(a2.length:N))) then(
 (ix a2 v1).bind fun x3=>
 Hy a3 a2 v1 a0 a1 x3 (EW a3 a2 a0 a1 n) bigN (0:N))
 else(
 E F)
def Mm(a0:X6)(a1:Xg)(a2 a3:H X1):L O:=
EW a3 a2 a0 a1 bigN (0:N)
/- impl_clone_Option -/
def Eb(a0:H X2):L (H X2):=
(C9 (0:N) (a0.length:N) 48).bind fun n1=>
if AJ (Z n1 (⟨(0:N),(0:N),(0:N),([]:H X1)⟩:X2)).length a0.length 48 then(
 E ((Z n1 (⟨(0:N),(0:N),(0:N),([]:H X1)⟩:X2))++a0))
else G
/- impl_Passage_ends -/
def JI(a0:X1)(a1:X6):L (N × N):=
(ix a1.Segments a0.Segment).bind fun x1=>
if a0.Toward then(
 E (x1.A,x1.B))
else(
 E (x1.B,x1.A))
/- impl_duty -/
def JN(a0:X6)(a1 a2:X1):L X8:=
(JI a1 a0).bind fun r1=>
(JI a2 a0).bind fun r2=>
E (⟨a1.Start,a2.End,r1.1,r2.2⟩:X8)
/- impl_passageOk -/
def Mw(a0:X6)(a1:H X5)(a2:X1):L O:=
(BM a2.Ship (a1.length:N)).bind fun r1=>
if r1 then(
 (BM a2.Segment (a0.Segments.length:N)).bind fun r3=>
 if r3 then(
 (CY a2.Start).bind fun r5=>
 if r5 then(
  if(decide ((2880:N)<a2.End)) then(
  E F)
  else(
  (ix a1 a2.Ship).bind fun x8=>
  (ix a0.Segments a2.Segment).bind fun x9=>
  (ET x8 x9).bind fun r10=>
  E (a2.End==(zB .i64 (a2.Start+r10)))))
 else(
  E F))
 else(
 E F))
else(
 E F)
/- impl_PassageOk -/
def Ma(a0:X6)(a1:H X5)(a2:X1):L O:=
(DM a0).bind fun r1=>
if r1 then(
 (JC a1).bind fun r3=>
 if r3 then(
 (Mw a0 a1 a2).bind fun r5=>
 E r5)
 else(
 E F))
else(
 E F)
/- impl_tugDuties -/
def FX(a1:H X5)(a2:H X1)(v1:N)(x7:X5)(a0:X6)(x4:X1)(Oe:N→(H X8)→L ((H X8) × O)):P→N→(H X8)→L ((H X8) × O)
| 0,_,_=>G
| n+1,v8,v9=>
 if(decide (v8<x7.Tugs)) then(
 (JN a0 x4 x4).bind fun r11=>
 if AJ v9.length ([r11]:H X8).length 32 then(
  FX a1 a2 v1 x7 a0 x4 Oe n (zB .i64 (v8+(1:N))) (v9++([r11]:H X8)))
 else G)
 else(
 if(decide ((12:N)<(v9.length:N))) then(
  E (([]:H X8),F))
 else(
  Oe (zB .i64 (v1+(1:N))) v9))
def EZ(a1:H X5)(a2:H X1)(a0:X6):P→N→(H X8)→L ((H X8) × O)
| 0,_,_=>G
| n+1,v1,v2=>
 if(decide (v1<(a2.length:N))) then(
 (ix a2 v1).bind fun x4=>
 (Ma a0 a1 x4).bind fun r5=>
 if r5 then(
  (ix a1 x4.Ship).bind fun x7=>
  FX a1 a2 v1 x7 a0 x4 (EZ a1 a2 a0 n) bigN (0:N) v2)
 else(
  E (([]:H X8),F)))
 else(
 E (v2,T))
def Mx(a0:X6)(a1:H X5)(a2:H X1):L ((H X8) × O):=
EZ a1 a2 a0 bigN (0:N) ([]:H X8)
/- impl_DutiesOk -/
def Hd(a0:H X8):P→N→L O
| 0,_=>G
| n+1,v2=>
 if(decide (v2<(a0.length:N))) then(
 (ix a0 v2).bind fun x4=>
 if(decide (x4.From<(0:N))) then(
  E F)
 else(
  if(decide (x4.To≤x4.From)) then(
  E F)
  else(
  if(decide ((2880:N)<x4.To)) then(
   E F)
  else(
   (BM x4.A (8:N)).bind fun r9=>
   if r9 then(
   (BM x4.B (8:N)).bind fun r11=>
   if r11 then(
    Hd a0 n (zB .i64 (v2+(1:N))))
   else(
    E F))
   else(
   E F)))))
 else(
 E T)
def Hc(a0:H X8):L O:=
if(decide ((12:N)<(a0.length:N))) then(
 E F)
else(
 Hd a0 bigN (0:N))
/- impl_coverable -/
def RY(a0:N)(a1:H N)(a2:H X8):L O:=
(Hc a2).bind fun r1=>
if r1 then(
 (CY a0).bind fun r3=>
 if r3 then(
 (FU a1).bind fun r5=>
 E r5)
 else(
 E F))
else(
 E F)
/- impl_Gap -/
def Hf(a0:N)(a1:H N)(a2 a3:X8)(v8:O):L (N × O):=
if v8 then(
 E ((0:N),F))
else(
 (ix a1 (zB .i64 ((zB .i64 ((8:N)*a2.B))+a3.A))).bind fun x10=>
 E ((zB .i64 (a0+x10)),T))
def RN(a0:N)(a1:H N)(a2 a3:X8):L (N × O):=
(CY a0).bind fun r1=>
if r1 then(
 (FU a1).bind fun r3=>
 if r3 then(
 (BM a2.B (8:N)).bind fun r5=>
 if r5 then(
  (BM a3.A (8:N)).bind fun r7=>
  Hf a0 a1 a2 a3 (!r7))
 else(
  Hf a0 a1 a2 a3 T))
 else(
 Hf a0 a1 a2 a3 T))
else(
 Hf a0 a1 a2 a3 T)
/- impl_CanFollow -/
def JB(a0:N)(a1:H N)(a2 a3:X8):L O:=
(RN a0 a1 a2 a3).bind fun r1=>
if r1.2 then(
 (Hc ([a2]:H X8)).bind fun r3=>
 if r3 then(
 (Hc ([a3]:H X8)).bind fun r5=>
 if r5 then(
  E (decide ((zB .i64 (a2.To+r1.1))≤a3.From)))
 else(
  E F))
 else(
 E F))
else(
 E F)
/- impl_partners -/
def HD(a0:N)(a1:H N)(a2:H X8)(v2 v6:N)(x5:X8)(v7:H N)(Od:N→(H N)→L (H N))(v14:O):L (H N):=
if v14 then(
 (ix v7 v2).bind fun x16=>
 if decide (v6<0) then G else
 Od (zB .i64 (v6+(1:N))) (v7.set (U v2) (Bq .or .u64 x16 (Bw .u64 (1:N) v6))))
else(
 Od (zB .i64 (v6+(1:N))) v7)
def DO(a0:N)(a1:H N)(a2:H X8)(v2:N)(x5:X8)(IQ:N→(H N)→L (H N)):P→N→(H N)→L (H N)
| 0,_,_=>G
| n+1,v6,v7=>
 if(decide (v6<(a2.length:N))) then(
 (ix a2 v6).bind fun x9=>
 if(v2 !=v6) then(
  (JB a0 a1 x5 x9).bind fun r11=>
  if r11 then(
  HD a0 a1 a2 v2 v6 x5 v7 (DO a0 a1 a2 v2 x5 IQ n) T)
  else(
  (JB a0 a1 x9 x5).bind fun r13=>
  HD a0 a1 a2 v2 v6 x5 v7 (DO a0 a1 a2 v2 x5 IQ n) r13))
 else(
  HD a0 a1 a2 v2 v6 x5 v7 (DO a0 a1 a2 v2 x5 IQ n) F))
 else(
 IQ (zB .i64 (v2+(1:N))) v7)
def EY(a0:N)(a1:H N)(a2:H X8):P→N→(H N)→L (H N)
| 0,_,_=>G
| n+1,v2,v3=>
 if(decide (v2<(a2.length:N))) then(
 (ix a2 v2).bind fun x5=>
 DO a0 a1 a2 v2 x5 (EY a0 a1 a2 n) bigN (0:N) v3)
 else(
 E v3)
def Mv(a0:N)(a1:H N)(a2:H X8):L (H N):=
(C9 (a2.length:N) (a2.length:N) 8).bind fun n1=>
EY a0 a1 a2 bigN (0:N) (Z n1 (0:N))
/- math_bits_Len64 -/
def K6(v8 v9:N):L N:=
(ix ([0,1,2,2,3,3,3,3,4,4,4,4,4,4,4,4,5,5,5,5,5,5,5,5,5,5,5,5,5,5,5,5,6,6,6,6,6,6,6,6,6,6,6,6,6,6,6,6,6,6,6,6,6,6,6,6,6,6,6,6,6,6,6,6,7,7,7,7,7,7,7,7,7,7,7,7,7,7,7,7,7,7,7,7,7,7,7,7,7,7,7,7,7,7,7,7,7,7,7,7,7,7,7,7,7,7,7,7,7,7,7,7,7,7,7,7,7,7,7,7,7,7,7,7,7,7,7,7,8,8,8,8,8,8,8,8,8,8,8,8,8,8,8,8,8,8,8,8,8,8,8,8,8,8,8,8,8,8,8,8,8,8,8,8,8,8,8,8,8,8,8,8,8,8,8,8,8,8,8,8,8,8,8,8,8,8,8,8,8,8,8,8,8,8,8,8,8,8,8,8,8,8,8,8,8,8,8,8,8,8,8,8,8,8,8,8,8,8,8,8,8,8,8,8,8,8,8,8,8,8,8,8,8,8,8,8,8,8,8,8,8,8,8,8,8,8,8,8,8,8,8,8,8,8,8,8]:H Q) (IntKind.u8.wrap v8)).bind fun b10=>
E (zB .i64 (v9+(zB .i64 (b10.toNat:N))))
def Nm(v5 v6:N):L N:=
if(decide ((256:N)≤v5)) then(
 K6 (CH .u64 v5 8) (zB .i64 (v6+(8:N))))
else(
 K6 v5 v6)
def Nl(v2 v3:N):L N:=
if(decide ((65536:N)≤v2)) then(
 Nm (CH .u64 v2 16) (zB .i64 (v3+(16:N))))
else(
 Nm v2 v3)
def Sk(a0:N):L N:=
if(decide ((4294967296:N)≤a0)) then(
 Nl (CH .u64 a0 32) (32:N))
else(
 Nl a0 (0:N))
/- math_bits_Len -/
def K5(a0:N):L N:=
(Sk a0).bind fun r1=>
E r1
/- impl_leastPersons -/
def JQ(a0:H N)(y5 v6:N)(v17 v18 v21:N)(v19:H O)(CD:N→(H O)→(H N)→L N)(SW:N→(H N)→L N)(v28:H N):L N:=
if(v21==(0:N)) then(
 CD (zB .i64 (v6+(1:N))) v19 v28)
else(
 SW (Bq .and .i64 (zB .i64 (v21 - (1:N))) v18) v28)
def FT(a0:H N)(y5 v6:N)(v17 v18:N)(v19:H O)(CD:N→(H O)→(H N)→L N):P→N→(H N)→L N
| 0,_,_=>G
| n+1,v21,v22=>
 if decide (v17<0) then G else
 (ix v19 (Bq .or .i64 v21 (Bw .i64 (1:N) v17))).bind fun x24=>
 if x24 then(
 (ix v22 v6).bind fun x26=>
 (ix v22 (Bq .andNot .i64 v18 v21)).bind fun x27=>
 JQ a0 y5 v6 v17 v18 v21 v19 CD (FT a0 y5 v6 v17 v18 v19 CD n) (v22.set (U v6) (if(zB .i64 ((1:N)+x27))<x26 then(zB .i64 ((1:N)+x27)) else x26)))
 else(
 JQ a0 y5 v6 v17 v18 v21 v19 CD (FT a0 y5 v6 v17 v18 v19 CD n) v22)
def JP(a0:H N)(y5 v6:N)(v8:H N)(CD:N→(H O)→(H N)→L N)(v17 v18:N)(v19:H O):L N:=
(ix v8 v6).bind fun x20=>
FT a0 y5 v6 v17 v18 v19 CD bigN v18 (v8.set (U v6) (a0.length:N))
def Ed(a0:H N)(y5:N):P→N→(H O)→(H N)→L N
| 0,_,_,_=>G
| n+1,v6,v7,v8=>
 if(decide (v6<y5)) then(
 (K5 (IntKind.u64.wrap v6)).bind fun r10=>
 if decide ((zB .i64 (r10 - (1:N)))<0) then G else
 (ix v7 (Bq .andNot .i64 v6 (Bw .i64 (1:N) (zB .i64 (r10 - (1:N)))))).bind fun x12=>
 if x12 then(
  (ix a0 (zB .i64 (r10 - (1:N)))).bind fun x14=>
  (ix v7 v6).bind fun x15=>
  JP a0 y5 v6 v8 (Ed a0 y5 n) (zB .i64 (r10 - (1:N))) (Bq .andNot .i64 v6 (Bw .i64 (1:N) (zB .i64 (r10 - (1:N))))) (v7.set (U v6) ((Bq .andNot .u64 (IntKind.u64.wrap (Bq .andNot .i64 v6 (Bw .i64 (1:N) (zB .i64 (r10 - (1:N)))))) x14)==(0:N))))
 else(
  (ix v7 v6).bind fun x16=>
  JP a0 y5 v6 v8 (Ed a0 y5 n) (zB .i64 (r10 - (1:N))) (Bq .andNot .i64 v6 (Bw .i64 (1:N) (zB .i64 (r10 - (1:N))))) (v7.set (U v6) F)))
 else(
 (ix v8 (zB .i64 (y5 - (1:N)))).bind fun x30=>
 E x30)
def Mu(a0:H N):L N:=
if decide ((a0.length:N)<0) then G else
(C9 (Bw .i64 (1:N) (a0.length:N)) (Bw .i64 (1:N) (a0.length:N)) 1).bind fun n2=>
(C9 (Bw .i64 (1:N) (a0.length:N)) (Bw .i64 (1:N) (a0.length:N)) 8).bind fun n3=>
(ix (Z n2 F) (0:N)).bind fun x4=>
Ed a0 (Bw .i64 (1:N) (a0.length:N)) bigN (1:N) ((Z n2 F).set (U (0:N)) T) (Z n3 (0:N))
/- impl_coverer_cover -/
def HA(rec_:Xf→L (O × Xf))(a0:Xf)(v2:N)(Eo:N→(H N)→N→(H N)→(H N)→L (O × Xf))(v22:H N)(v23:N)(v24 v25:H N):L (O × Xf):=
(ix v24 v2).bind fun x26=>
if(x26==(0:N)) then(
 (bnd (v24.length:N) v2 0 v24.length).bind fun p28=>
 E (F,(⟨v22,v23,(v24.take p28.2),v25⟩:Xf)))
else(
 Eo (zB .i64 (v2+(1:N))) v22 v23 v24 v25)
def JM(rec_:Xf→L (O × Xf))(a0:Xf)(v2:N)(v3:H N)(v4:N)(v6:H N)(Eo:N→(H N)→N→(H N)→(H N)→L (O × Xf))(v11:H N):L (O × Xf):=
(ix v11 v2).bind fun x12=>
(ix v3 (a0.who.length:N)).bind fun x13=>
if((Bq .andNot .u64 x12 x13)==(0:N)) then(
 if decide ((a0.who.length:N)<0) then G else
 if AJ v6.length ([v2]:H N).length 8 then(
 (rec_ (⟨v3,v4,(v11.set (U v2) (Bq .or .u64 x12 (Bw .u64 (1:N) (a0.who.length:N)))),(v6++([v2]:H N))⟩:Xf)).bind fun r17=>
 if r17.1 then(
  E (T,r17.2))
 else(
  (bnd (r17.2.who.length:N) (a0.who.length:N) 0 r17.2.who.length).bind fun p19=>
  (ix r17.2.groups v2).bind fun x20=>
  if decide ((a0.who.length:N)<0) then G else
  HA rec_ a0 v2 Eo r17.2.sets r17.2.most (r17.2.groups.set (U v2) (Bq .andNot .u64 x20 (Bw .u64 (1:N) (a0.who.length:N)))) (r17.2.who.take p19.2)))
 else G)
else(
 HA rec_ a0 v2 Eo v3 v4 v11 v6)
def EX(rec_:Xf→L (O × Xf))(a0:Xf):P→N→(H N)→N→(H N)→(H N)→L (O × Xf)
| 0,_,_,_,_,_=>G
| n+1,v2,v3,v4,v5,v6=>
 if(decide (v2≤(v5.length:N))) then(
 if(decide (v2<v4)) then(
  if(v2==(v5.length:N)) then(
  if AJ v5.length ([(0:N)]:H N).length 8 then(
   JM rec_ a0 v2 v3 v4 v6 (EX rec_ a0 n) (v5++([(0:N)]:H N)))
  else G)
  else(
  JM rec_ a0 v2 v3 v4 v6 (EX rec_ a0 n) v5))
 else(
  E (F,(⟨v3,v4,v5,v6⟩:Xf))))
 else(
 E (F,(⟨v3,v4,v5,v6⟩:Xf)))
def Mr(rec_:Xf→L (O × Xf))(a0:Xf):L (O × Xf):=
if((a0.who.length:N)==(a0.sets.length:N)) then(
 E (T,a0))
else(
 EX rec_ a0 bigN (0:N) a0.sets a0.most a0.groups a0.who)
def DN:P→Xf→L (O × Xf)
| 0,_=>G
| n+1,a0=>Mr (DN n) a0
def Wg(a0:Xf):L (O × Xf):=DN bigN a0
/- impl_LeastCover -/
def M3(a0:N)(a1:H N)(a2:H X8):L ((H N) × N × O):=
(RY a0 a1 a2).bind fun r1=>
if r1 then(
 (Mv a0 a1 a2).bind fun r3=>
 (Mu r3).bind fun r4=>
 (Wg (⟨r3,r4,([]:H N),([]:H N)⟩:Xf)).bind fun r5=>
 E (r5.2.who,r5.2.most,T))
else(
 E (([]:H N),(0:N),F))
/- impl_coverFits -/
def FR(a0:N)(a1:H N)(a2:H X8)(a3:N):L O:=
if(decide ((a2.length:N)≤a3)) then(
 E T)
else(
 (M3 a0 a1 a2).bind fun r2=>
 E (decide (r2.2.1≤a3)))
/- impl_crewFits -/
def FS(a1:H X2)(a0:X7):P→N→(H X1)→(H X8)→L O
| 0,_,_,_=>G
| n+1,v1,v2,v3=>
 if(decide (v1<(a1.length:N))) then(
 (ix a1 v1).bind fun x5=>
 if AJ v2.length x5.Passages.length 40 then(
  if(decide ((0:N)<(x5.Passages.length:N))) then(
  (ix x5.Passages (0:N)).bind fun x8=>
  (ix x5.Passages (zB .i64 ((x5.Passages.length:N) - (1:N)))).bind fun x9=>
  (JN a0.Chart x8 x9).bind fun r10=>
  if AJ v3.length ([r10]:H X8).length 32 then(
   FS a1 a0 n (zB .i64 (v1+(1:N))) (v2++x5.Passages) (v3++([r10]:H X8)))
  else G)
  else(
  FS a1 a0 n (zB .i64 (v1+(1:N))) (v2++x5.Passages) v3))
 else G)
 else(
 (Mx a0.Chart a0.Fleet v2).bind fun r12=>
 if r12.2 then(
  (FR (0:N) a0.Crew.Moves r12.1 a0.Crew.Tugs).bind fun r14=>
  if r14 then(
  (FR a0.Crew.Rest a0.Crew.Moves v3 a0.Crew.Pilots).bind fun r16=>
  E r16)
  else(
  E F))
 else(
  E F))
def Ec(a0:X7)(a1:H X2):L O:=
FS a1 a0 bigN (0:N) ([]:H X1) ([]:H X8)
/- impl_fitsTo -/
def HB(a1:H X2)(a0:X7)(a2:X2):P→N→L O
| 0,_=>G
| n+1,v1=>
 if(decide (v1<(a1.length:N))) then(
 (ix a1 v1).bind fun x3=>
 (Mm a0.Chart a0.Regime x3.Passages a2.Passages).bind fun r4=>
 if r4 then(
  E F)
 else(
  HB a1 a0 a2 n (zB .i64 (v1+(1:N)))))
 else(
 (Eb a1).bind fun r6=>
 if AJ r6.length ([a2]:H X2).length 48 then(
  (Ec a0 (r6++([a2]:H X2))).bind fun r9=>
  E r9)
 else G)
def Ms(a0:X7)(a1:H X2)(a2:X2):L O:=
HB a1 a0 a2 bigN (0:N)
/- impl_IsPlan -/
def FO(a2:H X2)(a1:H Xa)(a0:X7):P→N→L O
| 0,_=>G
| n+1,v4=>
 if(decide (v4<(a1.length:N))) then(
 (ix a1 v4).bind fun x6=>
 (ix a2 v4).bind fun x7=>
 (Hh a0 x6 x7).bind fun r9=>
 if r9 then(
  (bnd (a2.length:N) v4 (0:N) a2.length).bind fun p11=>
  (Ms a0 ((a2.drop p11.1).take (p11.2 - p11.1)) x7).bind fun r12=>
  if r12 then(
  FO a2 a1 a0 n (zB .i64 (v4+(1:N))))
  else(
  E F))
 else(
  E F))
 else(
 E T)
def M2(a0:X7)(a1:H Xa)(a2:H X2):L O:=
(LU a0 a1).bind fun r1=>
if r1 then(
 if((a2.length:N) !=(a1.length:N)) then(
 E F)
 else(
 FO a2 a1 a0 bigN (0:N)))
else(
 E F)
/- impl_FormatInt -/
def LY(a0:N):L (H Q):=
(SA a0).bind fun r1=>
E r1
/- impl_word -/
def MA(a0:Xl):L (H Q):=
if a0.isS then(
 E a0.s)
else(
 (LY a0.n).bind fun r2=>
 E r2)
/- impl_Join -/
def JF(a0:H (H Q))(a1:H Q):L (H Q):=
(SB a0 a1).bind fun r1=>
E r1
/- impl_words -/
def HJ(a0:H Xl):P→N→(H (H Q))→L (H Q)
| 0,_,_=>G
| n+1,v1,v2=>
 if(decide (v1<(a0.length:N))) then(
 (ix a0 v1).bind fun x4=>
 (MA x4).bind fun r5=>
 if AJ v2.length ([r5]:H (H Q)).length 16 then(
  HJ a0 n (zB .i64 (v1+(1:N))) (v2++([r5]:H (H Q))))
 else G)
 else(
 (JF v2 ([32]:H Q)).bind fun r7=>
 E r7)
def MB(a0:H Xl):L (H Q):=
HJ a0 bigN (0:N) ([]:H (H Q))
/- impl_PlanLines -/
def FP(a1:H Xa)(a2:H X2)(a0:X7):P→N→(H (H Q))→L (H (H Q))
| 0,_,_=>G
| n+1,v3,v4=>
 if(decide (v3<(a2.length:N))) then(
 (ix a2 v3).bind fun x6=>
 (ix a1 v3).bind fun x7=>
 (ix a0.Fleet x7.Ship).bind fun x8=>
 (MB ([(⟨T,x8.Name,0⟩:Xl),(⟨T,([115,116,97,114,116]:H Q),0⟩:Xl),(⟨F,[],x6.Start⟩:Xl),(⟨T,([97,114,114,105,118,101]:H Q),0⟩:Xl),(⟨F,[],x6.Arrival⟩:Xl),(⟨T,([119,97,105,116]:H Q),0⟩:Xl),(⟨F,[],x6.Cost⟩:Xl)]:H Xl)).bind fun r9=>
 if AJ v4.length ([r9]:H (H Q)).length 16 then(
  FP a1 a2 a0 n (zB .i64 (v3+(1:N))) (v4++([r9]:H (H Q))))
 else G)
 else(
 E v4)
def JJ(a0:X7)(a1:H Xa)(a2:H X2):L (H (H Q)):=
(M2 a0 a1 a2).bind fun r1=>
if r1 then(
 FP a1 a2 a0 bigN (0:N) ([]:H (H Q)))
else(
 E ([]:H (H Q)))
/- laws_eqStringS -/
def HS(a0 a1:H (H Q)):P→N→L O
| 0,_=>G
| n+1,v2=>
 if(decide (v2<(a0.length:N))) then(
 (ix a0 v2).bind fun x4=>
 (ix a1 v2).bind fun x5=>
 if(x4==x5) then(
  HS a0 a1 n (zB .i64 (v2+(1:N))))
 else(
  E F))
 else(
 E T)
def FY(a0 a1:H (H Q)):L O:=
if((a0.length:N) !=(a1.length:N)) then(
 E F)
else(
 HS a0 a1 bigN (0:N))
/- laws_eqPart -/
def MK(a0 a1:Xd):L O:=
if(a0.Amp !=a1.Amp) then(
 E F)
else(
 if(a0.Period !=a1.Period) then(
 E F)
 else(
 if(a0.Phase !=a1.Phase) then(
  E F)
 else(
  E T)))
/- laws_eqPartS -/
def HN(a0 a1:H Xd):P→N→L O
| 0,_=>G
| n+1,v2=>
 if(decide (v2<(a0.length:N))) then(
 (ix a0 v2).bind fun x4=>
 (ix a1 v2).bind fun x5=>
 (MK x4 x5).bind fun r6=>
 if r6 then(
  HN a0 a1 n (zB .i64 (v2+(1:N))))
 else(
  E F))
 else(
 E T)
def ML(a0 a1:H Xd):L O:=
if((a0.length:N) !=(a1.length:N)) then(
 E F)
else(
 HN a0 a1 bigN (0:N))
/- laws_eqTide -/
def S4(a0 a1:Xi):L O:=
if(a0.Mean !=a1.Mean) then(
 E F)
else(
 (ML a0.Parts a1.Parts).bind fun r2=>
 if r2 then(
 E T)
 else(
 E F))
/- laws_eqSurge -/
def MU(a0 a1:Xb):L O:=
if(a0.From !=a1.From) then(
 E F)
else(
 if(a0.Low !=a1.Low) then(
 E F)
 else(
 if(a0.High !=a1.High) then(
  E F)
 else(
  E T)))
/- laws_eqSurgeS -/
def HT(a0 a1:H Xb):P→N→L O
| 0,_=>G
| n+1,v2=>
 if(decide (v2<(a0.length:N))) then(
 (ix a0 v2).bind fun x4=>
 (ix a1 v2).bind fun x5=>
 (MU x4 x5).bind fun r6=>
 if r6 then(
  HT a0 a1 n (zB .i64 (v2+(1:N))))
 else(
  E F))
 else(
 E T)
def MV(a0 a1:H Xb):L O:=
if((a0.length:N) !=(a1.length:N)) then(
 E F)
else(
 HT a0 a1 bigN (0:N))
/- laws_eqForecast -/
def MF(a0 a1:Xc):L O:=
(S4 a0.Tide a1.Tide).bind fun r1=>
if r1 then(
 (MV a0.Surges a1.Surges).bind fun r3=>
 if r3 then(
 E T)
 else(
 E F))
else(
 E F)
/- laws_eqPoint -/
def MO(a0 a1:X9):L O:=
if(a0.Name==a1.Name) then(
 if(a0.Wait==a1.Wait) then(
 E T)
 else(
 E F))
else(
 E F)
/- laws_eqPointS -/
def HP(a0 a1:H X9):P→N→L O
| 0,_=>G
| n+1,v2=>
 if(decide (v2<(a0.length:N))) then(
 (ix a0 v2).bind fun x4=>
 (ix a1 v2).bind fun x5=>
 (MO x4 x5).bind fun r6=>
 if r6 then(
  HP a0 a1 n (zB .i64 (v2+(1:N))))
 else(
  E F))
 else(
 E T)
def MP(a0 a1:H X9):L O:=
if((a0.length:N) !=(a1.length:N)) then(
 E F)
else(
 HP a0 a1 bigN (0:N))
/- laws_eqSegment -/
def MQ(a0 a1:X3):L O:=
if(a0.A !=a1.A) then(
 E F)
else(
 if(a0.B !=a1.B) then(
 E F)
 else(
 if(a0.Depth !=a1.Depth) then(
  E F)
 else(
  if(a0.Minutes !=a1.Minutes) then(
  E F)
  else(
  if(a0.Meet==a1.Meet) then(
   E T)
  else(
   E F)))))
/- laws_eqSegmentS -/
def HQ(a0 a1:H X3):P→N→L O
| 0,_=>G
| n+1,v2=>
 if(decide (v2<(a0.length:N))) then(
 (ix a0 v2).bind fun x4=>
 (ix a1 v2).bind fun x5=>
 (MQ x4 x5).bind fun r6=>
 if r6 then(
  HQ a0 a1 n (zB .i64 (v2+(1:N))))
 else(
  E F))
 else(
 E T)
def MR(a0 a1:H X3):L O:=
if((a0.length:N) !=(a1.length:N)) then(
 E F)
else(
 HQ a0 a1 bigN (0:N))
/- laws_eqChart -/
def ME(a0 a1:X6):L O:=
(MP a0.Points a1.Points).bind fun r1=>
if r1 then(
 (MR a0.Segments a1.Segments).bind fun r3=>
 if r3 then(
 E T)
 else(
 E F))
else(
 E F)
/- laws_eqShip -/
def MS(a0 a1:X5):L O:=
if(a0.Name==a1.Name) then(
 if(a0.Length !=a1.Length) then(
 E F)
 else(
 if(a0.Draught !=a1.Draught) then(
  E F)
 else(
  if(a0.Line !=a1.Line) then(
  E F)
  else(
  if(a0.Tugs !=a1.Tugs) then(
   E F)
  else(
   if(a0.Slow==a1.Slow) then(
   E T)
   else(
   E F))))))
else(
 E F)
/- laws_eqShipS -/
def HR(a0 a1:H X5):P→N→L O
| 0,_=>G
| n+1,v2=>
 if(decide (v2<(a0.length:N))) then(
 (ix a0 v2).bind fun x4=>
 (ix a1 v2).bind fun x5=>
 (MS x4 x5).bind fun r6=>
 if r6 then(
  HR a0 a1 n (zB .i64 (v2+(1:N))))
 else(
  E F))
 else(
 E T)
def MT(a0 a1:H X5):L O:=
if((a0.length:N) !=(a1.length:N)) then(
 E F)
else(
 HR a0 a1 bigN (0:N))
/- laws_eqRegime -/
def S3(a0 a1:Xg):L O:=
if(a0.Gap !=a1.Gap) then(
 E F)
else(
 if(a0.NoMeet==a1.NoMeet) then(
 E T)
 else(
 E F))
/- laws_eqIntS -/
def HL(a0 a1:H N):P→N→L O
| 0,_=>G
| n+1,v2=>
 if(decide (v2<(a0.length:N))) then(
 (ix a0 v2).bind fun x4=>
 (ix a1 v2).bind fun x5=>
 if(x4 !=x5) then(
  E F)
 else(
  HL a0 a1 n (zB .i64 (v2+(1:N)))))
 else(
 E T)
def MH(a0 a1:H N):L O:=
if((a0.length:N) !=(a1.length:N)) then(
 E F)
else(
 HL a0 a1 bigN (0:N))
/- laws_eqCrew -/
def S2(a0 a1:Xj):L O:=
if(a0.Tugs !=a1.Tugs) then(
 E F)
else(
 if(a0.Pilots !=a1.Pilots) then(
 E F)
 else(
 if(a0.Rest !=a1.Rest) then(
  E F)
 else(
  (MH a0.Moves a1.Moves).bind fun r4=>
  if r4 then(
  E T)
  else(
  E F))))
/- laws_eqHarbour -/
def MG(a0 a1:X7):L O:=
(MF a0.Forecast a1.Forecast).bind fun r1=>
if r1 then(
 (ME a0.Chart a1.Chart).bind fun r3=>
 if r3 then(
 (MT a0.Fleet a1.Fleet).bind fun r5=>
 if r5 then(
  (S3 a0.Regime a1.Regime).bind fun r7=>
  if r7 then(
  (S2 a0.Crew a1.Crew).bind fun r9=>
  if r9 then(
   E T)
  else(
   E F))
  else(
  E F))
 else(
  E F))
 else(
 E F))
else(
 E F)
/- laws_eqCall -/
def S0(a0 a1:Xa):L O:=
if(a0.Ship !=a1.Ship) then(
 E F)
else(
 if(a0.From !=a1.From) then(
 E F)
 else(
 if(a0.To !=a1.To) then(
  E F)
 else(
  if(a0.Ready !=a1.Ready) then(
  E F)
  else(
  if(a0.Due !=a1.Due) then(
   E F)
  else(
   E T)))))
/- laws_eqCallS -/
def HK(a0 a1:H Xa):P→N→L O
| 0,_=>G
| n+1,v2=>
 if(decide (v2<(a0.length:N))) then(
 (ix a0 v2).bind fun x4=>
 (ix a1 v2).bind fun x5=>
 (S0 x4 x5).bind fun r6=>
 if r6 then(
  HK a0 a1 n (zB .i64 (v2+(1:N))))
 else(
  E F))
 else(
 E T)
def MD(a0 a1:H Xa):L O:=
if((a0.length:N) !=(a1.length:N)) then(
 E F)
else(
 HK a0 a1 bigN (0:N))
/- laws_eqPassage -/
def MM(a0 a1:X1):L O:=
if(a0.Ship !=a1.Ship) then(
 E F)
else(
 if(a0.Segment !=a1.Segment) then(
 E F)
 else(
 if(a0.Toward==a1.Toward) then(
  if(a0.Start !=a1.Start) then(
  E F)
  else(
  if(a0.End !=a1.End) then(
   E F)
  else(
   E T)))
 else(
  E F)))
/- laws_eqPassageS -/
def HO(a0 a1:H X1):P→N→L O
| 0,_=>G
| n+1,v2=>
 if(decide (v2<(a0.length:N))) then(
 (ix a0 v2).bind fun x4=>
 (ix a1 v2).bind fun x5=>
 (MM x4 x5).bind fun r6=>
 if r6 then(
  HO a0 a1 n (zB .i64 (v2+(1:N))))
 else(
  E F))
 else(
 E T)
def MN(a0 a1:H X1):L O:=
if((a0.length:N) !=(a1.length:N)) then(
 E F)
else(
 HO a0 a1 bigN (0:N))
/- laws_eqOption -/
def MI(a0 a1:X2):L O:=
if(a0.Start !=a1.Start) then(
 E F)
else(
 if(a0.Arrival !=a1.Arrival) then(
 E F)
 else(
 if(a0.Cost !=a1.Cost) then(
  E F)
 else(
  (MN a0.Passages a1.Passages).bind fun r4=>
  if r4 then(
  E T)
  else(
  E F))))
/- laws_eqOptionS -/
def HM(a0 a1:H X2):P→N→L O
| 0,_=>G
| n+1,v2=>
 if(decide (v2<(a0.length:N))) then(
 (ix a0 v2).bind fun x4=>
 (ix a1 v2).bind fun x5=>
 (MI x4 x5).bind fun r6=>
 if r6 then(
  HM a0 a1 n (zB .i64 (v2+(1:N))))
 else(
  E F))
 else(
 E T)
def MJ(a0 a1:H X2):L O:=
if((a0.length:N) !=(a1.length:N)) then(
 E F)
else(
 HM a0 a1 bigN (0:N))
/- laws_markPartS -/
def F3:P→N→N→(H Xd)→L (N × H Xd)
| 0,_,_,_=>G
| n+1,v1,v2,v3=>
 if(decide (v2<(v3.length:N))) then(
 (ix v3 v2).bind fun x5=>
 (ix (v3.set (U v2) (⟨v1,x5.Period,x5.Phase⟩:Xd)) v2).bind fun x6=>
 (ix ((v3.set (U v2) (⟨v1,x5.Period,x5.Phase⟩:Xd)).set (U v2) (⟨x6.Amp,(zB .i64 (v1+(1:N))),x6.Phase⟩:Xd)) v2).bind fun x7=>
 F3 n (zB .i64 ((zB .i64 ((zB .i64 (v1+(1:N)))+(1:N)))+(1:N))) (zB .i64 (v2+(1:N))) (((v3.set (U v2) (⟨v1,x5.Period,x5.Phase⟩:Xd)).set (U v2) (⟨x6.Amp,(zB .i64 (v1+(1:N))),x6.Phase⟩:Xd)).set (U v2) (⟨x7.Amp,x7.Period,(zB .i64 ((zB .i64 (v1+(1:N)))+(1:N)))⟩:Xd)))
 else(
 E (v1,v3))
def JZ(a0:H Xd)(a1:N):L (N × H Xd):=
F3 bigN a1 (0:N) a0
/- laws_markTide -/
def K4(a0:Xi)(a1:N):L (N × H Xd):=
(JZ a0.Parts a1).bind fun r1=>
E (r1.1,r1.2)
/- laws_markSurgeS -/
def F8:P→N→N→(H Xb)→L (N × H Xb)
| 0,_,_,_=>G
| n+1,v1,v2,v3=>
 if(decide (v2<(v3.length:N))) then(
 (ix v3 v2).bind fun x5=>
 (ix (v3.set (U v2) (⟨v1,x5.Low,x5.High⟩:Xb)) v2).bind fun x6=>
 (ix ((v3.set (U v2) (⟨v1,x5.Low,x5.High⟩:Xb)).set (U v2) (⟨x6.From,(zB .i64 (v1+(1:N))),x6.High⟩:Xb)) v2).bind fun x7=>
 F8 n (zB .i64 ((zB .i64 ((zB .i64 (v1+(1:N)))+(1:N)))+(1:N))) (zB .i64 (v2+(1:N))) (((v3.set (U v2) (⟨v1,x5.Low,x5.High⟩:Xb)).set (U v2) (⟨x6.From,(zB .i64 (v1+(1:N))),x6.High⟩:Xb)).set (U v2) (⟨x7.From,x7.Low,(zB .i64 ((zB .i64 (v1+(1:N)))+(1:N)))⟩:Xb)))
 else(
 E (v1,v3))
def K3(a0:H Xb)(a1:N):L (N × H Xb):=
F8 bigN a1 (0:N) a0
/- laws_markForecast -/
def JX(a0:Xc)(a1:N):L (N × H Xd × H Xb):=
(K4 a0.Tide a1).bind fun r1=>
(K3 a0.Surges r1.1).bind fun r2=>
E (r2.1,r1.2,r2.2)
/- laws_markText -/
def HZ:P→N→(H Q)→L (H Q)
| 0,_,_=>G
| n+1,v2,v3=>
 if(decide ((0:N)<v2)) then(
 if Ce ([(IntKind.u8.wrap (zB .i64 ((48:N)+(zB .i64 (C v2 (10:N))))))]:H N).length v3.length then(
  HZ n (zB .i64 (X v2 (10:N))) ((W GK ([(IntKind.u8.wrap (zB .i64 ((48:N)+(zB .i64 (C v2 (10:N))))))]:H N))++v3))
 else G)
 else(
 if Ce ([109]:H Q).length v3.length then(
  E (([109]:H Q)++v3))
 else G)
def Ef(a0:N):L (H Q):=
if(decide (a0≤(0:N))) then(
 E ([109,48]:H Q))
else(
 HZ bigN a0 ([]:H Q))
/- laws_markPointS -/
def F4:P→N→N→(H X9)→L (N × H X9)
| 0,_,_,_=>G
| n+1,v1,v2,v3=>
 if(decide (v2<(v3.length:N))) then(
 (Ef v1).bind fun r5=>
 (ix v3 v2).bind fun x6=>
 (ix (v3.set (U v2) (⟨r5,x6.Wait⟩:X9)) v2).bind fun x7=>
 F4 n (zB .i64 ((zB .i64 (v1+(1:N)))+(1:N))) (zB .i64 (v2+(1:N))) ((v3.set (U v2) (⟨r5,x6.Wait⟩:X9)).set (U v2) (⟨x7.Name,((zB .i64 (C (zB .i64 (v1+(1:N))) (3:N)))==(0:N))⟩:X9)))
 else(
 E (v1,v3))
def K0(a0:H X9)(a1:N):L (N × H X9):=
F4 bigN a1 (0:N) a0
/- laws_markSegmentS -/
def F5:P→N→N→(H X3)→L (N × H X3)
| 0,_,_,_=>G
| n+1,v1,v2,v3=>
 if(decide (v2<(v3.length:N))) then(
 (ix v3 v2).bind fun x5=>
 (ix (v3.set (U v2) (⟨v1,x5.B,x5.Depth,x5.Minutes,x5.Meet⟩:X3)) v2).bind fun x6=>
 (ix ((v3.set (U v2) (⟨v1,x5.B,x5.Depth,x5.Minutes,x5.Meet⟩:X3)).set (U v2) (⟨x6.A,(zB .i64 (v1+(1:N))),x6.Depth,x6.Minutes,x6.Meet⟩:X3)) v2).bind fun x7=>
 (ix (((v3.set (U v2) (⟨v1,x5.B,x5.Depth,x5.Minutes,x5.Meet⟩:X3)).set (U v2) (⟨x6.A,(zB .i64 (v1+(1:N))),x6.Depth,x6.Minutes,x6.Meet⟩:X3)).set (U v2) (⟨x7.A,x7.B,(zB .i64 ((zB .i64 (v1+(1:N)))+(1:N))),x7.Minutes,x7.Meet⟩:X3)) v2).bind fun x8=>
 (ix ((((v3.set (U v2) (⟨v1,x5.B,x5.Depth,x5.Minutes,x5.Meet⟩:X3)).set (U v2) (⟨x6.A,(zB .i64 (v1+(1:N))),x6.Depth,x6.Minutes,x6.Meet⟩:X3)).set (U v2) (⟨x7.A,x7.B,(zB .i64 ((zB .i64 (v1+(1:N)))+(1:N))),x7.Minutes,x7.Meet⟩:X3)).set (U v2) (⟨x8.A,x8.B,x8.Depth,(zB .i64 ((zB .i64 ((zB .i64 (v1+(1:N)))+(1:N)))+(1:N))),x8.Meet⟩:X3)) v2).bind fun x9=>
 F5 n (zB .i64 ((zB .i64 ((zB .i64 ((zB .i64 ((zB .i64 (v1+(1:N)))+(1:N)))+(1:N)))+(1:N)))+(1:N))) (zB .i64 (v2+(1:N))) (((((v3.set (U v2) (⟨v1,x5.B,x5.Depth,x5.Minutes,x5.Meet⟩:X3)).set (U v2) (⟨x6.A,(zB .i64 (v1+(1:N))),x6.Depth,x6.Minutes,x6.Meet⟩:X3)).set (U v2) (⟨x7.A,x7.B,(zB .i64 ((zB .i64 (v1+(1:N)))+(1:N))),x7.Minutes,x7.Meet⟩:X3)).set (U v2) (⟨x8.A,x8.B,x8.Depth,(zB .i64 ((zB .i64 ((zB .i64 (v1+(1:N)))+(1:N)))+(1:N))),x8.Meet⟩:X3)).set (U v2) (⟨x9.A,x9.B,x9.Depth,x9.Minutes,((zB .i64 (C (zB .i64 ((zB .i64 ((zB .i64 ((zB .i64 (v1+(1:N)))+(1:N)))+(1:N)))+(1:N))) (3:N)))==(0:N))⟩:X3)))
 else(
 E (v1,v3))
def K1(a0:H X3)(a1:N):L (N × H X3):=
F5 bigN a1 (0:N) a0
/- laws_markChart -/
def JV(a0:X6)(a1:N):L (N × H X9 × H X3):=
(K0 a0.Points a1).bind fun r1=>
(K1 a0.Segments r1.1).bind fun r2=>
E (r2.1,r1.2,r2.2)
/- laws_markShipS -/
def F6:P→N→N→(H X5)→L (N × H X5)
| 0,_,_,_=>G
| n+1,v1,v2,v3=>
 if(decide (v2<(v3.length:N))) then(
 (Ef v1).bind fun r5=>
 (ix v3 v2).bind fun x6=>
 (ix (v3.set (U v2) (⟨r5,x6.Length,x6.Draught,x6.Line,x6.Tugs,x6.Slow⟩:X5)) v2).bind fun x7=>
 (ix ((v3.set (U v2) (⟨r5,x6.Length,x6.Draught,x6.Line,x6.Tugs,x6.Slow⟩:X5)).set (U v2) (⟨x7.Name,(zB .i64 (v1+(1:N))),x7.Draught,x7.Line,x7.Tugs,x7.Slow⟩:X5)) v2).bind fun x8=>
 (ix (((v3.set (U v2) (⟨r5,x6.Length,x6.Draught,x6.Line,x6.Tugs,x6.Slow⟩:X5)).set (U v2) (⟨x7.Name,(zB .i64 (v1+(1:N))),x7.Draught,x7.Line,x7.Tugs,x7.Slow⟩:X5)).set (U v2) (⟨x8.Name,x8.Length,(zB .i64 ((zB .i64 (v1+(1:N)))+(1:N))),x8.Line,x8.Tugs,x8.Slow⟩:X5)) v2).bind fun x9=>
 (ix ((((v3.set (U v2) (⟨r5,x6.Length,x6.Draught,x6.Line,x6.Tugs,x6.Slow⟩:X5)).set (U v2) (⟨x7.Name,(zB .i64 (v1+(1:N))),x7.Draught,x7.Line,x7.Tugs,x7.Slow⟩:X5)).set (U v2) (⟨x8.Name,x8.Length,(zB .i64 ((zB .i64 (v1+(1:N)))+(1:N))),x8.Line,x8.Tugs,x8.Slow⟩:X5)).set (U v2) (⟨x9.Name,x9.Length,x9.Draught,(zB .i64 ((zB .i64 ((zB .i64 (v1+(1:N)))+(1:N)))+(1:N))),x9.Tugs,x9.Slow⟩:X5)) v2).bind fun x10=>
 (ix (((((v3.set (U v2) (⟨r5,x6.Length,x6.Draught,x6.Line,x6.Tugs,x6.Slow⟩:X5)).set (U v2) (⟨x7.Name,(zB .i64 (v1+(1:N))),x7.Draught,x7.Line,x7.Tugs,x7.Slow⟩:X5)).set (U v2) (⟨x8.Name,x8.Length,(zB .i64 ((zB .i64 (v1+(1:N)))+(1:N))),x8.Line,x8.Tugs,x8.Slow⟩:X5)).set (U v2) (⟨x9.Name,x9.Length,x9.Draught,(zB .i64 ((zB .i64 ((zB .i64 (v1+(1:N)))+(1:N)))+(1:N))),x9.Tugs,x9.Slow⟩:X5)).set (U v2) (⟨x10.Name,x10.Length,x10.Draught,x10.Line,(zB .i64 ((zB .i64 ((zB .i64 ((zB .i64 (v1+(1:N)))+(1:N)))+(1:N)))+(1:N))),x10.Slow⟩:X5)) v2).bind fun x11=>
 F6 n (zB .i64 ((zB .i64 ((zB .i64 ((zB .i64 ((zB .i64 ((zB .i64 (v1+(1:N)))+(1:N)))+(1:N)))+(1:N)))+(1:N)))+(1:N))) (zB .i64 (v2+(1:N))) ((((((v3.set (U v2) (⟨r5,x6.Length,x6.Draught,x6.Line,x6.Tugs,x6.Slow⟩:X5)).set (U v2) (⟨x7.Name,(zB .i64 (v1+(1:N))),x7.Draught,x7.Line,x7.Tugs,x7.Slow⟩:X5)).set (U v2) (⟨x8.Name,x8.Length,(zB .i64 ((zB .i64 (v1+(1:N)))+(1:N))),x8.Line,x8.Tugs,x8.Slow⟩:X5)).set (U v2) (⟨x9.Name,x9.Length,x9.Draught,(zB .i64 ((zB .i64 ((zB .i64 (v1+(1:N)))+(1:N)))+(1:N))),x9.Tugs,x9.Slow⟩:X5)).set (U v2) (⟨x10.Name,x10.Length,x10.Draught,x10.Line,(zB .i64 ((zB .i64 ((zB .i64 ((zB .i64 (v1+(1:N)))+(1:N)))+(1:N)))+(1:N))),x10.Slow⟩:X5)).set (U v2) (⟨x11.Name,x11.Length,x11.Draught,x11.Line,x11.Tugs,((zB .i64 (C (zB .i64 ((zB .i64 ((zB .i64 ((zB .i64 ((zB .i64 (v1+(1:N)))+(1:N)))+(1:N)))+(1:N)))+(1:N))) (3:N)))==(0:N))⟩:X5)))
 else(
 E (v1,v3))
def K2(a0:H X5)(a1:N):L (N × H X5):=
F6 bigN a1 (0:N) a0
/- laws_markIntS -/
def F2:P→N→N→(H N)→L (N × H N)
| 0,_,_,_=>G
| n+1,v1,v2,v3=>
 if(decide (v2<(v3.length:N))) then(
 (ix v3 v2).bind fun x5=>
 F2 n (zB .i64 (v1+(1:N))) (zB .i64 (v2+(1:N))) (v3.set (U v2) v1))
 else(
 E (v1,v3))
def JY(a0:H N)(a1:N):L (N × H N):=
F2 bigN a1 (0:N) a0
/- laws_markCrew -/
def JW(a0:Xj)(a1:N):L (N × H N):=
(JY a0.Moves a1).bind fun r1=>
E (r1.1,r1.2)
/- laws_markHarbour -/
def HV(a0:X7)(a1:N):L (N × H Xd × H Xb × H X9 × H X3 × H X5 × H N):=
(JX a0.Forecast a1).bind fun r1=>
(JV a0.Chart r1.1).bind fun r2=>
(K2 a0.Fleet r2.1).bind fun r3=>
(JW a0.Crew r3.1).bind fun r4=>
E (r4.1,r1.2.1,r1.2.2,r2.2.1,r2.2.2,r3.2,r4.2)
/- laws_markCallS -/
def F1:P→N→N→(H Xa)→L (N × H Xa)
| 0,_,_,_=>G
| n+1,v1,v2,v3=>
 if(decide (v2<(v3.length:N))) then(
 (ix v3 v2).bind fun x5=>
 (ix (v3.set (U v2) (⟨v1,x5.From,x5.To,x5.Ready,x5.Due⟩:Xa)) v2).bind fun x6=>
 (ix ((v3.set (U v2) (⟨v1,x5.From,x5.To,x5.Ready,x5.Due⟩:Xa)).set (U v2) (⟨x6.Ship,(zB .i64 (v1+(1:N))),x6.To,x6.Ready,x6.Due⟩:Xa)) v2).bind fun x7=>
 (ix (((v3.set (U v2) (⟨v1,x5.From,x5.To,x5.Ready,x5.Due⟩:Xa)).set (U v2) (⟨x6.Ship,(zB .i64 (v1+(1:N))),x6.To,x6.Ready,x6.Due⟩:Xa)).set (U v2) (⟨x7.Ship,x7.From,(zB .i64 ((zB .i64 (v1+(1:N)))+(1:N))),x7.Ready,x7.Due⟩:Xa)) v2).bind fun x8=>
 (ix ((((v3.set (U v2) (⟨v1,x5.From,x5.To,x5.Ready,x5.Due⟩:Xa)).set (U v2) (⟨x6.Ship,(zB .i64 (v1+(1:N))),x6.To,x6.Ready,x6.Due⟩:Xa)).set (U v2) (⟨x7.Ship,x7.From,(zB .i64 ((zB .i64 (v1+(1:N)))+(1:N))),x7.Ready,x7.Due⟩:Xa)).set (U v2) (⟨x8.Ship,x8.From,x8.To,(zB .i64 ((zB .i64 ((zB .i64 (v1+(1:N)))+(1:N)))+(1:N))),x8.Due⟩:Xa)) v2).bind fun x9=>
 F1 n (zB .i64 ((zB .i64 ((zB .i64 ((zB .i64 ((zB .i64 (v1+(1:N)))+(1:N)))+(1:N)))+(1:N)))+(1:N))) (zB .i64 (v2+(1:N))) (((((v3.set (U v2) (⟨v1,x5.From,x5.To,x5.Ready,x5.Due⟩:Xa)).set (U v2) (⟨x6.Ship,(zB .i64 (v1+(1:N))),x6.To,x6.Ready,x6.Due⟩:Xa)).set (U v2) (⟨x7.Ship,x7.From,(zB .i64 ((zB .i64 (v1+(1:N)))+(1:N))),x7.Ready,x7.Due⟩:Xa)).set (U v2) (⟨x8.Ship,x8.From,x8.To,(zB .i64 ((zB .i64 ((zB .i64 (v1+(1:N)))+(1:N)))+(1:N))),x8.Due⟩:Xa)).set (U v2) (⟨x9.Ship,x9.From,x9.To,x9.Ready,(zB .i64 ((zB .i64 ((zB .i64 ((zB .i64 (v1+(1:N)))+(1:N)))+(1:N)))+(1:N)))⟩:Xa)))
 else(
 E (v1,v3))
def JU(a0:H Xa)(a1:N):L (N × H Xa):=
F1 bigN a1 (0:N) a0
/- laws_markPassageS_d -/
def HX(a0:H X1):P→N→N→L N
| 0,_,_=>G
| n+1,v1,v2=>
 if(decide (v2<(a0.length:N))) then(
 (ix a0 v2).bind fun x4=>
 HX a0 n (zB .i64 ((zB .i64 ((zB .i64 ((zB .i64 ((zB .i64 (v1+(1:N)))+(1:N)))+(1:N)))+(1:N)))+(1:N))) (zB .i64 (v2+(1:N))))
 else(
 E v1)
def S6(a0:H X1)(a1:N):L N:=
HX a0 bigN a1 (0:N)
/- laws_markOptionS_d -/
def HW(a0:H X2):P→N→N→L N
| 0,_,_=>G
| n+1,v1,v2=>
 if(decide (v2<(a0.length:N))) then(
 (ix a0 v2).bind fun x4=>
 (S6 x4.Passages (zB .i64 ((zB .i64 ((zB .i64 (v1+(1:N)))+(1:N)))+(1:N)))).bind fun r5=>
 HW a0 n r5 (zB .i64 (v2+(1:N))))
 else(
 E v1)
def S5(a0:H X2)(a1:N):L N:=
HW a0 bigN a1 (0:N)
/- laws_markStringS -/
def F7:P→N→N→(H (H Q))→L (N × H (H Q))
| 0,_,_,_=>G
| n+1,v1,v2,v3=>
 if(decide (v2<(v3.length:N))) then(
 (Ef v1).bind fun r5=>
 (ix v3 v2).bind fun x6=>
 F7 n (zB .i64 (v1+(1:N))) (zB .i64 (v2+(1:N))) (v3.set (U v2) r5))
 else(
 E (v1,v3))
def HY(a0:H (H Q))(a1:N):L (N × H (H Q)):=
F7 bigN a1 (0:N) a0
/- laws_heldStringS -/
def HU(a0:H (H Q)):P→N→N→L N
| 0,_,_=>G
| n+1,v1,v2=>
 if(decide (v2<(a0.length:N))) then(
 (ix a0 v2).bind fun x4=>
 (Ef v1).bind fun r5=>
 if(x4==r5) then(
  HU a0 n (zB .i64 (v1+(1:N))) (zB .i64 (v2+(1:N))))
 else(
  E (-1:N)))
 else(
 E v1)
def JT(a0:H (H Q))(a1:N):L N:=
HU a0 bigN a1 (0:N)
/- laws_FnExactPlanLines -/
def MC(a0:X7)(a1:H Xa)(a2:H X2):L O:=
(MZ a0 (1048576:N)).bind fun r1=>
if(decide (r1<(0:N))) then(
 E T)
else(
 (MW a1 r1).bind fun r3=>
 if(decide (r3<(0:N))) then(
 E T)
 else(
 (N2 a2 r3).bind fun r5=>
 if(decide (r5<(0:N))) then(
  E T)
 else(
  (G3 a0).bind fun r7=>
  (G2 a1).bind fun r9=>
  (G4 a2).bind fun r10=>
  (NH r7 r9 r10).bind fun r11=>
  (G3 a0).bind fun r12=>
  (G2 a1).bind fun r13=>
  (G4 a2).bind fun r14=>
  (JJ r12 r13 r14).bind fun r15=>
  (FY r15 r11).bind fun r16=>
  if r16 then(
  (G3 a0).bind fun r18=>
  (MG r12 r18).bind fun r19=>
  if r19 then(
   (G2 a1).bind fun r21=>
   (MD r13 r21).bind fun r22=>
   if r22 then(
   (G4 a2).bind fun r24=>
   (MJ r14 r24).bind fun r25=>
   if r25 then(
    (HV r12 (1:N)).bind fun r27=>
    (JU r13 r27.1).bind fun r28=>
    (S5 r14 r28.1).bind fun r29=>
    if(decide (r29<(0:N))) then(
    E F)
    else(
    (FY r15 r11).bind fun r31=>
    if r31 then(
     (HY r15 (1:N)).bind fun r33=>
     (JT r33.2 (1:N)).bind fun r34=>
     if(decide (r34<(0:N))) then(
     E F)
     else(
     if(r34 !=r33.1) then(
      E F)
     else(
      (G3 a0).bind fun r37=>
      (G2 a1).bind fun r38=>
      (G4 a2).bind fun r39=>
      (JJ r37 r38 r39).bind fun r40=>
      (FY r40 r11).bind fun r41=>
      if r41 then(
      (JT r33.2 (1:N)).bind fun r43=>
      if(decide (r43<(0:N))) then(
       E F)
      else(
       if(r43 !=r33.1) then(
       E F)
       else(
       E T)))
      else(
      E F))))
    else(
     E F)))
   else(
    E F))
   else(
   E F))
  else(
   E F))
  else(
  E F))))
end Go.Vi
