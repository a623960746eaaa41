/-
Plain definitions of functions. No condition.
-/
import Derived.Test.YthneeiblhklckaaGreatDoorPVi42
import Derived.Test.YthneeiblhklckaaGreatDoorPLa
namespace Go.Vi
set_option linter.all false
open Nat renaming le_of_ble_eq_true → zB
open List renaming map → zC, replicate → zF, not_mem_nil → zG, mem_cons → zI, all_cons → zK, all_nil → zL
open Int renaming toNat → zD, tdiv → zH, tmod → zJ
open And renaming intro → zE
open IntKind renaming wrap → zM
open Bool renaming true → F, false → E
open Option renaming some → O, none → U
open _root_ renaming List → V, Option → W, Int → X, Bool → Y, Nat → Z, UInt8 → zA
def B7(k:IntKind)(x:X)(n:Z):X:=k.wrap (x.fdiv (2 ^ min n k.bits))
theorem Zz{k:IntKind}{x:X}:BI .shr (.v (.sc (.dat (.int k x)))) (.v (.sc (.dat (.int .u64 8))))=O (.v (.sc (.dat (.int k (B7 k x 8))))):=by simp[BI,AA,B7]
theorem je{k:IntKind}{x:X}:AA .shr k x 8=O (.int k (B7 k x 8)):=by simp[AA,B7]
theorem Zv{k:IntKind}{x:X}:BI .shr (.v (.sc (.dat (.int k x)))) (.v (.sc (.dat (.int .u64 16))))=O (.v (.sc (.dat (.int k (B7 k x 16))))):=by simp[BI,AA,B7]
theorem ja{k:IntKind}{x:X}:AA .shr k x 16=O (.int k (B7 k x 16)):=by simp[AA,B7]
theorem Zw{k:IntKind}{x:X}:BI .shr (.v (.sc (.dat (.int k x)))) (.v (.sc (.dat (.int .u64 32))))=O (.v (.sc (.dat (.int k (B7 k x 32))))):=by simp[BI,AA,B7]
theorem jb{k:IntKind}{x:X}:AA .shr k x 32=O (.int k (B7 k x 32)):=by simp[AA,B7]
theorem Zx{k:IntKind}{x:X}:BI .shr (.v (.sc (.dat (.int k x)))) (.v (.sc (.dat (.int .u64 33))))=O (.v (.sc (.dat (.int k (B7 k x 33))))):=by simp[BI,AA,B7]
theorem jc{k:IntKind}{x:X}:AA .shr k x 33=O (.int k (B7 k x 33)):=by simp[AA,B7]
theorem Zy{k:IntKind}{x:X}:BI .shr (.v (.sc (.dat (.int k x)))) (.v (.sc (.dat (.int .u64 45))))=O (.v (.sc (.dat (.int k (B7 k x 45))))):=by simp[BI,AA,B7]
theorem jd{k:IntKind}{x:X}:AA .shr k x 45=O (.int k (B7 k x 45)):=by simp[AA,B7]
structure Xj where
 isS:Y
 s:V zA
 n:X
 deriving DecidableEq
def Ml(x:Xj):D:= .ifc (bif x.isS then 9 else 3) (bif x.isS then .str x.s else .int .i64 x.n)
theorem YL{t:TypeId}{zc:AC}{x:Xj}:G7 t zc (.v (.sc (.dat (Ml x))))=G7 t zc (.v (.sc (.dat (.ifc (bif x.isS then 9 else 3) (bif x.isS then .str x.s else .int .i64 x.n))))):=rfl
def rA(x:Xj):V D:= [Ml x]
theorem na(x:Xj):rA x= [Ml x]:=rfl
instance:Row rA 1:=⟨fun _=>rfl,zB rfl⟩
structure Xh where
 Amp:X
 Period:X
 Phase:X
 deriving DecidableEq
def Xh.row(x:Xh):V D:= [.int .i64 x.Amp,.int .i64 x.Period,.int .i64 x.Phase]
theorem Xh.row_eq(x:Xh):Xh.row x= [.int .i64 x.Amp,.int .i64 x.Period,.int .i64 x.Phase]:=rfl
instance:Row Xh.row 3:=⟨fun _=>rfl,zB rfl⟩
instance:FlatRow Xh.row:=⟨fun x d hd=>by simp only[Xh.row_eq,zI,zG,or_false] at hd; rcases hd with rfl | rfl | rfl<;>rfl⟩
instance:OfTy (.st [(.int .i64),(.int .i64),(.int .i64)]) Xh.row:=⟨fun ds h=>by
 obtain⟨a0,b0,h0,t0,rfl⟩:=h;obtain⟨a1,b1,h1,t1,rfl⟩:=t0;obtain⟨a2,b2,h2,t2,rfl⟩:=t1;obtain rfl:=t2;obtain⟨x0,rfl⟩:=OfTy.of (row:=rI) _ h0;obtain⟨x1,rfl⟩:=OfTy.of (row:=rI) _ h1;obtain⟨x2,rfl⟩:=OfTy.of (row:=rI) _ h2;exact⟨⟨x0,x1,x2⟩,rfl⟩⟩
structure Xn where
 Mean:X
 Parts:V Xh
 deriving DecidableEq
def Xn.row(x:Xn):V D:= [.int .i64 x.Mean,.sl (zC Xh.row x.Parts)]
theorem Xn.row_eq(x:Xn):Xn.row x= [.int .i64 x.Mean,.sl (zC Xh.row x.Parts)]:=rfl
instance:Row Xn.row 2:=⟨fun _=>rfl,zB rfl⟩
instance:OfTy (.st [(.int .i64),(.sl (.st [(.int .i64),(.int .i64),(.int .i64)]))]) Xn.row:=⟨fun ds h=>by
 obtain⟨a0,b0,h0,t0,rfl⟩:=h;obtain⟨a1,b1,h1,t1,rfl⟩:=t0;obtain rfl:=t1;obtain⟨x0,rfl⟩:=OfTy.of (row:=rI) _ h0;obtain⟨x1,rfl⟩:=OfTy.of (row:=(rL Xh.row)) _ h1;exact⟨⟨x0,x1⟩,rfl⟩⟩
structure Xe where
 From:X
 Low:X
 High:X
 deriving DecidableEq
def Xe.row(x:Xe):V D:= [.int .i64 x.From,.int .i64 x.Low,.int .i64 x.High]
theorem Xe.row_eq(x:Xe):Xe.row x= [.int .i64 x.From,.int .i64 x.Low,.int .i64 x.High]:=rfl
instance:Row Xe.row 3:=⟨fun _=>rfl,zB rfl⟩
instance:FlatRow Xe.row:=⟨fun x d hd=>by simp only[Xe.row_eq,zI,zG,or_false] at hd; rcases hd with rfl | rfl | rfl<;>rfl⟩
instance:OfTy (.st [(.int .i64),(.int .i64),(.int .i64)]) Xe.row:=⟨fun ds h=>by
 obtain⟨a0,b0,h0,t0,rfl⟩:=h;obtain⟨a1,b1,h1,t1,rfl⟩:=t0;obtain⟨a2,b2,h2,t2,rfl⟩:=t1;obtain rfl:=t2;obtain⟨x0,rfl⟩:=OfTy.of (row:=rI) _ h0;obtain⟨x1,rfl⟩:=OfTy.of (row:=rI) _ h1;obtain⟨x2,rfl⟩:=OfTy.of (row:=rI) _ h2;exact⟨⟨x0,x1,x2⟩,rfl⟩⟩
structure Xd where
 Tide:Xn
 Surges:V Xe
 deriving DecidableEq
def Xd.row(x:Xd):V D:= [.int .i64 x.Tide.Mean,.sl (zC Xh.row x.Tide.Parts),.sl (zC Xe.row x.Surges)]
theorem Xd.row_eq(x:Xd):Xd.row x= [.int .i64 x.Tide.Mean,.sl (zC Xh.row x.Tide.Parts),.sl (zC Xe.row x.Surges)]:=rfl
instance:Row Xd.row 3:=⟨fun _=>rfl,zB rfl⟩
instance:OfTy (.st [(.st [(.int .i64),(.sl (.st [(.int .i64),(.int .i64),(.int .i64)]))]),(.sl (.st [(.int .i64),(.int .i64),(.int .i64)]))]) Xd.row:=⟨fun ds h=>by
 obtain⟨a0,b0,h0,t0,rfl⟩:=h;obtain⟨a1,b1,h1,t1,rfl⟩:=t0;obtain rfl:=t1;obtain⟨x0,rfl⟩:=OfTy.of (row:=Xn.row) _ h0;obtain⟨x1,rfl⟩:=OfTy.of (row:=(rL Xe.row)) _ h1;exact⟨⟨x0,x1⟩,rfl⟩⟩
structure Xa where
 Name:V zA
 Wait:Y
 deriving DecidableEq
def Xa.row(x:Xa):V D:= [.str x.Name,.bool x.Wait]
theorem Xa.row_eq(x:Xa):Xa.row x= [.str x.Name,.bool x.Wait]:=rfl
instance:Row Xa.row 2:=⟨fun _=>rfl,zB rfl⟩
instance:FlatRow Xa.row:=⟨fun x d hd=>by simp only[Xa.row_eq,zI,zG,or_false] at hd; rcases hd with rfl | rfl<;>rfl⟩
instance:OfTy (.st [.str,.bool]) Xa.row:=⟨fun ds h=>by
 obtain⟨a0,b0,h0,t0,rfl⟩:=h;obtain⟨a1,b1,h1,t1,rfl⟩:=t0;obtain rfl:=t1;obtain⟨x0,rfl⟩:=OfTy.of (row:=rS) _ h0;obtain⟨x1,rfl⟩:=OfTy.of (row:=rB) _ h1;exact⟨⟨x0,x1⟩,rfl⟩⟩
structure X1 where
 A:X
 B:X
 Depth:X
 Minutes:X
 Meet:Y
 deriving DecidableEq
def X1.row(x:X1):V D:= [.int .i64 x.A,.int .i64 x.B,.int .i64 x.Depth,.int .i64 x.Minutes,.bool x.Meet]
theorem X1.row_eq(x:X1):X1.row x= [.int .i64 x.A,.int .i64 x.B,.int .i64 x.Depth,.int .i64 x.Minutes,.bool x.Meet]:=rfl
instance:Row X1.row 5:=⟨fun _=>rfl,zB rfl⟩
instance:FlatRow X1.row:=⟨fun x d hd=>by simp only[X1.row_eq,zI,zG,or_false] at hd; rcases hd with rfl | rfl | rfl | rfl | rfl<;>rfl⟩
instance:OfTy (.st [(.int .i64),(.int .i64),(.int .i64),(.int .i64),.bool]) X1.row:=⟨fun ds h=>by
 obtain⟨a0,b0,h0,t0,rfl⟩:=h;obtain⟨a1,b1,h1,t1,rfl⟩:=t0;obtain⟨a2,b2,h2,t2,rfl⟩:=t1;obtain⟨a3,b3,h3,t3,rfl⟩:=t2;obtain⟨a4,b4,h4,t4,rfl⟩:=t3;obtain rfl:=t4;obtain⟨x0,rfl⟩:=OfTy.of (row:=rI) _ h0;obtain⟨x1,rfl⟩:=OfTy.of (row:=rI) _ h1;obtain⟨x2,rfl⟩:=OfTy.of (row:=rI) _ h2;obtain⟨x3,rfl⟩:=OfTy.of (row:=rI) _ h3;obtain⟨x4,rfl⟩:=OfTy.of (row:=rB) _ h4;exact⟨⟨x0,x1,x2,x3,x4⟩,rfl⟩⟩
structure X5 where
 Points:V Xa
 Segments:V X1
 deriving DecidableEq
def X5.row(x:X5):V D:= [.sl (zC Xa.row x.Points),.sl (zC X1.row x.Segments)]
theorem X5.row_eq(x:X5):X5.row x= [.sl (zC Xa.row x.Points),.sl (zC X1.row x.Segments)]:=rfl
instance:Row X5.row 2:=⟨fun _=>rfl,zB rfl⟩
instance:OfTy (.st [(.sl (.st [.str,.bool])),(.sl (.st [(.int .i64),(.int .i64),(.int .i64),(.int .i64),.bool]))]) X5.row:=⟨fun ds h=>by
 obtain⟨a0,b0,h0,t0,rfl⟩:=h;obtain⟨a1,b1,h1,t1,rfl⟩:=t0;obtain rfl:=t1;obtain⟨x0,rfl⟩:=OfTy.of (row:=(rL Xa.row)) _ h0;obtain⟨x1,rfl⟩:=OfTy.of (row:=(rL X1.row)) _ h1;exact⟨⟨x0,x1⟩,rfl⟩⟩
structure X9 where
 Name:V zA
 Length:X
 Draught:X
 Line:X
 Tugs:X
 Slow:Y
 deriving DecidableEq
def X9.row(x:X9):V D:= [.str x.Name,.int .i64 x.Length,.int .i64 x.Draught,.int .i64 x.Line,.int .i64 x.Tugs,.bool x.Slow]
theorem X9.row_eq(x:X9):X9.row x= [.str x.Name,.int .i64 x.Length,.int .i64 x.Draught,.int .i64 x.Line,.int .i64 x.Tugs,.bool x.Slow]:=rfl
instance:Row X9.row 6:=⟨fun _=>rfl,zB rfl⟩
instance:FlatRow X9.row:=⟨fun x d hd=>by simp only[X9.row_eq,zI,zG,or_false] at hd; rcases hd with rfl | rfl | rfl | rfl | rfl | rfl<;>rfl⟩
instance:OfTy (.st [.str,(.int .i64),(.int .i64),(.int .i64),(.int .i64),.bool]) X9.row:=⟨fun ds h=>by
 obtain⟨a0,b0,h0,t0,rfl⟩:=h;obtain⟨a1,b1,h1,t1,rfl⟩:=t0;obtain⟨a2,b2,h2,t2,rfl⟩:=t1;obtain⟨a3,b3,h3,t3,rfl⟩:=t2;obtain⟨a4,b4,h4,t4,rfl⟩:=t3;obtain⟨a5,b5,h5,t5,rfl⟩:=t4;obtain rfl:=t5;obtain⟨x0,rfl⟩:=OfTy.of (row:=rS) _ h0;obtain⟨x1,rfl⟩:=OfTy.of (row:=rI) _ h1;obtain⟨x2,rfl⟩:=OfTy.of (row:=rI) _ h2;obtain⟨x3,rfl⟩:=OfTy.of (row:=rI) _ h3;obtain⟨x4,rfl⟩:=OfTy.of (row:=rI) _ h4;obtain⟨x5,rfl⟩:=OfTy.of (row:=rB) _ h5;exact⟨⟨x0,x1,x2,x3,x4,x5⟩,rfl⟩⟩
structure Xl where
 Gap:X
 NoMeet:Y
 deriving DecidableEq
def Xl.row(x:Xl):V D:= [.int .i64 x.Gap,.bool x.NoMeet]
theorem Xl.row_eq(x:Xl):Xl.row x= [.int .i64 x.Gap,.bool x.NoMeet]:=rfl
instance:Row Xl.row 2:=⟨fun _=>rfl,zB rfl⟩
instance:FlatRow Xl.row:=⟨fun x d hd=>by simp only[Xl.row_eq,zI,zG,or_false] at hd; rcases hd with rfl | rfl<;>rfl⟩
instance:OfTy (.st [(.int .i64),.bool]) Xl.row:=⟨fun ds h=>by
 obtain⟨a0,b0,h0,t0,rfl⟩:=h;obtain⟨a1,b1,h1,t1,rfl⟩:=t0;obtain rfl:=t1;obtain⟨x0,rfl⟩:=OfTy.of (row:=rI) _ h0;obtain⟨x1,rfl⟩:=OfTy.of (row:=rB) _ h1;exact⟨⟨x0,x1⟩,rfl⟩⟩
structure Xo where
 Tugs:X
 Pilots:X
 Rest:X
 Moves:V X
 deriving DecidableEq
def Xo.row(x:Xo):V D:= [.int .i64 x.Tugs,.int .i64 x.Pilots,.int .i64 x.Rest,.sl (zC rI x.Moves)]
theorem Xo.row_eq(x:Xo):Xo.row x= [.int .i64 x.Tugs,.int .i64 x.Pilots,.int .i64 x.Rest,.sl (zC rI x.Moves)]:=rfl
instance:Row Xo.row 4:=⟨fun _=>rfl,zB rfl⟩
instance:OfTy (.st [(.int .i64),(.int .i64),(.int .i64),(.sl (.int .i64))]) Xo.row:=⟨fun ds h=>by
 obtain⟨a0,b0,h0,t0,rfl⟩:=h;obtain⟨a1,b1,h1,t1,rfl⟩:=t0;obtain⟨a2,b2,h2,t2,rfl⟩:=t1;obtain⟨a3,b3,h3,t3,rfl⟩:=t2;obtain rfl:=t3;obtain⟨x0,rfl⟩:=OfTy.of (row:=rI) _ h0;obtain⟨x1,rfl⟩:=OfTy.of (row:=rI) _ h1;obtain⟨x2,rfl⟩:=OfTy.of (row:=rI) _ h2;obtain⟨x3,rfl⟩:=OfTy.of (row:=(rL rI)) _ h3;exact⟨⟨x0,x1,x2,x3⟩,rfl⟩⟩
structure X3 where
 Forecast:Xd
 Chart:X5
 Fleet:V X9
 Regime:Xl
 Crew:Xo
 deriving DecidableEq
def X3.row(x:X3):V D:= [.int .i64 x.Forecast.Tide.Mean,.sl (zC Xh.row x.Forecast.Tide.Parts),.sl (zC Xe.row x.Forecast.Surges),.sl (zC Xa.row x.Chart.Points),.sl (zC X1.row x.Chart.Segments),.sl (zC X9.row x.Fleet),.int .i64 x.Regime.Gap,.bool x.Regime.NoMeet,.int .i64 x.Crew.Tugs,.int .i64 x.Crew.Pilots,.int .i64 x.Crew.Rest,.sl (zC rI x.Crew.Moves)]
theorem X3.row_eq(x:X3):X3.row x= [.int .i64 x.Forecast.Tide.Mean,.sl (zC Xh.row x.Forecast.Tide.Parts),.sl (zC Xe.row x.Forecast.Surges),.sl (zC Xa.row x.Chart.Points),.sl (zC X1.row x.Chart.Segments),.sl (zC X9.row x.Fleet),.int .i64 x.Regime.Gap,.bool x.Regime.NoMeet,.int .i64 x.Crew.Tugs,.int .i64 x.Crew.Pilots,.int .i64 x.Crew.Rest,.sl (zC rI x.Crew.Moves)]:=rfl
instance:Row X3.row 12:=⟨fun _=>rfl,zB rfl⟩
instance:OfTy (.st [(.st [(.st [(.int .i64),(.sl (.st [(.int .i64),(.int .i64),(.int .i64)]))]),(.sl (.st [(.int .i64),(.int .i64),(.int .i64)]))]),(.st [(.sl (.st [.str,.bool])),(.sl (.st [(.int .i64),(.int .i64),(.int .i64),(.int .i64),.bool]))]),(.sl (.st [.str,(.int .i64),(.int .i64),(.int .i64),(.int .i64),.bool])),(.st [(.int .i64),.bool]),(.st [(.int .i64),(.int .i64),(.int .i64),(.sl (.int .i64))])]) X3.row:=⟨fun ds h=>by
 obtain⟨a0,b0,h0,t0,rfl⟩:=h;obtain⟨a1,b1,h1,t1,rfl⟩:=t0;obtain⟨a2,b2,h2,t2,rfl⟩:=t1;obtain⟨a3,b3,h3,t3,rfl⟩:=t2;obtain⟨a4,b4,h4,t4,rfl⟩:=t3;obtain rfl:=t4;obtain⟨x0,rfl⟩:=OfTy.of (row:=Xd.row) _ h0;obtain⟨x1,rfl⟩:=OfTy.of (row:=X5.row) _ h1;obtain⟨x2,rfl⟩:=OfTy.of (row:=(rL X9.row)) _ h2;obtain⟨x3,rfl⟩:=OfTy.of (row:=Xl.row) _ h3;obtain⟨x4,rfl⟩:=OfTy.of (row:=Xo.row) _ h4;exact⟨⟨x0,x1,x2,x3,x4⟩,rfl⟩⟩
structure X7 where
 Ship:X
 From:X
 To:X
 Ready:X
 Due:X
 deriving DecidableEq
def X7.row(x:X7):V D:= [.int .i64 x.Ship,.int .i64 x.From,.int .i64 x.To,.int .i64 x.Ready,.int .i64 x.Due]
theorem X7.row_eq(x:X7):X7.row x= [.int .i64 x.Ship,.int .i64 x.From,.int .i64 x.To,.int .i64 x.Ready,.int .i64 x.Due]:=rfl
instance:Row X7.row 5:=⟨fun _=>rfl,zB rfl⟩
instance:FlatRow X7.row:=⟨fun x d hd=>by simp only[X7.row_eq,zI,zG,or_false] at hd; rcases hd with rfl | rfl | rfl | rfl | rfl<;>rfl⟩
instance:OfTy (.st [(.int .i64),(.int .i64),(.int .i64),(.int .i64),(.int .i64)]) X7.row:=⟨fun ds h=>by
 obtain⟨a0,b0,h0,t0,rfl⟩:=h;obtain⟨a1,b1,h1,t1,rfl⟩:=t0;obtain⟨a2,b2,h2,t2,rfl⟩:=t1;obtain⟨a3,b3,h3,t3,rfl⟩:=t2;obtain⟨a4,b4,h4,t4,rfl⟩:=t3;obtain rfl:=t4;obtain⟨x0,rfl⟩:=OfTy.of (row:=rI) _ h0;obtain⟨x1,rfl⟩:=OfTy.of (row:=rI) _ h1;obtain⟨x2,rfl⟩:=OfTy.of (row:=rI) _ h2;obtain⟨x3,rfl⟩:=OfTy.of (row:=rI) _ h3;obtain⟨x4,rfl⟩:=OfTy.of (row:=rI) _ h4;exact⟨⟨x0,x1,x2,x3,x4⟩,rfl⟩⟩
structure X4 where
 b:V X
 i:X
 h:X
 deriving DecidableEq
def X4.row(x:X4):V D:= [.sl (zC r8 x.b),.int .i64 x.i,.int .i64 x.h]
theorem X4.row_eq(x:X4):X4.row x= [.sl (zC r8 x.b),.int .i64 x.i,.int .i64 x.h]:=rfl
instance:Row X4.row 3:=⟨fun _=>rfl,zB rfl⟩
instance:OfTy (.st [(.sl (.int .u8)),(.int .i64),(.int .i64)]) X4.row:=⟨fun ds h=>by
 obtain⟨a0,b0,h0,t0,rfl⟩:=h;obtain⟨a1,b1,h1,t1,rfl⟩:=t0;obtain⟨a2,b2,h2,t2,rfl⟩:=t1;obtain rfl:=t2;obtain⟨x0,rfl⟩:=OfTy.of (row:=(rL r8)) _ h0;obtain⟨x1,rfl⟩:=OfTy.of (row:=rI) _ h1;obtain⟨x2,rfl⟩:=OfTy.of (row:=rI) _ h2;exact⟨⟨x0,x1,x2⟩,rfl⟩⟩
structure X2 where
 Ship:X
 Segment:X
 Toward:Y
 Start:X
 End:X
 deriving DecidableEq
def X2.row(x:X2):V D:= [.int .i64 x.Ship,.int .i64 x.Segment,.bool x.Toward,.int .i64 x.Start,.int .i64 x.End]
theorem X2.row_eq(x:X2):X2.row x= [.int .i64 x.Ship,.int .i64 x.Segment,.bool x.Toward,.int .i64 x.Start,.int .i64 x.End]:=rfl
instance:Row X2.row 5:=⟨fun _=>rfl,zB rfl⟩
instance:FlatRow X2.row:=⟨fun x d hd=>by simp only[X2.row_eq,zI,zG,or_false] at hd; rcases hd with rfl | rfl | rfl | rfl | rfl<;>rfl⟩
instance:OfTy (.st [(.int .i64),(.int .i64),.bool,(.int .i64),(.int .i64)]) X2.row:=⟨fun ds h=>by
 obtain⟨a0,b0,h0,t0,rfl⟩:=h;obtain⟨a1,b1,h1,t1,rfl⟩:=t0;obtain⟨a2,b2,h2,t2,rfl⟩:=t1;obtain⟨a3,b3,h3,t3,rfl⟩:=t2;obtain⟨a4,b4,h4,t4,rfl⟩:=t3;obtain rfl:=t4;obtain⟨x0,rfl⟩:=OfTy.of (row:=rI) _ h0;obtain⟨x1,rfl⟩:=OfTy.of (row:=rI) _ h1;obtain⟨x2,rfl⟩:=OfTy.of (row:=rB) _ h2;obtain⟨x3,rfl⟩:=OfTy.of (row:=rI) _ h3;obtain⟨x4,rfl⟩:=OfTy.of (row:=rI) _ h4;exact⟨⟨x0,x1,x2,x3,x4⟩,rfl⟩⟩
structure X0 where
 Start:X
 Arrival:X
 Cost:X
 Passages:V X2
 deriving DecidableEq
def X0.row(x:X0):V D:= [.int .i64 x.Start,.int .i64 x.Arrival,.int .i64 x.Cost,.sl (zC X2.row x.Passages)]
theorem X0.row_eq(x:X0):X0.row x= [.int .i64 x.Start,.int .i64 x.Arrival,.int .i64 x.Cost,.sl (zC X2.row x.Passages)]:=rfl
instance:Row X0.row 4:=⟨fun _=>rfl,zB rfl⟩
instance:OfTy (.st [(.int .i64),(.int .i64),(.int .i64),(.sl (.st [(.int .i64),(.int .i64),.bool,(.int .i64),(.int .i64)]))]) X0.row:=⟨fun ds h=>by
 obtain⟨a0,b0,h0,t0,rfl⟩:=h;obtain⟨a1,b1,h1,t1,rfl⟩:=t0;obtain⟨a2,b2,h2,t2,rfl⟩:=t1;obtain⟨a3,b3,h3,t3,rfl⟩:=t2;obtain rfl:=t3;obtain⟨x0,rfl⟩:=OfTy.of (row:=rI) _ h0;obtain⟨x1,rfl⟩:=OfTy.of (row:=rI) _ h1;obtain⟨x2,rfl⟩:=OfTy.of (row:=rI) _ h2;obtain⟨x3,rfl⟩:=OfTy.of (row:=(rL X2.row)) _ h3;exact⟨⟨x0,x1,x2,x3⟩,rfl⟩⟩
structure X6 where
 i0:Y
 i1:Y
 i2:Y
 i3:Y
 i4:Y
 i5:Y
 i6:Y
 i7:Y
 deriving DecidableEq
def X6.row(x:X6):V D:= [.bool x.i0,.bool x.i1,.bool x.i2,.bool x.i3,.bool x.i4,.bool x.i5,.bool x.i6,.bool x.i7]
theorem X6.row_eq(x:X6):X6.row x= [.bool x.i0,.bool x.i1,.bool x.i2,.bool x.i3,.bool x.i4,.bool x.i5,.bool x.i6,.bool x.i7]:=rfl
instance:Row X6.row 8:=⟨fun _=>rfl,zB rfl⟩
def X6.set(x:X6)(n:Z)(v:Y):X6:=⟨bif n==0 then v else x.i0,bif n==1 then v else x.i1,bif n==2 then v else x.i2,bif n==3 then v else x.i3,bif n==4 then v else x.i4,bif n==5 then v else x.i5,bif n==6 then v else x.i6,bif n==7 then v else x.i7⟩
theorem X6.set_eq(x:X6){n:Z}{v:Y}(h:n<8):BB (zC AC.dat (X6.row x)) n [.dat (.bool v)]=zC AC.dat (X6.row (X6.set x n v)):=by
 match n,h with
 | 0,_=>rfl
 | 1,_=>rfl
 | 2,_=>rfl
 | 3,_=>rfl
 | 4,_=>rfl
 | 5,_=>rfl
 | 6,_=>rfl
 | 7,_=>rfl
instance:FlatRow X6.row:=⟨fun x d hd=>by simp only[X6.row_eq,zI,zG,or_false] at hd; rcases hd with rfl | rfl | rfl | rfl | rfl | rfl | rfl | rfl<;>rfl⟩
instance:OfTy (.st [.bool,.bool,.bool,.bool,.bool,.bool,.bool,.bool]) X6.row:=⟨fun ds h=>by
 obtain⟨a0,b0,h0,t0,rfl⟩:=h;obtain⟨a1,b1,h1,t1,rfl⟩:=t0;obtain⟨a2,b2,h2,t2,rfl⟩:=t1;obtain⟨a3,b3,h3,t3,rfl⟩:=t2;obtain⟨a4,b4,h4,t4,rfl⟩:=t3;obtain⟨a5,b5,h5,t5,rfl⟩:=t4;obtain⟨a6,b6,h6,t6,rfl⟩:=t5;obtain⟨a7,b7,h7,t7,rfl⟩:=t6;obtain rfl:=t7;obtain⟨x0,rfl⟩:=OfTy.of (row:=rB) _ h0;obtain⟨x1,rfl⟩:=OfTy.of (row:=rB) _ h1;obtain⟨x2,rfl⟩:=OfTy.of (row:=rB) _ h2;obtain⟨x3,rfl⟩:=OfTy.of (row:=rB) _ h3;obtain⟨x4,rfl⟩:=OfTy.of (row:=rB) _ h4;obtain⟨x5,rfl⟩:=OfTy.of (row:=rB) _ h5;obtain⟨x6,rfl⟩:=OfTy.of (row:=rB) _ h6;obtain⟨x7,rfl⟩:=OfTy.of (row:=rB) _ h7;exact⟨⟨x0,x1,x2,x3,x4,x5,x6,x7⟩,rfl⟩⟩
structure X8 where
 From:X
 To:X
 deriving DecidableEq
def X8.row(x:X8):V D:= [.int .i64 x.From,.int .i64 x.To]
theorem X8.row_eq(x:X8):X8.row x= [.int .i64 x.From,.int .i64 x.To]:=rfl
instance:Row X8.row 2:=⟨fun _=>rfl,zB rfl⟩
instance:FlatRow X8.row:=⟨fun x d hd=>by simp only[X8.row_eq,zI,zG,or_false] at hd; rcases hd with rfl | rfl<;>rfl⟩
instance:OfTy (.st [(.int .i64),(.int .i64)]) X8.row:=⟨fun ds h=>by
 obtain⟨a0,b0,h0,t0,rfl⟩:=h;obtain⟨a1,b1,h1,t1,rfl⟩:=t0;obtain rfl:=t1;obtain⟨x0,rfl⟩:=OfTy.of (row:=rI) _ h0;obtain⟨x1,rfl⟩:=OfTy.of (row:=rI) _ h1;exact⟨⟨x0,x1⟩,rfl⟩⟩
structure Xk where
 waits:V Y
 minutes:V X
 sure:V (V X8)
 deriving DecidableEq
def Xk.row(x:Xk):V D:= [.sl (zC rB x.waits),.sl (zC rI x.minutes),.sl (zC (rL X8.row) x.sure)]
theorem Xk.row_eq(x:Xk):Xk.row x= [.sl (zC rB x.waits),.sl (zC rI x.minutes),.sl (zC (rL X8.row) x.sure)]:=rfl
instance:Row Xk.row 3:=⟨fun _=>rfl,zB rfl⟩
instance:OfTy (.st [(.sl .bool),(.sl (.int .i64)),(.sl (.sl (.st [(.int .i64),(.int .i64)])))]) Xk.row:=⟨fun ds h=>by
 obtain⟨a0,b0,h0,t0,rfl⟩:=h;obtain⟨a1,b1,h1,t1,rfl⟩:=t0;obtain⟨a2,b2,h2,t2,rfl⟩:=t1;obtain rfl:=t2;obtain⟨x0,rfl⟩:=OfTy.of (row:=(rL rB)) _ h0;obtain⟨x1,rfl⟩:=OfTy.of (row:=(rL rI)) _ h1;obtain⟨x2,rfl⟩:=OfTy.of (row:=(rL (rL X8.row))) _ h2;exact⟨⟨x0,x1,x2⟩,rfl⟩⟩
structure Xi where
 i0:X
 i1:X
 deriving DecidableEq
def Xi.row(x:Xi):V D:= [.int .i64 x.i0,.int .i64 x.i1]
theorem Xi.row_eq(x:Xi):Xi.row x= [.int .i64 x.i0,.int .i64 x.i1]:=rfl
instance:Row Xi.row 2:=⟨fun _=>rfl,zB rfl⟩
instance:FlatRow Xi.row:=⟨fun x d hd=>by simp only[Xi.row_eq,zI,zG,or_false] at hd; rcases hd with rfl | rfl<;>rfl⟩
instance:OfTy (.st [(.int .i64),(.int .i64)]) Xi.row:=⟨fun ds h=>by
 obtain⟨a0,b0,h0,t0,rfl⟩:=h;obtain⟨a1,b1,h1,t1,rfl⟩:=t0;obtain rfl:=t1;obtain⟨x0,rfl⟩:=OfTy.of (row:=rI) _ h0;obtain⟨x1,rfl⟩:=OfTy.of (row:=rI) _ h1;exact⟨⟨x0,x1⟩,rfl⟩⟩
structure Xc where
 h:X3
 choices:V (V X0)
 plan:V X0
 choice:V X
 best:V X
 least:Xi
 found:Y
abbrev CT(F_w0:FuncId)(caps_w0:V D)(x:Xc):V XC:= [.d (.int .i64 x.h.Forecast.Tide.Mean),.d (.sl (zC Xh.row x.h.Forecast.Tide.Parts)),.d (.sl (zC Xe.row x.h.Forecast.Surges)),.d (.sl (zC Xa.row x.h.Chart.Points)),.d (.sl (zC X1.row x.h.Chart.Segments)),.d (.sl (zC X9.row x.h.Fleet)),.d (.int .i64 x.h.Regime.Gap),.d (.bool x.h.Regime.NoMeet),.d (.int .i64 x.h.Crew.Tugs),.d (.int .i64 x.h.Crew.Pilots),.d (.int .i64 x.h.Crew.Rest),.d (.sl (zC rI x.h.Crew.Moves)),.d (.sl (zC (rL X0.row) x.choices)),.d (.clo F_w0 caps_w0),.r 0,.r 1,.r 2,.d (.int .i64 x.least.i0),.d (.int .i64 x.least.i1),.d (.bool x.found)]
abbrev CU(x:Xc):Ap:= [(4,zC X0.row x.plan),(1,zC rI x.choice),(1,zC rI x.best)]
structure Xb where
 From:X
 To:X
 A:X
 B:X
 deriving DecidableEq
def Xb.row(x:Xb):V D:= [.int .i64 x.From,.int .i64 x.To,.int .i64 x.A,.int .i64 x.B]
theorem Xb.row_eq(x:Xb):Xb.row x= [.int .i64 x.From,.int .i64 x.To,.int .i64 x.A,.int .i64 x.B]:=rfl
instance:Row Xb.row 4:=⟨fun _=>rfl,zB rfl⟩
instance:FlatRow Xb.row:=⟨fun x d hd=>by simp only[Xb.row_eq,zI,zG,or_false] at hd; rcases hd with rfl | rfl | rfl | rfl<;>rfl⟩
instance:OfTy (.st [(.int .i64),(.int .i64),(.int .i64),(.int .i64)]) Xb.row:=⟨fun ds h=>by
 obtain⟨a0,b0,h0,t0,rfl⟩:=h;obtain⟨a1,b1,h1,t1,rfl⟩:=t0;obtain⟨a2,b2,h2,t2,rfl⟩:=t1;obtain⟨a3,b3,h3,t3,rfl⟩:=t2;obtain rfl:=t3;obtain⟨x0,rfl⟩:=OfTy.of (row:=rI) _ h0;obtain⟨x1,rfl⟩:=OfTy.of (row:=rI) _ h1;obtain⟨x2,rfl⟩:=OfTy.of (row:=rI) _ h2;obtain⟨x3,rfl⟩:=OfTy.of (row:=rI) _ h3;exact⟨⟨x0,x1,x2,x3⟩,rfl⟩⟩
structure Xf where
 sets:V X
 most:X
 groups:V X
 who:V X
 deriving DecidableEq
def Xf.row(x:Xf):V D:= [.sl (zC rU x.sets),.int .i64 x.most,.sl (zC rU x.groups),.sl (zC rI x.who)]
theorem Xf.row_eq(x:Xf):Xf.row x= [.sl (zC rU x.sets),.int .i64 x.most,.sl (zC rU x.groups),.sl (zC rI x.who)]:=rfl
instance:Row Xf.row 4:=⟨fun _=>rfl,zB rfl⟩
instance:OfTy (.st [(.sl (.int .u64)),(.int .i64),(.sl (.int .u64)),(.sl (.int .i64))]) Xf.row:=⟨fun ds h=>by
 obtain⟨a0,b0,h0,t0,rfl⟩:=h;obtain⟨a1,b1,h1,t1,rfl⟩:=t0;obtain⟨a2,b2,h2,t2,rfl⟩:=t1;obtain⟨a3,b3,h3,t3,rfl⟩:=t2;obtain rfl:=t3;obtain⟨x0,rfl⟩:=OfTy.of (row:=(rL rU)) _ h0;obtain⟨x1,rfl⟩:=OfTy.of (row:=rI) _ h1;obtain⟨x2,rfl⟩:=OfTy.of (row:=(rL rU)) _ h2;obtain⟨x3,rfl⟩:=OfTy.of (row:=(rL rI)) _ h3;exact⟨⟨x0,x1,x2,x3⟩,rfl⟩⟩
abbrev C6(x:Xf):V XC:= [.d (.sl (zC rU x.sets)),.d (.int .i64 x.most),.r 0,.r 1]
abbrev C7(x:Xf):Ap:= [(1,zC rU x.groups),(1,zC rI x.who)]
def oO:=zE @Uo (zE @Zz (zE @je (zE @Zv (zE @ja (zE @Zw (zE @jb (zE @Zx (zE @jc (zE @Zy (zE @jd (zE @YL (zE @na (zE @Xh.row_eq (zE @Xn.row_eq (zE @Xe.row_eq (zE @Xd.row_eq (zE @Xa.row_eq (zE @X1.row_eq (zE @X5.row_eq (zE @X9.row_eq (zE @Xl.row_eq (zE @Xo.row_eq (zE @X3.row_eq (zE @X7.row_eq (zE @X4.row_eq (zE @X2.row_eq (zE @X0.row_eq (zE @X6.row_eq (zE @X8.row_eq (zE @Xk.row_eq (zE @Xi.row_eq (zE @Xb.row_eq (@Xf.row_eq)))))))))))))))))))))))))))))))))
def J:=zE oP (zE oR (zE oS (zE oQ oO)))
def ID(a0:V X)(v1:X):W X4:=
O (⟨a0,(0:X),v1⟩:X4)
def Hc(a0:V X):Z→X→X→W X4
| 0,_,_=>U
| n+1,v1,v2=>
 if(decide (v2<(a0.length:X))) then(
 if(decide (v2<(4000:X))) then(
  (ix a0 v2).bind fun x5=>
  Hc a0 n (AI .and .i64 (zM .i64 ((zM .i64 ((zM .i64 (v1*(79:X)))+(zM .i64 x5)))+(7:X))) (1073741823:X)) (zM .i64 (v2+(1:X))))
 else(
  ID a0 v1))
 else(
 ID a0 v1)
def KR(a0:V X):W X4:=
Hc a0 bigN (zM .i64 ((1976:X)+(a0.length:X))) (0:X)
def ET(a0:X4):W (X × X4):=
if(decide (a0.i<(a0.b.length:X))) then(
 (ix a0.b a0.i).bind fun x2=>
 O ((AI .and .i64 (zM .i64 ((AI .and .i64 (AI .xor .i64 (B7 .i64 (zM .i64 ((zM .i64 (a0.h*(6364136223846793005:X)))+(1442695040888963407:X))) 33) (B7 .i64 (zM .i64 ((zM .i64 (a0.h*(6364136223846793005:X)))+(1442695040888963407:X))) 45)) (255:X))+(zM .i64 x2))) (255:X)),(⟨a0.b,(zM .i64 (a0.i+(1:X))),(zM .i64 ((zM .i64 (a0.h*(6364136223846793005:X)))+(1442695040888963407:X)))⟩:X4)))
else(
 O ((AI .and .i64 (AI .xor .i64 (B7 .i64 (zM .i64 ((zM .i64 (a0.h*(6364136223846793005:X)))+(1442695040888963407:X))) 33) (B7 .i64 (zM .i64 ((zM .i64 (a0.h*(6364136223846793005:X)))+(1442695040888963407:X))) 45)) (255:X)),(⟨a0.b,a0.i,(zM .i64 ((zM .i64 (a0.h*(6364136223846793005:X)))+(1442695040888963407:X)))⟩:X4)))
def An(a0:X4)(a1:X):W (X × X4):=
if(decide (a1≤(0:X))) then(
 O ((0:X),a0))
else(
 if(decide (a1≤(256:X))) then(
 (ET a0).bind fun r3=>
 if a1==0 then U else
 O ((zM .i64 (zJ r3.1 a1)),r3.2))
 else(
 (ET a0).bind fun r5=>
 (ET r5.2).bind fun r6=>
 (ET r6.2).bind fun r7=>
 (ET r7.2).bind fun r9=>
 if a1==0 then U else
 O ((zM .i64 (zJ (zM .i64 ((zM .i64 ((zM .i64 ((zM .i64 (r5.1*(16777216:X)))+(zM .i64 (r6.1*(65536:X)))))+(zM .i64 (r7.1*(256:X)))))+r9.1)) a1)),r9.2)))
def KT(a0:X4)(a1:V X):W (X × X4):=
(An a0 (a1.length:X)).bind fun r1=>
(ix a1 r1.1).bind fun x2=>
O (x2,r1.2)
def DB(a0:X4):W (Xh × X4):=
(An a0 (300:X)).bind fun r1=>
(KT r1.2 ([(744:X),(720:X),(1440:X),(372:X),(240:X)]:V X)).bind fun r2=>
(An r2.2 r2.1).bind fun r3=>
O ((⟨r1.1,r2.1,r3.1⟩:Xh),r3.2)
def Hd(r1:X × X4):Z→X→(V X)→X→X→(V Xh)→W (Xn × X4)
| 0,_,_,_,_,_=>U
| n+1,v3,v4,v5,v6,v7=>
 if(decide ((0:X)<v3)) then(
 (DB (⟨v4,v5,v6⟩:X4)).bind fun r9=>
 if A7 v7.length ([r9.1]:V Xh).length 24 then(
  Hd r1 n (zM .i64 (v3 - (1:X))) r9.2.b r9.2.i r9.2.h (v7++([r9.1]:V Xh)))
 else U)
 else(
 O ((⟨r1.1,v7⟩:Xn),(⟨v4,v5,v6⟩:X4)))
def KU(a0:X4):W (Xn × X4):=
(An a0 (300:X)).bind fun r1=>
(An r1.2 (2:X)).bind fun r2=>
Hd r1 bigN (zM .i64 ((1:X)+r2.1)) r2.2.b r2.2.i r2.2.h ([]:V Xh)
def EU(r1:Xn × X4):Z→X→X→(V X)→X→X→(V Xe)→W (Xd × X4)
| 0,_,_,_,_,_,_=>U
| n+1,v3,v4,v5,v6,v7,v8=>
 if(decide ((0:X)<v4)) then(
 (An (⟨v5,v6,v7⟩:X4) (60:X)).bind fun r10=>
 (An r10.2 (60:X)).bind fun r11=>
 if A7 v8.length ([(⟨v3,(zM .i64 (r10.1 - (40:X))),(zM .i64 ((zM .i64 (r10.1 - (40:X)))+r11.1))⟩:Xe)]:V Xe).length 24 then(
  (An r11.2 (700:X)).bind fun r13=>
  EU r1 n (zM .i64 ((zM .i64 (v3+(100:X)))+r13.1)) (zM .i64 (v4 - (1:X))) r13.2.b r13.2.i r13.2.h (v8++([(⟨v3,(zM .i64 (r10.1 - (40:X))),(zM .i64 ((zM .i64 (r10.1 - (40:X)))+r11.1))⟩:Xe)]:V Xe)))
 else U)
 else(
 O ((⟨r1.1,v8⟩:Xd),(⟨v5,v6,v7⟩:X4)))
def IE(a0:X4):W (Xd × X4):=
(KU a0).bind fun r1=>
(An r1.2 (3:X)).bind fun r2=>
EU r1 bigN (0:X) (zM .i64 ((1:X)+r2.1)) r2.2.b r2.2.i r2.2.h ([]:V Xe)
def Cu(a0:X4)(a1:X):W (Y × X4):=
(An a0 a1).bind fun r1=>
O ((r1.1==(0:X)),r1.2)
def IF(v15:V X)(v16 v17:X)(v18:V Xa)(v19:V X1):W (X5 × X4):=
(Cu (⟨v15,v16,v17⟩:X4) (3:X)).bind fun r20=>
if r20.1 then(
 if A7 v18.length ([(⟨([100,111,99,107]:V zA),F⟩:Xa)]:V Xa).length 24 then(
 (An r20.2 (300:X)).bind fun r23=>
 if A7 v19.length ([(⟨(2:X),(4:X),(zM .i64 ((800:X)+r23.1)),(15:X),E⟩:X1)]:V X1).length 40 then(
  O ((⟨(v18++([(⟨([100,111,99,107]:V zA),F⟩:Xa)]:V Xa)),(v19++([(⟨(2:X),(4:X),(zM .i64 ((800:X)+r23.1)),(15:X),E⟩:X1)]:V X1))⟩:X5),r23.2))
 else U)
 else U)
else(
 O ((⟨v18,v19⟩:X5),r20.2))
def KV(a0:X4):W (X5 × X4):=
(Cu a0 (2:X)).bind fun r1=>
(An r1.2 (300:X)).bind fun r2=>
(An r2.2 (40:X)).bind fun r3=>
(An r3.2 (300:X)).bind fun r4=>
(An r4.2 (30:X)).bind fun r5=>
(Cu r5.2 (2:X)).bind fun r6=>
(An r6.2 (200:X)).bind fun r7=>
(An r7.2 (20:X)).bind fun r9=>
(Cu r9.2 (3:X)).bind fun r10=>
if r10.1 then(
 (An r10.2 (300:X)).bind fun r12=>
 (An r12.2 (30:X)).bind fun r13=>
 if A7 ([(⟨(0:X),(1:X),(zM .i64 ((900:X)+r2.1)),(zM .i64 ((10:X)+r3.1)),E⟩:X1),(⟨(1:X),(2:X),(zM .i64 ((800:X)+r4.1)),(zM .i64 ((10:X)+r5.1)),r6.1⟩:X1),(⟨(2:X),(3:X),(zM .i64 ((900:X)+r7.1)),(zM .i64 ((5:X)+r9.1)),E⟩:X1)]:V X1).length ([(⟨(3:X),(1:X),(zM .i64 ((700:X)+r12.1)),(zM .i64 ((20:X)+r13.1)),F⟩:X1)]:V X1).length 40 then(
 IF r13.2.b r13.2.i r13.2.h ([(⟨([115,101,97]:V zA),F⟩:Xa),(⟨([98,97,114]:V zA),E⟩:Xa),(⟨([114,111,97,100]:V zA),r1.1⟩:Xa),(⟨([113,117,97,121]:V zA),F⟩:Xa)]:V Xa) (([(⟨(0:X),(1:X),(zM .i64 ((900:X)+r2.1)),(zM .i64 ((10:X)+r3.1)),E⟩:X1),(⟨(1:X),(2:X),(zM .i64 ((800:X)+r4.1)),(zM .i64 ((10:X)+r5.1)),r6.1⟩:X1),(⟨(2:X),(3:X),(zM .i64 ((900:X)+r7.1)),(zM .i64 ((5:X)+r9.1)),E⟩:X1)]:V X1)++([(⟨(3:X),(1:X),(zM .i64 ((700:X)+r12.1)),(zM .i64 ((20:X)+r13.1)),F⟩:X1)]:V X1)))
 else U)
else(
 IF r10.2.b r10.2.i r10.2.h ([(⟨([115,101,97]:V zA),F⟩:Xa),(⟨([98,97,114]:V zA),E⟩:Xa),(⟨([114,111,97,100]:V zA),r1.1⟩:Xa),(⟨([113,117,97,121]:V zA),F⟩:Xa)]:V Xa) ([(⟨(0:X),(1:X),(zM .i64 ((900:X)+r2.1)),(zM .i64 ((10:X)+r3.1)),E⟩:X1),(⟨(1:X),(2:X),(zM .i64 ((800:X)+r4.1)),(zM .i64 ((10:X)+r5.1)),r6.1⟩:X1),(⟨(2:X),(3:X),(zM .i64 ((900:X)+r7.1)),(zM .i64 ((5:X)+r9.1)),E⟩:X1)]:V X1))
def N1(rec_:X→W (V zA)):Z→X→(V zA)→W (V zA)
| 0,_,_=>U
| n+1,v6,v7=>
 if(decide ((9:X)<v6)) then(
 if Bm ([(IntKind.u8.wrap (zM .i64 ((48:X)+(zM .i64 (zJ v6 (10:X))))))]:V X).length v7.length then(
  N1 rec_ n (zM .i64 (zH v6 (10:X))) ((zC LR ([(IntKind.u8.wrap (zM .i64 ((48:X)+(zM .i64 (zJ v6 (10:X))))))]:V X))++v7))
 else U)
 else(
 if Bm ([(IntKind.u8.wrap (zM .i64 ((48:X)+v6)))]:V X).length v7.length then(
  O ((zC LR ([(IntKind.u8.wrap (zM .i64 ((48:X)+v6)))]:V X))++v7))
 else U)
def P2(rec_:X→W (V zA))(a0:X):W (V zA):=
if(decide (a0<(0:X))) then(
 if((zM .i64 (zH a0 (10:X)))==(0:X)) then(
 if Bm ([45]:V zA).length ([(IntKind.u8.wrap (zM .i64 ((48:X) - a0)))]:V X).length then(
  O (([45]:V zA)++(zC LR ([(IntKind.u8.wrap (zM .i64 ((48:X) - a0)))]:V X))))
 else U)
 else(
 (rec_ (zM .i64 (zH a0 (10:X)))).bind fun r4=>
 if Bm r4.length ([(IntKind.u8.wrap (zM .i64 ((48:X) - (zM .i64 (zJ a0 (10:X))))))]:V X).length then(
  O (r4++(zC LR ([(IntKind.u8.wrap (zM .i64 ((48:X) - (zM .i64 (zJ a0 (10:X))))))]:V X))))
 else U))
else(
 N1 rec_ bigN a0 ([]:V zA))
def KP:Z→X→W (V zA)
| 0,_=>U
| n+1,a0=>P2 (KP n) a0
def P1(a0:X):W (V zA):=KP bigN a0
def IG(a0:X4)(a1:X):W (X9 × X4):=
(P1 a1).bind fun r1=>
if Bm ([115]:V zA).length r1.length then(
 (An a0 (200:X)).bind fun r3=>
 (An r3.2 (500:X)).bind fun r4=>
 (An r4.2 (4:X)).bind fun r5=>
 (An r5.2 (3:X)).bind fun r6=>
 (Cu r6.2 (4:X)).bind fun r7=>
 O ((⟨(([115]:V zA)++r1),(zM .i64 ((40:X)+r3.1)),(zM .i64 ((600:X)+r4.1)),r5.1,r6.1,r7.1⟩:X9),r7.2))
else U
def He:Z→X→(V X)→X→X→(V X9)→W ((V X9) × X4)
| 0,_,_,_,_,_=>U
| n+1,v2,v3,v4,v5,v6=>
 if(decide ((0:X)<v2)) then(
 (IG (⟨v3,v4,v5⟩:X4) (v6.length:X)).bind fun r9=>
 if A7 v6.length ([r9.1]:V X9).length 56 then(
  He n (zM .i64 (v2 - (1:X))) r9.2.b r9.2.i r9.2.h (v6++([r9.1]:V X9)))
 else U)
 else(
 O (v6,(⟨v3,v4,v5⟩:X4)))
def KW(a0:X4)(a1:X):W ((V X9) × X4):=
(An a0 a1).bind fun r1=>
He bigN (zM .i64 ((1:X)+r1.1)) r1.2.b r1.2.i r1.2.h ([]:V X9)
def KX(a0:X4):W (Xl × X4):=
(An a0 (30:X)).bind fun r1=>
(Cu r1.2 (4:X)).bind fun r2=>
O ((⟨r1.1,r2.1⟩:Xl),r2.2)
def N2:W (V X):=
(BT (64:X) (64:X) 8).bind fun n1=>
O (zF n1 (0:X))
def FN(r1:(V X)):Z→X→(V X)→X→X→(V X)→W ((V X) × X4)
| 0,_,_,_,_,_=>U
| n+1,v2,v3,v4,v5,v6=>
 if(decide (v2<(r1.length:X))) then(
 if((zM .i64 (zJ v2 (9:X))) !=(0:X)) then(
  (An (⟨v3,v4,v5⟩:X4) (5:X)).bind fun r9=>
  (ix v6 v2).bind fun x10=>
  FN r1 n (zM .i64 (v2+(1:X))) r9.2.b r9.2.i r9.2.h (v6.set (zD v2) (zM .i64 ((5:X)*r9.1))))
 else(
  FN r1 n (zM .i64 (v2+(1:X))) v3 v4 v5 v6))
 else(
 O (v6,(⟨v3,v4,v5⟩:X4)))
def KY(a0:X4):W ((V X) × X4):=
(N2).bind fun r1=>
FN r1 bigN (0:X) a0.b a0.i a0.h r1
def KZ(a0:X4):W (Xo × X4):=
(An a0 (4:X)).bind fun r1=>
(An r1.2 (3:X)).bind fun r2=>
(An r2.2 (60:X)).bind fun r3=>
(KY r3.2).bind fun r4=>
O ((⟨(zM .i64 ((1:X)+r1.1)),(zM .i64 ((1:X)+r2.1)),r3.1,r4.1⟩:Xo),r4.2)
def Hf(r3:(V X9) × X4)(r5:Xo × X4)(r1:Xd × X4)(r2:X5 × X4)(r4:Xl × X4)(y7:X):Z→X→(V X9)→W (X3 × X4)
| 0,_,_=>U
| n+1,v6,v8=>
 if(decide (v6<(r3.1.length:X))) then(
 (ix v8 v6).bind fun x10=>
 Hf r3 r5 r1 r2 r4 y7 n (zM .i64 (v6+(1:X))) (v8.set (zD v6) (⟨x10.Name,x10.Length,x10.Draught,x10.Line,(if(1:X)<x10.Tugs then(1:X) else x10.Tugs),x10.Slow⟩:X9)))
 else(
 O ((⟨(⟨(⟨y7,r1.1.Tide.Parts⟩:Xn),r1.1.Surges⟩:Xd),r2.1,v8,r4.1,r5.1⟩:X3),r5.2))
def L1(a0:X4):W (X3 × X4):=
(IE a0).bind fun r1=>
(KV r1.2).bind fun r2=>
(KW r2.2 (3:X)).bind fun r3=>
(KX r3.2).bind fun r4=>
(KZ r4.2).bind fun r5=>
Hf r3 r5 r1 r2 r4 (zM .i64 (r1.1.Tide.Mean+(150:X))) bigN (0:X) r3.1
def L0(r2:Y × X4)(a1 v4:X)(v5 v6:X):W (X7 × X4):=
(An r2.2 (400:X)).bind fun r7=>
O ((⟨a1,v4,v5,v6,(zM .i64 ((zM .i64 (v6+(60:X)))+r7.1))⟩:X7),r7.2)
def IH(a0:X4)(a1:X):W (X7 × X4):=
(An a0 (30:X)).bind fun r1=>
(Cu r1.2 (3:X)).bind fun r2=>
if r2.1 then(
 L0 r2 a1 (3:X) (0:X) (zM .i64 ((15:X)*r1.1)))
else(
 L0 r2 a1 (0:X) (3:X) (zM .i64 ((15:X)*r1.1)))
def FO(v2:X)(r1:X3 × X4)(v6:V X7)(Lv:X→(V X)→X→X→(V X7)→W (X3 × (V X7) × X4))(v10:Y)(v11:V X)(v12 v13:X):W (X3 × (V X7) × X4):=
if v10 then(
 (IH (⟨v11,v12,v13⟩:X4) v2).bind fun r15=>
 if A7 v6.length ([r15.1]:V X7).length 40 then(
 Lv (zM .i64 (v2+(1:X))) r15.2.b r15.2.i r15.2.h (v6++([r15.1]:V X7)))
 else U)
else(
 Lv (zM .i64 (v2+(1:X))) v11 v12 v13 v6)
def DC(r1:X3 × X4):Z→X→(V X)→X→X→(V X7)→W (X3 × (V X7) × X4)
| 0,_,_,_,_,_=>U
| n+1,v2,v3,v4,v5,v6=>
 if(decide (v2<(r1.1.Fleet.length:X))) then(
 if(v2==(0:X)) then(
  FO v2 r1 v6 (DC r1 n) F v3 v4 v5)
 else(
  (Cu (⟨v3,v4,v5⟩:X4) (4:X)).bind fun r9=>
  FO v2 r1 v6 (DC r1 n) (!r9.1) r9.2.b r9.2.i r9.2.h))
 else(
 O (r1.1,v6,(⟨v3,v4,v5⟩:X4)))
def N3(a0:X4):W (X3 × (V X7) × X4):=
(L1 a0).bind fun r1=>
DC r1 bigN (0:X) r1.2.b r1.2.i r1.2.h ([]:V X7)
def KQ(a0:V X):W (X3 × (V X7)):=
(KR a0).bind fun r1=>
(N3 r1).bind fun r2=>
O (r2.1,r2.2.1)
def Bx(a0 a1 a2:X):W Y:=
if(decide (a1≤a0)) then(
 O (decide (a0≤a2)))
else(
 O E)
def Iw(a0:X):W Y:=
(Bx a0 (4:X) (2880:X)).bind fun r1=>
if r1 then(
 O ((zM .i64 (zJ a0 (4:X)))==(0:X)))
else(
 O E)
def K6(a0:Xh):W Y:=
(Bx a0.Amp (0:X) (1000:X)).bind fun r1=>
if r1 then(
 (Iw a0.Period).bind fun r3=>
 if r3 then(
 (Bx a0.Phase (0:X) (zM .i64 (a0.Period - (1:X)))).bind fun r5=>
 O r5)
 else(
 O E))
else(
 O E)
def GW(a0:Xn):Z→X→W Y
| 0,_=>U
| n+1,v4=>
 if(decide (v4<(a0.Parts.length:X))) then(
 (ix a0.Parts v4).bind fun x6=>
 (K6 x6).bind fun r7=>
 if r7 then(
  GW a0 n (zM .i64 (v4+(1:X))))
 else(
  O E))
 else(
 O F)
def Kr(a0:Xn):W Y:=
(Bx a0.Mean (-1000:X) (1000:X)).bind fun r1=>
if r1 then(
 if(decide ((4:X)<(a0.Parts.length:X))) then(
 O E)
 else(
 GW a0 bigN (0:X)))
else(
 O E)
def CI(a0:X):W Y:=
(Bx a0 (0:X) (2880:X)).bind fun r1=>
O r1
def Kq(a0:Xe):W Y:=
(CI a0.From).bind fun r1=>
if r1 then(
 if(decide ((-500:X)≤a0.Low)) then(
 if(decide (a0.Low≤a0.High)) then(
  O (decide (a0.High≤(500:X))))
 else(
  O E))
 else(
 O E))
else(
 O E)
def Fq(a0:Xd):Z→X→W Y
| 0,_=>U
| n+1,v7=>
 if(decide (v7<(a0.Surges.length:X))) then(
 (ix a0.Surges v7).bind fun x9=>
 (Kq x9).bind fun r10=>
 if r10 then(
  if(decide ((0:X)<v7)) then(
  (ix a0.Surges (zM .i64 (v7 - (1:X)))).bind fun x13=>
  if(decide (x9.From≤x13.From)) then(
   O E)
  else(
   Fq a0 n (zM .i64 (v7+(1:X)))))
  else(
  Fq a0 n (zM .i64 (v7+(1:X)))))
 else(
  O E))
 else(
 O F)
def EA(a0:Xd):W Y:=
(Kr a0.Tide).bind fun r1=>
if r1 then(
 (Bx (a0.Surges.length:X) (1:X) (6:X)).bind fun r3=>
 if r3 then(
 (ix a0.Surges (0:X)).bind fun x5=>
 if(x5.From !=(0:X)) then(
  O E)
 else(
  Fq a0 bigN (0:X)))
 else(
 O E))
else(
 O E)
def JW(a0:V zA)(v3:X)(E8:X→W Y):W Y:=
E8 (zM .i64 (v3+(1:X)))
def JV(a0:V zA)(v3:X)(E8:X→W Y)(v7:Y):W Y:=
if v7 then(
 JW a0 v3 E8)
else(
 if(v3==(0:X)) then(
 O E)
 else(
 (ix a0 v3).bind fun b10=>
 if(decide ((b10.toNat:X)<(48:X))) then(
  O E)
 else(
  if(decide ((57:X)<(b10.toNat:X))) then(
  O E)
  else(
  JW a0 v3 E8))))
def Fu(a0:V zA):Z→X→W Y
| 0,_=>U
| n+1,v3=>
 if(decide (v3<(a0.length:X))) then(
 (ix a0 v3).bind fun b5=>
 if(decide ((97:X)≤(b5.toNat:X))) then(
  JV a0 v3 (Fu a0 n) (decide ((b5.toNat:X)≤(122:X))))
 else(
  JV a0 v3 (Fu a0 n) E))
 else(
 O F)
def Ih(a0:V zA):W Y:=
(Bx (a0.length:X) (1:X) (8:X)).bind fun r1=>
if r1 then(
 Fu a0 bigN (0:X))
else(
 O E)
def GQ(a1:V zA)(a0:X5):Z→X→W X
| 0,_=>U
| n+1,v1=>
 if(decide (v1<(a0.Points.length:X))) then(
 (ix a0.Points v1).bind fun x3=>
 if(x3.Name==a1) then(
  O v1)
 else(
  GQ a1 a0 n (zM .i64 (v1+(1:X)))))
 else(
 O (-1:X))
def Ke(a0:X5)(a1:V zA):W X:=
GQ a1 a0 bigN (0:X)
def B4(a0 a1:X):W Y:=
if(decide ((0:X)≤a0)) then(
 O (decide (a0<a1)))
else(
 O E)
def Kj(a0:X1)(a1 a2:X):W Y:=
if(a0.A==a1) then(
 if(a0.B==a2) then(
 O F)
 else(
 if(a0.A==a2) then(
  O (a0.B==a1))
 else(
  O E)))
else(
 if(a0.A==a2) then(
 O (a0.B==a1))
 else(
 O E))
def Gs(a0:X5)(v11:X)(x13:X1)(y24:V X1)(y25:X)(Ll:X→W Y):Z→X→W Y
| 0,_=>U
| n+1,v26=>
 if(decide (v26<y25)) then(
 (ix y24 v26).bind fun x28=>
 (Kj x28 x13.A x13.B).bind fun r29=>
 if r29 then(
  O E)
 else(
  Gs a0 v11 x13 y24 y25 Ll n (zM .i64 (v26+(1:X)))))
 else(
 Ll (zM .i64 (v11+(1:X))))
def DU(a0:X5):Z→X→W Y
| 0,_=>U
| n+1,v11=>
 if(decide (v11<(a0.Segments.length:X))) then(
 (ix a0.Segments v11).bind fun x13=>
 (B4 x13.A (a0.Points.length:X)).bind fun r14=>
 if r14 then(
  (B4 x13.B (a0.Points.length:X)).bind fun r16=>
  if r16 then(
  if(x13.A==x13.B) then(
   O E)
  else(
   (Bx x13.Depth (0:X) (3000:X)).bind fun r19=>
   if r19 then(
   (Bx x13.Minutes (1:X) (240:X)).bind fun r21=>
   if r21 then(
    (bnd (a0.Segments.length:X) v11 (0:X) a0.Segments.length).bind fun p23=>
    Gs a0 v11 x13 ((a0.Segments.drop p23.1).take (p23.2 - p23.1)) (((a0.Segments.drop p23.1).take (p23.2 - p23.1)).length:X) (DU a0 n) bigN (0:X))
   else(
    O E))
   else(
   O E)))
  else(
  O E))
 else(
  O E))
 else(
 O F)
def Gr(a0:X5):Z→X→W Y
| 0,_=>U
| n+1,v3=>
 if(decide (v3<(a0.Points.length:X))) then(
 (ix a0.Points v3).bind fun x5=>
 (Ih x5.Name).bind fun r6=>
 if r6 then(
  (Ke a0 x5.Name).bind fun r9=>
  if(r9 !=v3) then(
  O E)
  else(
  Gr a0 n (zM .i64 (v3+(1:X)))))
 else(
  O E))
 else(
 DU a0 bigN (0:X))
def CH(a0:X5):W Y:=
if(decide ((8:X)<(a0.Points.length:X))) then(
 O E)
else(
 if(decide ((10:X)<(a0.Segments.length:X))) then(
 O E)
 else(
 Gr a0 bigN (0:X)))
def Dw(a0:X9):W Y:=
(Ih a0.Name).bind fun r1=>
if r1 then(
 (Bx a0.Length (10:X) (400:X)).bind fun r3=>
 if r3 then(
 (Bx a0.Draught (100:X) (2000:X)).bind fun r5=>
 if r5 then(
  (B4 a0.Line (4:X)).bind fun r7=>
  if r7 then(
  (Bx a0.Tugs (0:X) (4:X)).bind fun r9=>
  O r9)
  else(
  O E))
 else(
  O E))
 else(
 O E))
else(
 O E)
def GU(a1:V zA)(a0:V X9):Z→X→W X
| 0,_=>U
| n+1,v1=>
 if(decide (v1<(a0.length:X))) then(
 (ix a0 v1).bind fun x3=>
 if(x3.Name==a1) then(
  O v1)
 else(
  GU a1 a0 n (zM .i64 (v1+(1:X)))))
 else(
 O (-1:X))
def Km(a0:V X9)(a1:V zA):W X:=
GU a1 a0 bigN (0:X)
def GB(a0:V X9):Z→X→W Y
| 0,_=>U
| n+1,v2=>
 if(decide (v2<(a0.length:X))) then(
 (ix a0 v2).bind fun x4=>
 (Dw x4).bind fun r5=>
 if r5 then(
  (Km a0 x4.Name).bind fun r7=>
  if(r7 !=v2) then(
  O E)
  else(
  GB a0 n (zM .i64 (v2+(1:X)))))
 else(
  O E))
 else(
 O F)
def Ig(a0:V X9):W Y:=
if(decide ((6:X)<(a0.length:X))) then(
 O E)
else(
 GB a0 bigN (0:X))
def MN(a0:Xl):W Y:=
(Bx a0.Gap (0:X) (60:X)).bind fun r1=>
O r1
def FI(a0:V X):Z→X→W Y
| 0,_=>U
| n+1,v2=>
 if(decide (v2<(a0.length:X))) then(
 (ix a0 v2).bind fun x4=>
 (Bx x4 (0:X) (240:X)).bind fun r5=>
 if r5 then(
  FI a0 n (zM .i64 (v2+(1:X))))
 else(
  O E))
 else(
 O F)
def FH(a0:V X):W Y:=
if((a0.length:X) !=(64:X)) then(
 O E)
else(
 FI a0 bigN (0:X))
def Gy(a0:Xo):W Y:=
(Bx a0.Tugs (0:X) (12:X)).bind fun r1=>
if r1 then(
 (Bx a0.Pilots (0:X) (12:X)).bind fun r3=>
 if r3 then(
 (CI a0.Rest).bind fun r5=>
 if r5 then(
  (FH a0.Moves).bind fun r7=>
  O r7)
 else(
  O E))
 else(
 O E))
else(
 O E)
def GE(a0:X3):W Y:=
(EA a0.Forecast).bind fun r1=>
if r1 then(
 (CH a0.Chart).bind fun r3=>
 if r3 then(
 (Ig a0.Fleet).bind fun r5=>
 if r5 then(
  (MN a0.Regime).bind fun r7=>
  if r7 then(
  (Gy a0.Crew).bind fun r9=>
  O r9)
  else(
  O E))
 else(
  O E))
 else(
 O E))
else(
 O E)
def Ip(a0:X3)(a1:X7):W Y:=
(B4 a1.Ship (a0.Fleet.length:X)).bind fun r1=>
if r1 then(
 (B4 a1.From (a0.Chart.Points.length:X)).bind fun r3=>
 if r3 then(
 (B4 a1.To (a0.Chart.Points.length:X)).bind fun r5=>
 if r5 then(
  if(a1.From !=a1.To) then(
  (CI a1.Ready).bind fun r9=>
  if r9 then(
   (Bx a1.Due a1.Ready (2880:X)).bind fun r11=>
   O r11)
  else(
   O E))
  else(
  O E))
 else(
  O E))
 else(
 O E))
else(
 O E)
def Gp(a1:V X7)(v4:X)(a0:X3)(x6:X7)(y10:V X7)(y11:X)(Lk:X→W Y):Z→X→W Y
| 0,_=>U
| n+1,v12=>
 if(decide (v12<y11)) then(
 (ix y10 v12).bind fun x14=>
 if(x14.Ship==x6.Ship) then(
  O E)
 else(
  Gp a1 v4 a0 x6 y10 y11 Lk n (zM .i64 (v12+(1:X)))))
 else(
 Lk (zM .i64 (v4+(1:X))))
def Fo(a1:V X7)(a0:X3):Z→X→W Y
| 0,_=>U
| n+1,v4=>
 if(decide (v4<(a1.length:X))) then(
 (ix a1 v4).bind fun x6=>
 (Ip a0 x6).bind fun r7=>
 if r7 then(
  (bnd (a1.length:X) v4 (0:X) a1.length).bind fun p9=>
  Gp a1 v4 a0 x6 ((a1.drop p9.1).take (p9.2 - p9.1)) (((a1.drop p9.1).take (p9.2 - p9.1)).length:X) (Fo a1 a0 n) bigN (0:X))
 else(
  O E))
 else(
 O F)
def CX(a0:X3)(a1:V X7):W Y:=
(GE a0).bind fun r1=>
if r1 then(
 if(decide ((6:X)<(a1.length:X))) then(
 O E)
 else(
 Fo a1 a0 bigN (0:X)))
else(
 O E)
def Ic(a0:X3)(a1:X7):W Y:=
(GE a0).bind fun r1=>
if r1 then(
 (Ip a0 a1).bind fun r3=>
 O r3)
else(
 O E)
def Bn(a0:V X):W (V X):=
(BT (0:X) (a0.length:X) 8).bind fun n1=>
if A7 (zF n1 (0:X)).length a0.length 8 then(
 O ((zF n1 (0:X))++a0))
else U
def Il(a0:X1)(a1:X):W X:=
if(a1==a0.A) then(
 O a0.B)
else(
 if(a1==a0.B) then(
 O a0.A)
 else(
 O (-1:X)))
def Gv(rec_:X5→X→X→(V X)→X6→(V (V X))→W (V (V X)))(a1 a2:X)(a3:V X)(v6 r11:X)(a0:X5)(y7:X6)(v8:V (V X))(Lm:X→(V (V X))→W (V (V X)))(v16:Y):W (V (V X)):=
if v16 then(
 (Bn a3).bind fun r18=>
 if A7 r18.length ([v6]:V X).length 8 then(
 (rec_ a0 r11 a2 (r18++([v6]:V X)) y7 v8).bind fun r20=>
 Lm (zM .i64 (v6+(1:X))) r20)
 else U)
else(
 Lm (zM .i64 (v6+(1:X))) v8)
def Ex(rec_:X5→X→X→(V X)→X6→(V (V X))→W (V (V X)))(a1 a2:X)(a3:V X)(a0:X5)(y7:X6):Z→X→(V (V X))→W (V (V X))
| 0,_,_=>U
| n+1,v6,v8=>
 if(decide (v6<(a0.Segments.length:X))) then(
 (ix a0.Segments v6).bind fun x10=>
 (Il x10 a1).bind fun r11=>
 if(decide ((0:X)≤r11)) then(
  if decide ((0:X)≤r11)&&decide (r11<(8:X)) then(
  (ix ([y7.i0,y7.i1,y7.i2,y7.i3,y7.i4,y7.i5,y7.i6,y7.i7]:V Y) r11).bind fun x14=>
  Gv rec_ a1 a2 a3 v6 r11 a0 y7 v8 (Ex rec_ a1 a2 a3 a0 y7 n) (!x14))
  else U)
 else(
  Gv rec_ a1 a2 a3 v6 r11 a0 y7 v8 (Ex rec_ a1 a2 a3 a0 y7 n) E))
 else(
 O v8)
def MF(rec_:X5→X→X→(V X)→X6→(V (V X))→W (V (V X)))(a0:X5)(a1 a2:X)(a3:V X)(a4:X6)(a5:V (V X)):W (V (V X)):=
if(a1==a2) then(
 (Bn a3).bind fun r2=>
 if A7 a5.length ([r2]:V (V X)).length 24 then(
 O (a5++([r2]:V (V X))))
 else U)
else(
 if decide ((0:X)≤a1)&&decide (a1<(8:X)) then(
 Ex rec_ a1 a2 a3 a0 (⟨((X6.set a4 (zD a1) F)).i0,((X6.set a4 (zD a1) F)).i1,((X6.set a4 (zD a1) F)).i2,((X6.set a4 (zD a1) F)).i3,((X6.set a4 (zD a1) F)).i4,((X6.set a4 (zD a1) F)).i5,((X6.set a4 (zD a1) F)).i6,((X6.set a4 (zD a1) F)).i7⟩:X6) bigN (0:X) a5)
 else U)
def Ey:Z→X5→X→X→(V X)→X6→(V (V X))→W (V (V X))
| 0,_,_,_,_,_,_=>U
| n+1,a0,a1,a2,a3,a4,a5=>MF (Ey n) a0 a1 a2 a3 a4 a5
def OW(a0:X5)(a1 a2:X)(a3:V X)(a4:X6)(a5:V (V X)):W (V (V X)):=Ey bigN a0 a1 a2 a3 a4 a5
def Kg(a0:X5)(a1 a2:X):W (V (V X)):=
(CH a0).bind fun r1=>
if r1 then(
 (B4 a1 (a0.Points.length:X)).bind fun r3=>
 if r3 then(
 (B4 a2 (a0.Points.length:X)).bind fun r5=>
 if r5 then(
  (OW a0 a1 a2 ([]:V X) (⟨E,E,E,E,E,E,E,E⟩:X6) ([]:V (V X))).bind fun r7=>
  O r7)
 else(
  O ([]:V (V X))))
 else(
 O ([]:V (V X))))
else(
 O ([]:V (V X)))
def DX(a1:V X)(a0:X5):Z→X→X→W X
| 0,_,_=>U
| n+1,v3,v4=>
 if(decide (v4<(a1.length:X))) then(
 (ix a1 v4).bind fun x6=>
 (B4 x6 (a0.Segments.length:X)).bind fun r7=>
 if r7 then(
  (ix a0.Segments x6).bind fun x9=>
  DX a1 a0 n (zM .i64 (v3+x9.Minutes)) (zM .i64 (v4+(1:X))))
 else(
  O (-1:X)))
 else(
 O v3)
def EG(a0:X5)(a1:V X):W X:=
(CH a0).bind fun r1=>
if r1 then(
 DX a1 a0 bigN (0:X) (0:X))
else(
 O (-1:X))
def Fm(r1:(V (V X)))(a0:X5):Z→(V X)→X→W ((V X) × Y)
| 0,_,_=>U
| n+1,v4,v5=>
 if(decide (v5<(r1.length:X))) then(
 (ix r1 v5).bind fun x7=>
 (EG a0 x7).bind fun r9=>
 (EG a0 v4).bind fun r10=>
 if(decide (r9<r10)) then(
  Fm r1 a0 n x7 (zM .i64 (v5+(1:X))))
 else(
  Fm r1 a0 n v4 (zM .i64 (v5+(1:X)))))
 else(
 O (v4,F))
def JK(a0:X5)(a1 a2:X):W ((V X) × Y):=
(Kg a0 a1 a2).bind fun r1=>
if((r1.length:X)==(0:X)) then(
 O (([]:V X),E))
else(
 (ix r1 (0:X)).bind fun x3=>
 Fm r1 a0 bigN x3 (0:X))
def Gu(r14:X)(a2:V X)(v6:X)(a0:X5)(v7:X6)(v8:V X)(ND:X→X→X6→(V X)→W ((V X) × Y))(v19:Y):W ((V X) × Y):=
if v19 then(
 O (([]:V X),E))
else(
 if decide ((0:X)≤r14)&&decide (r14<(8:X)) then(
 if A7 v8.length ([r14]:V X).length 8 then(
  ND r14 (zM .i64 (v6+(1:X))) (⟨((X6.set v7 (zD r14) F)).i0,((X6.set v7 (zD r14) F)).i1,((X6.set v7 (zD r14) F)).i2,((X6.set v7 (zD r14) F)).i3,((X6.set v7 (zD r14) F)).i4,((X6.set v7 (zD r14) F)).i5,((X6.set v7 (zD r14) F)).i6,((X6.set v7 (zD r14) F)).i7⟩:X6) (v8++([r14]:V X)))
 else U)
 else U)
def Fp(a2:V X)(a0:X5):Z→X→X→X6→(V X)→W ((V X) × Y)
| 0,_,_,_,_=>U
| n+1,v5,v6,v7,v8=>
 if(decide (v6<(a2.length:X))) then(
 (ix a2 v6).bind fun x10=>
 (B4 x10 (a0.Segments.length:X)).bind fun r11=>
 if r11 then(
  (ix a0.Segments x10).bind fun x13=>
  (Il x13 v5).bind fun r14=>
  if(decide (r14<(0:X))) then(
  Gu r14 a2 v6 a0 v7 v8 (Fp a2 a0 n) F)
  else(
  if decide ((0:X)≤r14)&&decide (r14<(8:X)) then(
   (ix ([v7.i0,v7.i1,v7.i2,v7.i3,v7.i4,v7.i5,v7.i6,v7.i7]:V Y) r14).bind fun x17=>
   Gu r14 a2 v6 a0 v7 v8 (Fp a2 a0 n) x17)
  else U))
 else(
  O (([]:V X),E)))
 else(
 O (v8,F))
def Gt(a0:X5)(a1:X)(a2:V X):W ((V X) × Y):=
(B4 a1 (a0.Points.length:X)).bind fun r1=>
if r1 then(
 if decide ((0:X)≤a1)&&decide (a1<(8:X)) then(
 Fp a2 a0 bigN a1 (0:X) (⟨((X6.set (⟨E,E,E,E,E,E,E,E⟩:X6) (zD a1) F)).i0,((X6.set (⟨E,E,E,E,E,E,E,E⟩:X6) (zD a1) F)).i1,((X6.set (⟨E,E,E,E,E,E,E,E⟩:X6) (zD a1) F)).i2,((X6.set (⟨E,E,E,E,E,E,E,E⟩:X6) (zD a1) F)).i3,((X6.set (⟨E,E,E,E,E,E,E,E⟩:X6) (zD a1) F)).i4,((X6.set (⟨E,E,E,E,E,E,E,E⟩:X6) (zD a1) F)).i5,((X6.set (⟨E,E,E,E,E,E,E,E⟩:X6) (zD a1) F)).i6,((X6.set (⟨E,E,E,E,E,E,E,E⟩:X6) (zD a1) F)).i7⟩:X6) ([a1]:V X))
 else U)
else(
 O (([]:V X),E))
def EH(a0:X5)(a1:X)(a2:V X):W (V X):=
(CH a0).bind fun r1=>
if r1 then(
 (Gt a0 a1 a2).bind fun r3=>
 O r3.1)
else(
 O ([]:V X))
def GS(a0:X5)(a1:X)(a2:V X):W Y:=
(CH a0).bind fun r1=>
if r1 then(
 (Gt a0 a1 a2).bind fun r3=>
 O r3.2)
else(
 O E)
def EI(a0:X9)(a1:X1):W X:=
if a0.Slow then(
 O (zM .i64 ((2:X)*a1.Minutes)))
else(
 O a1.Minutes)
def Iz(a0:X5)(a1:X)(a2:X9):W Y:=
(CH a0).bind fun r1=>
if r1 then(
 (Dw a2).bind fun r3=>
 if r3 then(
 (B4 a1 (a0.Segments.length:X)).bind fun r5=>
 O r5)
 else(
 O E))
else(
 O E)
def MP(a0:X9):W X:=
if a0.Slow then(
 O (zM .i64 (zH a0.Draught (50:X))))
else(
 O (zM .i64 (zH a0.Draught (20:X))))
def MO(a0:X9):W X:=
(MP a0).bind fun r1=>
O (zM .i64 ((zM .i64 (a0.Draught+r1))+(50:X)))
def JY(a0:X5)(a1:X)(a2:X9):W X:=
(Iz a0 a1 a2).bind fun r1=>
if r1 then(
 (MO a2).bind fun r3=>
 (ix a0.Segments a1).bind fun x4=>
 O (zM .i64 (r3 - x4.Depth)))
else(
 O (0:X))
def H9(a0:X→W Y)(v2:X)(EX:Y→X→(V X8)→W (V X8))(v11:Y)(v12:V X8):W (V X8):=
EX v11 (zM .i64 (v2+(1:X))) v12
def IA(a0:X→W Y)(v2:X)(EX:Y→X→(V X8)→W (V X8))(v9:V X8):W (V X8):=
(ix v9 (zM .i64 ((v9.length:X) - (1:X)))).bind fun x10=>
H9 a0 v2 EX F (v9.set (zD (zM .i64 ((v9.length:X) - (1:X)))) (⟨x10.From,v2⟩:X8))
def ER(a0:X→W Y):Z→Y→X→(V X8)→W (V X8)
| 0,_,_,_=>U
| n+1,v1,v2,v3=>
 if(decide (v2≤(2880:X))) then(
 (a0 v2).bind fun r5=>
 if r5 then(
  if v1 then(
  IA a0 v2 (ER a0 n) v3)
  else(
  if A7 v3.length ([(⟨v2,(0:X)⟩:X8)]:V X8).length 16 then(
   IA a0 v2 (ER a0 n) (v3++([(⟨v2,(0:X)⟩:X8)]:V X8)))
  else U))
 else(
  H9 a0 v2 (ER a0 n) E v3))
 else(
 O v3)
def MY(a0:X→W Y):W (V X8):=
ER a0 bigN E (0:X) ([]:V X8)
def Kt(a0 a1:X):W X:=
(Iw a1).bind fun r1=>
if r1 then(
 if a1==0 then U else
 if a1==0 then U else
 if(decide ((zM .i64 (zH a1 (2:X)))≤(zM .i64 (zJ (zM .i64 ((zM .i64 (zJ a0 a1))+a1)) a1)))) then(
 if(zM .i64 ((zM .i64 (zH a1 (2:X)))*(zM .i64 (zH a1 (2:X)))))==0 then U else
 O (zM .i64 (0 - (zM .i64 (zH (zM .i64 ((zM .i64 ((40000:X)*(zM .i64 ((zM .i64 (zJ (zM .i64 ((zM .i64 (zJ a0 a1))+a1)) a1)) - (zM .i64 (zH a1 (2:X)))))))*(zM .i64 ((zM .i64 (zH a1 (2:X))) - (zM .i64 ((zM .i64 (zJ (zM .i64 ((zM .i64 (zJ a0 a1))+a1)) a1)) - (zM .i64 (zH a1 (2:X))))))))) (zM .i64 ((zM .i64 (zH a1 (2:X)))*(zM .i64 (zH a1 (2:X))))))))))
 else(
 if(zM .i64 ((zM .i64 (zH a1 (2:X)))*(zM .i64 (zH a1 (2:X)))))==0 then U else
 O (zM .i64 (zH (zM .i64 ((zM .i64 ((40000:X)*(zM .i64 (zJ (zM .i64 ((zM .i64 (zJ a0 a1))+a1)) a1))))*(zM .i64 ((zM .i64 (zH a1 (2:X))) - (zM .i64 (zJ (zM .i64 ((zM .i64 (zJ a0 a1))+a1)) a1)))))) (zM .i64 ((zM .i64 (zH a1 (2:X)))*(zM .i64 (zH a1 (2:X)))))))))
else(
 O (0:X))
def GX(a1:X)(a0:Xn):Z→X→X→W X
| 0,_,_=>U
| n+1,v1,v2=>
 if(decide (v2<(a0.Parts.length:X))) then(
 (ix a0.Parts v2).bind fun x4=>
 (Kt (zM .i64 (a1+x4.Phase)) x4.Period).bind fun r5=>
 GX a1 a0 n (zM .i64 (v1+(zM .i64 (zH (zM .i64 (x4.Amp*r5)) (10000:X))))) (zM .i64 (v2+(1:X))))
 else(
 O v1)
def MQ(a0:Xn)(a1:X):W X:=
GX a1 a0 bigN a0.Mean (0:X)
def EB(a1:X)(a0:Xd):Z→X→X→W X
| 0,_,_=>U
| n+1,v1,v2=>
 if(decide (v2<(a0.Surges.length:X))) then(
 (ix a0.Surges v2).bind fun x4=>
 if(decide (x4.From≤a1)) then(
  EB a1 a0 n v2 (zM .i64 (v2+(1:X))))
 else(
  EB a1 a0 n v1 (zM .i64 (v2+(1:X)))))
 else(
 O v1)
def MI(a0:Xd)(a1:X):W X:=
EB a1 a0 bigN (0:X) (0:X)
def Fs(a0:Xd)(a1:X):W X:=
(MQ a0.Tide a1).bind fun r1=>
(MI a0 a1).bind fun r2=>
(ix a0.Surges r2).bind fun x3=>
O (zM .i64 (r1+x3.Low))
def JZ(a0:X)(c0:Xd)(c1:X):W Y:=
(Fs c0 a0).bind fun r1=>
O (decide (c1≤r1))
def ML(a0:Xd)(a1:X):W (V X8):=
(EA a0).bind fun r1=>
if r1 then(
 (MY (fun z0=>JZ z0 a0 a1)).bind fun r3=>
 O r3)
else(
 O ([]:V X8))
def MM(a0:X5)(a1:X)(a2:X9):W X:=
(CH a0).bind fun r1=>
if r1 then(
 (Dw a2).bind fun r3=>
 if r3 then(
 (B4 a1 (a0.Segments.length:X)).bind fun r5=>
 if r5 then(
  (ix a0.Segments a1).bind fun x7=>
  (EI a2 x7).bind fun r9=>
  O r9)
 else(
  O (0:X)))
 else(
 O (0:X)))
else(
 O (0:X))
def Fz(a0:V X8):Z→X→W Y
| 0,_=>U
| n+1,v1=>
 if(decide (v1<(a0.length:X))) then(
 (ix a0 v1).bind fun x3=>
 if(decide (x3.From<(0:X))) then(
  O E)
 else(
  if(decide (x3.To<x3.From)) then(
  O E)
  else(
  if(decide ((2880:X)<x3.To)) then(
   O E)
  else(
   if(decide ((0:X)<v1)) then(
   (ix a0 (zM .i64 (v1 - (1:X)))).bind fun x8=>
   if(decide (x3.From≤(zM .i64 (x8.To+(1:X))))) then(
    O E)
   else(
    Fz a0 n (zM .i64 (v1+(1:X)))))
   else(
   Fz a0 n (zM .i64 (v1+(1:X))))))))
 else(
 O F)
def In(a0:V X8):W Y:=
Fz a0 bigN (0:X)
def Fy(a1:X)(a0:V X8):Z→X→(V X8)→W (V X8)
| 0,_,_=>U
| n+1,v5,v6=>
 if(decide (v5<(a0.length:X))) then(
 (ix a0 v5).bind fun x8=>
 if(decide (a1≤(zM .i64 (x8.To - x8.From)))) then(
  if A7 v6.length ([(⟨x8.From,(zM .i64 (x8.To - a1))⟩:X8)]:V X8).length 16 then(
  Fy a1 a0 n (zM .i64 (v5+(1:X))) (v6++([(⟨x8.From,(zM .i64 (x8.To - a1))⟩:X8)]:V X8)))
  else U)
 else(
  Fy a1 a0 n (zM .i64 (v5+(1:X))) v6))
 else(
 O v6)
def Kn(a0:V X8)(a1:X):W (V X8):=
(In a0).bind fun r1=>
if r1 then(
 (CI a1).bind fun r3=>
 if r3 then(
 Fy a1 a0 bigN (0:X) ([]:V X8))
 else(
 O ([]:V X8)))
else(
 O ([]:V X8))
def Im(a0:Xd)(a1:X5)(a2:X)(a3:X9):W (V X8):=
(EA a0).bind fun r1=>
if r1 then(
 (Iz a1 a2 a3).bind fun r3=>
 if r3 then(
 (JY a1 a2 a3).bind fun r5=>
 (ML a0 r5).bind fun r6=>
 (MM a1 a2 a3).bind fun r7=>
 (Kn r6 r7).bind fun r9=>
 O r9)
 else(
 O ([]:V X8)))
else(
 O ([]:V X8))
def H8(a4:V X)(a0:Xd)(a1:X5)(a2:X9)(y11:V X)(y12:X):Z→X→(V Y)→(V X)→(V (V X8))→W (Xk × Y)
| 0,_,_,_,_=>U
| n+1,v13,v14,v15,v16=>
 if(decide (v13<y12)) then(
 (ix y11 v13).bind fun x18=>
 (ix a1.Points x18).bind fun x19=>
 if A7 v14.length ([x19.Wait]:V Y).length 1 then(
  (ix a4 v13).bind fun x21=>
  (ix a1.Segments x21).bind fun x22=>
  (EI a2 x22).bind fun r23=>
  if A7 v15.length ([r23]:V X).length 8 then(
  (Im a0 a1 x21 a2).bind fun r25=>
  if A7 v16.length ([r25]:V (V X8)).length 24 then(
   H8 a4 a0 a1 a2 y11 y12 n (zM .i64 (v13+(1:X))) (v14++([x19.Wait]:V Y)) (v15++([r23]:V X)) (v16++([r25]:V (V X8))))
  else U)
  else U)
 else U)
 else(
 O ((⟨v14,v15,v16⟩:Xk),F))
def H7(a3:X)(a4:V X)(a0:Xd)(a1:X5)(a2:X9)(v7:Y):W (Xk × Y):=
if v7 then(
 O ((⟨([]:V Y),([]:V X),([]:V (V X8))⟩:Xk),E))
else(
 (EH a1 a3 a4).bind fun r9=>
 (bnd (r9.length:X) (a4.length:X) (0:X) r9.length).bind fun p10=>
 H8 a4 a0 a1 a2 ((r9.drop p10.1).take (p10.2 - p10.1)) (((r9.drop p10.1).take (p10.2 - p10.1)).length:X) bigN (0:X) ([]:V Y) ([]:V X) ([]:V (V X8)))
def KH(a0:Xd)(a1:X5)(a2:X9)(a3:X)(a4:V X):W (Xk × Y):=
(EA a0).bind fun r1=>
if r1 then(
 (Dw a2).bind fun r3=>
 if r3 then(
 (GS a1 a3 a4).bind fun r5=>
 if r5 then(
  H7 a3 a4 a0 a1 a2 ((a4.length:X)==(0:X)))
 else(
  H7 a3 a4 a0 a1 a2 F))
 else(
 H7 a3 a4 a0 a1 a2 F))
else(
 H7 a3 a4 a0 a1 a2 F)
def Iq(a2:V X)(a0:X3)(a1:X7)(v4:Y):W (Xk × Y):=
if v4 then(
 O ((⟨([]:V Y),([]:V X),([]:V (V X8))⟩:Xk),E))
else(
 (ix a0.Fleet a1.Ship).bind fun x6=>
 (KH a0.Forecast a0.Chart x6 a1.From a2).bind fun r7=>
 O (r7.1,r7.2))
def FA(a0:X3)(a1:X7)(a2:V X):W (Xk × Y):=
(EH a0.Chart a1.From a2).bind fun r1=>
if((r1.length:X)==(0:X)) then(
 Iq a2 a0 a1 F)
else(
 (ix r1 (zM .i64 ((r1.length:X) - (1:X)))).bind fun x3=>
 Iq a2 a0 a1 (x3 !=a1.To))
def GF(a1:X)(a0:V X8):Z→X→W Y
| 0,_=>U
| n+1,v1=>
 if(decide (v1<(a0.length:X))) then(
 (ix a0 v1).bind fun x3=>
 (Bx a1 x3.From x3.To).bind fun r4=>
 if r4 then(
  O F)
 else(
  GF a1 a0 n (zM .i64 (v1+(1:X)))))
 else(
 O E)
def MK(a0:V X8)(a1:X):W Y:=
GF a1 a0 bigN (0:X)
def GJ(a1:X)(a0:V X8):Z→X→W X
| 0,_=>U
| n+1,v3=>
 if(decide (v3<(a0.length:X))) then(
 (ix a0 v3).bind fun x5=>
 if(decide (a1≤x5.To)) then(
  O (if x5.From<a1 then a1 else x5.From))
 else(
  GJ a1 a0 n (zM .i64 (v3+(1:X)))))
 else(
 O (-1:X))
def K1(a0:V X8)(a1:X):W X:=
(In a0).bind fun r1=>
if r1 then(
 GJ a1 a0 bigN (0:X))
else(
 O (-1:X))
def EQ(v4 r10:X)(a0:Xk)(v5:V X)(NG:X→(V X)→W ((V X) × Y))(v14:Y):W ((V X) × Y):=
if v14 then(
 O (([]:V X),E))
else(
 if A7 v5.length ([r10]:V X).length 8 then(
 NG (zM .i64 (v4+(1:X))) (v5++([r10]:V X)))
 else U)
def E5(a0:Xk):Z→X→(V X)→W ((V X) × Y)
| 0,_,_=>U
| n+1,v4,v5=>
 if(decide (v4<(a0.sure.length:X))) then(
 (ix v5 (zM .i64 (v4 - (1:X)))).bind fun x7=>
 (ix a0.minutes (zM .i64 (v4 - (1:X)))).bind fun x8=>
 (ix a0.sure v4).bind fun x9=>
 (K1 x9 (zM .i64 (x7+x8))).bind fun r10=>
 if(decide (r10<(0:X))) then(
  EQ v4 r10 a0 v5 (E5 a0 n) F)
 else(
  if(decide ((zM .i64 (x7+x8))<r10)) then(
  (ix a0.waits v4).bind fun x13=>
  EQ v4 r10 a0 v5 (E5 a0 n) (!x13))
  else(
  EQ v4 r10 a0 v5 (E5 a0 n) E)))
 else(
 O (v5,F))
def KI(a0:Xk)(a1:X):W ((V X) × Y):=
(ix a0.sure (0:X)).bind fun x1=>
(MK x1 a1).bind fun r2=>
if r2 then(
 E5 a0 bigN (1:X) ([a1]:V X))
else(
 O (([]:V X),E))
def GM(a1:X)(a5 a4:V X)(a0:X5)(a2:X9)(r6:(V X)):Z→X→(V X2)→W (V X2)
| 0,_,_=>U
| n+1,v7,v8=>
 if(decide (v7<(a4.length:X))) then(
 (ix a4 v7).bind fun x10=>
 (ix a5 v7).bind fun x11=>
 (CI x11).bind fun r12=>
 if r12 then(
  (ix a0.Segments x10).bind fun x14=>
  (ix r6 v7).bind fun x15=>
  (EI a2 x14).bind fun r16=>
  if A7 v8.length ([(⟨a1,x10,(x15==x14.A),x11,(zM .i64 (x11+r16))⟩:X2)]:V X2).length 40 then(
  GM a1 a5 a4 a0 a2 r6 n (zM .i64 (v7+(1:X))) (v8++([(⟨a1,x10,(x15==x14.A),x11,(zM .i64 (x11+r16))⟩:X2)]:V X2)))
  else U)
 else(
  O ([]:V X2)))
 else(
 O v8)
def K7(a0:X5)(a1:X)(a2:X9)(a3:X)(a4 a5:V X):W (V X2):=
(GS a0 a3 a4).bind fun r1=>
if r1 then(
 (Dw a2).bind fun r3=>
 if r3 then(
 if((a4.length:X) !=(a5.length:X)) then(
  O ([]:V X2))
 else(
  (EH a0 a3 a4).bind fun r6=>
  GM a1 a5 a4 a0 a2 r6 bigN (0:X) ([]:V X2)))
 else(
 O ([]:V X2)))
else(
 O ([]:V X2))
def JI(a0:X5)(a1:X9)(a2 a3:V X):W X:=
(EG a0 a2).bind fun r1=>
if(decide (r1<(0:X))) then(
 O (-1:X))
else(
 (Dw a1).bind fun r3=>
 if r3 then(
 if((a2.length:X)==(0:X)) then(
  O (-1:X))
 else(
  if((a2.length:X) !=(a3.length:X)) then(
  O (-1:X))
  else(
  (ix a3 (zM .i64 ((a2.length:X) - (1:X)))).bind fun x7=>
  (CI x7).bind fun r9=>
  if r9 then(
   (ix a2 (zM .i64 ((a2.length:X) - (1:X)))).bind fun x11=>
   (ix a0.Segments x11).bind fun x12=>
   (EI a1 x12).bind fun r13=>
   O (zM .i64 (x7+r13)))
  else(
   O (-1:X)))))
 else(
 O (-1:X)))
def H5(a2:Xk)(a4 r5:X)(r4:(V X2)):Z→X→X→W (X0 × Y)
| 0,_,_=>U
| n+1,v6,v7=>
 if(decide (v6<(a2.minutes.length:X))) then(
 (ix a2.minutes v6).bind fun x9=>
 H5 a2 a4 r5 r4 n (zM .i64 (v6+(1:X))) (zM .i64 (v7 - x9)))
 else(
 O ((⟨a4,r5,v7,r4⟩:X0),(decide (r5≤(2880:X)))))
def EN(a0:X3)(a1:X7)(a2:Xk)(a3:V X)(a4:X):W (X0 × Y):=
(KI a2 a4).bind fun r1=>
if r1.2 then(
 (ix a0.Fleet a1.Ship).bind fun x3=>
 (K7 a0.Chart a1.Ship x3 a1.From a3 r1.1).bind fun r4=>
 (JI a0.Chart x3 a3 r1.1).bind fun r5=>
 H5 a2 a4 r5 r4 bigN (0:X) (zM .i64 (r5 - a1.Ready)))
else(
 O ((⟨(0:X),(0:X),(0:X),([]:V X2)⟩:X0),E))
def Ij(r3:(V X) × Y)(v7:X)(a0:X3)(a1:X7)(r4:Xk × Y)(NE:X→(V X0)→W (V X0))(v14:V X0):W (V X0):=
NE (zM .i64 (v7+(15:X))) v14
def Fv(r3:(V X) × Y)(a0:X3)(a1:X7)(r4:Xk × Y):Z→X→(V X0)→W (V X0)
| 0,_,_=>U
| n+1,v7,v8=>
 if(decide (v7≤a1.Due)) then(
 if(decide ((v8.length:X)<(8:X))) then(
  (EN a0 a1 r4.1 r3.1 v7).bind fun r11=>
  if r11.2 then(
  if A7 v8.length ([r11.1]:V X0).length 48 then(
   Ij r3 v7 a0 a1 r4 (Fv r3 a0 a1 r4 n) (v8++([r11.1]:V X0)))
  else U)
  else(
  Ij r3 v7 a0 a1 r4 (Fv r3 a0 a1 r4 n) v8))
 else(
  O v8))
 else(
 O v8)
def CY(a0:X3)(a1:X7):W (V X0):=
(Ic a0 a1).bind fun r1=>
if r1 then(
 (JK a0.Chart a1.From a1.To).bind fun r3=>
 (FA a0 a1 r3.1).bind fun r4=>
 if r3.2 then(
 if r4.2 then(
  Fv r3 a0 a1 r4 bigN a1.Ready ([]:V X0))
 else(
  O ([]:V X0)))
 else(
 O ([]:V X0)))
else(
 O ([]:V X0))
def GY(a1:V X7)(a0:X3):Z→X→(V (V X0))→W (V (V X0))
| 0,_,_=>U
| n+1,v1,v2=>
 if(decide (v1<(a1.length:X))) then(
 (ix a1 v1).bind fun x4=>
 (CY a0 x4).bind fun r5=>
 if A7 v2.length ([r5]:V (V X0)).length 24 then(
  GY a1 a0 n (zM .i64 (v1+(1:X))) (v2++([r5]:V (V X0))))
 else U)
 else(
 O v2)
def Io(a0:X3)(a1:V X7):W (V (V X0)):=
GY a1 a0 bigN (0:X) ([]:V (V X0))
def KJ(a0 a1:Xi):W Y:=
if(decide (a0.i0<a1.i0)) then(
 O F)
else(
 if(a0.i0==a1.i0) then(
 O (decide (a0.i1<a1.i1)))
 else(
 O E))
def K4(a0 a1:X2):W Y:=
O (decide ((if a0.Start<a1.Start then a1.Start else a0.Start)<(if a1.End<a0.End then a1.End else a0.End)))
def KC(a0 a1 a2:X):W Y:=
O (decide ((IntKind.u64.wrap ((IntKind.u64.wrap (if a0<a1 then a1 else a0)) - (IntKind.u64.wrap (if a1<a0 then a1 else a0))))<(IntKind.u64.wrap a2)))
def Iu(a2 a3:X2)(v22:Y):W X:=
if v22 then(
 O (3:X))
else(
 if(decide (a2.Start<a3.Start)) then(
 if(decide (a3.End<a2.End)) then(
  O (4:X))
 else(
  if(decide (a3.Start<a2.Start)) then(
  if(decide (a2.End<a3.End)) then(
   O (4:X))
  else(
   O (0:X)))
  else(
  O (0:X))))
 else(
 if(decide (a3.Start<a2.Start)) then(
  if(decide (a2.End<a3.End)) then(
  O (4:X))
  else(
  O (0:X)))
 else(
  O (0:X))))
def FE(a1:Xl)(a2 a3:X2)(v15 v16:Y):W X:=
if v15 then(
 O (2:X))
else(
 if(a2.Toward==a3.Toward) then(
 (KC a2.Start a3.Start a1.Gap).bind fun r19=>
 if r19 then(
  Iu a2 a3 F)
 else(
  (KC a2.End a3.End a1.Gap).bind fun r21=>
  Iu a2 a3 r21))
 else(
 O (0:X)))
def It(a0:X5)(a1:Xl)(a2 a3:X2)(v7:Y):W X:=
if v7 then(
 O (1:X))
else(
 if(a2.Ship==a3.Ship) then(
 O (0:X))
 else(
 if(a2.Toward==a3.Toward) then(
  FE a1 a2 a3 E a1.NoMeet)
 else(
  (K4 a2 a3).bind fun r11=>
  if r11 then(
  if a1.NoMeet then(
   FE a1 a2 a3 F F)
  else(
   (ix a0.Segments a2.Segment).bind fun x14=>
   FE a1 a2 a3 (!x14.Meet) E))
  else(
  FE a1 a2 a3 E a1.NoMeet))))
def Ir(a0:X5)(a1:Xl)(a2 a3:X2)(v3:Y):W X:=
if v3 then(
 O (0:X))
else(
 if(a2.Ship==a3.Ship) then(
 (K4 a2 a3).bind fun r6=>
 It a0 a1 a2 a3 r6)
 else(
 It a0 a1 a2 a3 E))
def Kw(a0:X5)(a1:Xl)(a2 a3:X2):W X:=
if(a2.Segment !=a3.Segment) then(
 Ir a0 a1 a2 a3 F)
else(
 (B4 a2.Segment (a0.Segments.length:X)).bind fun r2=>
 Ir a0 a1 a2 a3 (!r2))
def GZ(a3 a2:V X2)(v1:X)(a0:X5)(a1:Xl)(x3:X2)(Lq:X→W Y):Z→X→W Y
| 0,_=>U
| n+1,v4=>
 if(decide (v4<(a3.length:X))) then(
 (ix a3 v4).bind fun x6=>
 (Kw a0 a1 x3 x6).bind fun r7=>
 if(r7 !=(0:X)) then(
  O F)
 else(
  GZ a3 a2 v1 a0 a1 x3 Lq n (zM .i64 (v4+(1:X)))))
 else(
 Lq (zM .i64 (v1+(1:X))))
def FD(a3 a2:V X2)(a0:X5)(a1:Xl):Z→X→W Y
| 0,_=>U
| n+1,v1=>
 if(decide (v1<(a2.length:X))) then(
 (ix a2 v1).bind fun x3=>
 GZ a3 a2 v1 a0 a1 x3 (FD a3 a2 a0 a1 n) bigN (0:X))
 else(
 O E)
def FB(a0:X5)(a1:Xl)(a2 a3:V X2):W Y:=
FD a3 a2 a0 a1 bigN (0:X)
def E0(a0:V X0):W (V X0):=
(BT (0:X) (a0.length:X) 48).bind fun n1=>
if A7 (zF n1 (⟨(0:X),(0:X),(0:X),([]:V X2)⟩:X0)).length a0.length 48 then(
 O ((zF n1 (⟨(0:X),(0:X),(0:X),([]:V X2)⟩:X0))++a0))
else U
def EF(a0:X2)(a1:X5):W (X × X):=
(ix a1.Segments a0.Segment).bind fun x1=>
if a0.Toward then(
 O (x1.A,x1.B))
else(
 O (x1.B,x1.A))
def H4(a0:X5)(a1 a2:X2):W Xb:=
(EF a1 a0).bind fun r1=>
(EF a2 a0).bind fun r2=>
O (⟨a1.Start,a2.End,r1.1,r2.2⟩:Xb)
def KE(a0:X5)(a1:V X9)(a2:X2):W Y:=
(B4 a2.Ship (a1.length:X)).bind fun r1=>
if r1 then(
 (B4 a2.Segment (a0.Segments.length:X)).bind fun r3=>
 if r3 then(
 (CI a2.Start).bind fun r5=>
 if r5 then(
  if(decide ((2880:X)<a2.End)) then(
  O E)
  else(
  (ix a1 a2.Ship).bind fun x8=>
  (ix a0.Segments a2.Segment).bind fun x9=>
  (EI x8 x9).bind fun r10=>
  O (a2.End==(zM .i64 (a2.Start+r10)))))
 else(
  O E))
 else(
 O E))
else(
 O E)
def GL(a0:X5)(a1:V X9)(a2:X2):W Y:=
(CH a0).bind fun r1=>
if r1 then(
 (Ig a1).bind fun r3=>
 if r3 then(
 (KE a0 a1 a2).bind fun r5=>
 O r5)
 else(
 O E))
else(
 O E)
def EP(a1:V X9)(a2:V X2)(v1:X)(x7:X9)(a0:X5)(x4:X2)(Lu:X→(V Xb)→W ((V Xb) × Y)):Z→X→(V Xb)→W ((V Xb) × Y)
| 0,_,_=>U
| n+1,v8,v9=>
 if(decide (v8<x7.Tugs)) then(
 (H4 a0 x4 x4).bind fun r11=>
 if A7 v9.length ([r11]:V Xb).length 32 then(
  EP a1 a2 v1 x7 a0 x4 Lu n (zM .i64 (v8+(1:X))) (v9++([r11]:V Xb)))
 else U)
 else(
 if(decide ((12:X)<(v9.length:X))) then(
  O (([]:V Xb),E))
 else(
  Lu (zM .i64 (v1+(1:X))) v9))
def CJ(a1:V X9)(a2:V X2)(a0:X5):Z→X→(V Xb)→W ((V Xb) × Y)
| 0,_,_=>U
| n+1,v1,v2=>
 if(decide (v1<(a2.length:X))) then(
 (ix a2 v1).bind fun x4=>
 (GL a0 a1 x4).bind fun r5=>
 if r5 then(
  (ix a1 x4.Ship).bind fun x7=>
  EP a1 a2 v1 x7 a0 x4 (CJ a1 a2 a0 n) bigN (0:X) v2)
 else(
  O (([]:V Xb),E)))
 else(
 O (v2,F))
def FM(a0:X5)(a1:V X9)(a2:V X2):W ((V Xb) × Y):=
CJ a1 a2 a0 bigN (0:X) ([]:V Xb)
def GA(a0:V Xb):Z→X→W Y
| 0,_=>U
| n+1,v2=>
 if(decide (v2<(a0.length:X))) then(
 (ix a0 v2).bind fun x4=>
 if(decide (x4.From<(0:X))) then(
  O E)
 else(
  if(decide (x4.To≤x4.From)) then(
  O E)
  else(
  if(decide ((2880:X)<x4.To)) then(
   O E)
  else(
   (B4 x4.A (8:X)).bind fun r9=>
   if r9 then(
   (B4 x4.B (8:X)).bind fun r11=>
   if r11 then(
    GA a0 n (zM .i64 (v2+(1:X))))
   else(
    O E))
   else(
   O E)))))
 else(
 O F)
def Gz(a0:V Xb):W Y:=
if(decide ((12:X)<(a0.length:X))) then(
 O E)
else(
 GA a0 bigN (0:X))
def H0(a0:X)(a1:V X)(a2:V Xb):W Y:=
(Gz a2).bind fun r1=>
if r1 then(
 (CI a0).bind fun r3=>
 if r3 then(
 (FH a1).bind fun r5=>
 O r5)
 else(
 O E))
else(
 O E)
def GD(a0:X)(a1:V X)(a2 a3:Xb)(v8:Y):W (X × Y):=
if v8 then(
 O ((0:X),E))
else(
 (ix a1 (zM .i64 ((zM .i64 ((8:X)*a2.B))+a3.A))).bind fun x10=>
 O ((zM .i64 (a0+x10)),F))
def MJ(a0:X)(a1:V X)(a2 a3:Xb):W (X × Y):=
(CI a0).bind fun r1=>
if r1 then(
 (FH a1).bind fun r3=>
 if r3 then(
 (B4 a2.B (8:X)).bind fun r5=>
 if r5 then(
  (B4 a3.A (8:X)).bind fun r7=>
  GD a0 a1 a2 a3 (!r7))
 else(
  GD a0 a1 a2 a3 F))
 else(
 GD a0 a1 a2 a3 F))
else(
 GD a0 a1 a2 a3 F)
def Ie(a0:X)(a1:V X)(a2 a3:Xb):W Y:=
(MJ a0 a1 a2 a3).bind fun r1=>
if r1.2 then(
 (Gz ([a2]:V Xb)).bind fun r3=>
 if r3 then(
 (Gz ([a3]:V Xb)).bind fun r5=>
 if r5 then(
  O (decide ((zM .i64 (a2.To+r1.1))≤a3.From)))
 else(
  O E))
 else(
 O E))
else(
 O E)
def H6(a0:X)(a1:V X)(a2:V Xb)(v2 v6:X)(x5:Xb)(v7:V X)(Lr:X→(V X)→W (V X))(v14:Y):W (V X):=
if v14 then(
 (ix v7 v2).bind fun x16=>
 if decide (v6<0) then U else
 Lr (zM .i64 (v6+(1:X))) (v7.set (zD v2) (AI .or .u64 x16 (Bb .u64 (1:X) v6))))
else(
 Lr (zM .i64 (v6+(1:X))) v7)
def Dz(a0:X)(a1:V X)(a2:V Xb)(v2:X)(x5:Xb)(Ho:X→(V X)→W (V X)):Z→X→(V X)→W (V X)
| 0,_,_=>U
| n+1,v6,v7=>
 if(decide (v6<(a2.length:X))) then(
 (ix a2 v6).bind fun x9=>
 if(v2 !=v6) then(
  (Ie a0 a1 x5 x9).bind fun r11=>
  if r11 then(
  H6 a0 a1 a2 v2 v6 x5 v7 (Dz a0 a1 a2 v2 x5 Ho n) F)
  else(
  (Ie a0 a1 x9 x5).bind fun r13=>
  H6 a0 a1 a2 v2 v6 x5 v7 (Dz a0 a1 a2 v2 x5 Ho n) r13))
 else(
  H6 a0 a1 a2 v2 v6 x5 v7 (Dz a0 a1 a2 v2 x5 Ho n) E))
 else(
 Ho (zM .i64 (v2+(1:X))) v7)
def EO(a0:X)(a1:V X)(a2:V Xb):Z→X→(V X)→W (V X)
| 0,_,_=>U
| n+1,v2,v3=>
 if(decide (v2<(a2.length:X))) then(
 (ix a2 v2).bind fun x5=>
 Dz a0 a1 a2 v2 x5 (EO a0 a1 a2 n) bigN (0:X) v3)
 else(
 O v3)
def KD(a0:X)(a1:V X)(a2:V Xb):W (V X):=
(BT (a2.length:X) (a2.length:X) 8).bind fun n1=>
EO a0 a1 a2 bigN (0:X) (zF n1 (0:X))
def IC(v8 v9:X):W X:=
(ix ([0,1,2,2,3,3,3,3,4,4,4,4,4,4,4,4,5,5,5,5,5,5,5,5,5,5,5,5,5,5,5,5,6,6,6,6,6,6,6,6,6,6,6,6,6,6,6,6,6,6,6,6,6,6,6,6,6,6,6,6,6,6,6,6,7,7,7,7,7,7,7,7,7,7,7,7,7,7,7,7,7,7,7,7,7,7,7,7,7,7,7,7,7,7,7,7,7,7,7,7,7,7,7,7,7,7,7,7,7,7,7,7,7,7,7,7,7,7,7,7,7,7,7,7,7,7,7,7,8,8,8,8,8,8,8,8,8,8,8,8,8,8,8,8,8,8,8,8,8,8,8,8,8,8,8,8,8,8,8,8,8,8,8,8,8,8,8,8,8,8,8,8,8,8,8,8,8,8,8,8,8,8,8,8,8,8,8,8,8,8,8,8,8,8,8,8,8,8,8,8,8,8,8,8,8,8,8,8,8,8,8,8,8,8,8,8,8,8,8,8,8,8,8,8,8,8,8,8,8,8,8,8,8,8,8,8,8,8,8,8,8,8,8,8,8,8,8,8,8,8,8,8,8,8,8,8]:V zA) (IntKind.u8.wrap v8)).bind fun b10=>
O (zM .i64 (v9+(zM .i64 (b10.toNat:X))))
def KM(v5 v6:X):W X:=
if(decide ((256:X)≤v5)) then(
 IC (B7 .u64 v5 8) (zM .i64 (v6+(8:X))))
else(
 IC v5 v6)
def KL(v2 v3:X):W X:=
if(decide ((65536:X)≤v2)) then(
 KM (B7 .u64 v2 16) (zM .i64 (v3+(16:X))))
else(
 KM v2 v3)
def N0(a0:X):W X:=
if(decide ((4294967296:X)≤a0)) then(
 KL (B7 .u64 a0 32) (32:X))
else(
 KL a0 (0:X))
def IB(a0:X):W X:=
(N0 a0).bind fun r1=>
O r1
def Iy(a0:V X)(y5 v6:X)(v17 v18 v21:X)(v19:V Y)(C4:X→(V Y)→(V X)→W X)(NF:X→(V X)→W X)(v28:V X):W X:=
if(v21==(0:X)) then(
 C4 (zM .i64 (v6+(1:X))) v19 v28)
else(
 NF (AI .and .i64 (zM .i64 (v21 - (1:X))) v18) v28)
def FG(a0:V X)(y5 v6:X)(v17 v18:X)(v19:V Y)(C4:X→(V Y)→(V X)→W X):Z→X→(V X)→W X
| 0,_,_=>U
| n+1,v21,v22=>
 if decide (v17<0) then U else
 (ix v19 (AI .or .i64 v21 (Bb .i64 (1:X) v17))).bind fun x24=>
 if x24 then(
 (ix v22 v6).bind fun x26=>
 (ix v22 (AI .andNot .i64 v18 v21)).bind fun x27=>
 Iy a0 y5 v6 v17 v18 v21 v19 C4 (FG a0 y5 v6 v17 v18 v19 C4 n) (v22.set (zD v6) (if(zM .i64 ((1:X)+x27))<x26 then(zM .i64 ((1:X)+x27)) else x26)))
 else(
 Iy a0 y5 v6 v17 v18 v21 v19 C4 (FG a0 y5 v6 v17 v18 v19 C4 n) v22)
def Ix(a0:V X)(y5 v6:X)(v8:V X)(C4:X→(V Y)→(V X)→W X)(v17 v18:X)(v19:V Y):W X:=
(ix v8 v6).bind fun x20=>
FG a0 y5 v6 v17 v18 v19 C4 bigN v18 (v8.set (zD v6) (a0.length:X))
def E4(a0:V X)(y5:X):Z→X→(V Y)→(V X)→W X
| 0,_,_,_=>U
| n+1,v6,v7,v8=>
 if(decide (v6<y5)) then(
 (IB (IntKind.u64.wrap v6)).bind fun r10=>
 if decide ((zM .i64 (r10 - (1:X)))<0) then U else
 (ix v7 (AI .andNot .i64 v6 (Bb .i64 (1:X) (zM .i64 (r10 - (1:X)))))).bind fun x12=>
 if x12 then(
  (ix a0 (zM .i64 (r10 - (1:X)))).bind fun x14=>
  (ix v7 v6).bind fun x15=>
  Ix a0 y5 v6 v8 (E4 a0 y5 n) (zM .i64 (r10 - (1:X))) (AI .andNot .i64 v6 (Bb .i64 (1:X) (zM .i64 (r10 - (1:X))))) (v7.set (zD v6) ((AI .andNot .u64 (IntKind.u64.wrap (AI .andNot .i64 v6 (Bb .i64 (1:X) (zM .i64 (r10 - (1:X)))))) x14)==(0:X))))
 else(
  (ix v7 v6).bind fun x16=>
  Ix a0 y5 v6 v8 (E4 a0 y5 n) (zM .i64 (r10 - (1:X))) (AI .andNot .i64 v6 (Bb .i64 (1:X) (zM .i64 (r10 - (1:X))))) (v7.set (zD v6) E)))
 else(
 (ix v8 (zM .i64 (y5 - (1:X)))).bind fun x30=>
 O x30)
def Kz(a0:V X):W X:=
if decide ((a0.length:X)<0) then U else
(BT (Bb .i64 (1:X) (a0.length:X)) (Bb .i64 (1:X) (a0.length:X)) 1).bind fun n2=>
(BT (Bb .i64 (1:X) (a0.length:X)) (Bb .i64 (1:X) (a0.length:X)) 8).bind fun n3=>
(ix (zF n2 E) (0:X)).bind fun x4=>
E4 a0 (Bb .i64 (1:X) (a0.length:X)) bigN (1:X) ((zF n2 E).set (zD (0:X)) F) (zF n3 (0:X))
def H3(rec_:Xf→W (Y × Xf))(a0:Xf)(v2:X)(E9:X→(V X)→X→(V X)→(V X)→W (Y × Xf))(v22:V X)(v23:X)(v24 v25:V X):W (Y × Xf):=
(ix v24 v2).bind fun x26=>
if(x26==(0:X)) then(
 (bnd (v24.length:X) v2 0 v24.length).bind fun p28=>
 O (E,(⟨v22,v23,(v24.take p28.2),v25⟩:Xf)))
else(
 E9 (zM .i64 (v2+(1:X))) v22 v23 v24 v25)
def Iv(rec_:Xf→W (Y × Xf))(a0:Xf)(v2:X)(v3:V X)(v4:X)(v6:V X)(E9:X→(V X)→X→(V X)→(V X)→W (Y × Xf))(v11:V X):W (Y × Xf):=
(ix v11 v2).bind fun x12=>
(ix v3 (a0.who.length:X)).bind fun x13=>
if((AI .andNot .u64 x12 x13)==(0:X)) then(
 if decide ((a0.who.length:X)<0) then U else
 if A7 v6.length ([v2]:V X).length 8 then(
 (rec_ (⟨v3,v4,(v11.set (zD v2) (AI .or .u64 x12 (Bb .u64 (1:X) (a0.who.length:X)))),(v6++([v2]:V X))⟩:Xf)).bind fun r17=>
 if r17.1 then(
  O (F,r17.2))
 else(
  (bnd (r17.2.who.length:X) (a0.who.length:X) 0 r17.2.who.length).bind fun p19=>
  (ix r17.2.groups v2).bind fun x20=>
  if decide ((a0.who.length:X)<0) then U else
  H3 rec_ a0 v2 E9 r17.2.sets r17.2.most (r17.2.groups.set (zD v2) (AI .andNot .u64 x20 (Bb .u64 (1:X) (a0.who.length:X)))) (r17.2.who.take p19.2)))
 else U)
else(
 H3 rec_ a0 v2 E9 v3 v4 v11 v6)
def EL(rec_:Xf→W (Y × Xf))(a0:Xf):Z→X→(V X)→X→(V X)→(V X)→W (Y × Xf)
| 0,_,_,_,_,_=>U
| n+1,v2,v3,v4,v5,v6=>
 if(decide (v2≤(v5.length:X))) then(
 if(decide (v2<v4)) then(
  if(v2==(v5.length:X)) then(
  if A7 v5.length ([(0:X)]:V X).length 8 then(
   Iv rec_ a0 v2 v3 v4 v6 (EL rec_ a0 n) (v5++([(0:X)]:V X)))
  else U)
  else(
  Iv rec_ a0 v2 v3 v4 v6 (EL rec_ a0 n) v5))
 else(
  O (E,(⟨v3,v4,v5,v6⟩:Xf))))
 else(
 O (E,(⟨v3,v4,v5,v6⟩:Xf)))
def Kx(rec_:Xf→W (Y × Xf))(a0:Xf):W (Y × Xf):=
if((a0.who.length:X)==(a0.sets.length:X)) then(
 O (F,a0))
else(
 EL rec_ a0 bigN (0:X) a0.sets a0.most a0.groups a0.who)
def Dx:Z→Xf→W (Y × Xf)
| 0,_=>U
| n+1,a0=>Kx (Dx n) a0
def MT(a0:Xf):W (Y × Xf):=Dx bigN a0
def Dv(a0:X)(a1:V X)(a2:V Xb):W ((V X) × X × Y):=
(H0 a0 a1 a2).bind fun r1=>
if r1 then(
 (KD a0 a1 a2).bind fun r3=>
 (Kz r3).bind fun r4=>
 (MT (⟨r3,r4,([]:V X),([]:V X)⟩:Xf)).bind fun r5=>
 O (r5.2.who,r5.2.most,F))
else(
 O (([]:V X),(0:X),E))
def E1(a0:X)(a1:V X)(a2:V Xb)(a3:X):W Y:=
if(decide ((a2.length:X)≤a3)) then(
 O F)
else(
 (Dv a0 a1 a2).bind fun r2=>
 O (decide (r2.2.1≤a3)))
def Dy(a1:V X0)(a0:X3):Z→X→(V X2)→(V Xb)→W Y
| 0,_,_,_=>U
| n+1,v1,v2,v3=>
 if(decide (v1<(a1.length:X))) then(
 (ix a1 v1).bind fun x5=>
 if A7 v2.length x5.Passages.length 40 then(
  if(decide ((0:X)<(x5.Passages.length:X))) then(
  (ix x5.Passages (0:X)).bind fun x8=>
  (ix x5.Passages (zM .i64 ((x5.Passages.length:X) - (1:X)))).bind fun x9=>
  (H4 a0.Chart x8 x9).bind fun r10=>
  if A7 v3.length ([r10]:V Xb).length 32 then(
   Dy a1 a0 n (zM .i64 (v1+(1:X))) (v2++x5.Passages) (v3++([r10]:V Xb)))
  else U)
  else(
  Dy a1 a0 n (zM .i64 (v1+(1:X))) (v2++x5.Passages) v3))
 else U)
 else(
 (FM a0.Chart a0.Fleet v2).bind fun r12=>
 if r12.2 then(
  (E1 (0:X) a0.Crew.Moves r12.1 a0.Crew.Tugs).bind fun r14=>
  if r14 then(
  (E1 a0.Crew.Rest a0.Crew.Moves v3 a0.Crew.Pilots).bind fun r16=>
  O r16)
  else(
  O E))
 else(
  O E))
def E2(a0:X3)(a1:V X0):W Y:=
Dy a1 a0 bigN (0:X) ([]:V X2) ([]:V Xb)
def E3(a1:V X0)(a0:X3)(a2:X0):Z→X→W Y
| 0,_=>U
| n+1,v1=>
 if(decide (v1<(a1.length:X))) then(
 (ix a1 v1).bind fun x3=>
 (FB a0.Chart a0.Regime x3.Passages a2.Passages).bind fun r4=>
 if r4 then(
  O E)
 else(
  E3 a1 a0 a2 n (zM .i64 (v1+(1:X)))))
 else(
 (E0 a1).bind fun r6=>
 if A7 r6.length ([a2]:V X0).length 48 then(
  (E2 a0 (r6++([a2]:V X0))).bind fun r9=>
  O r9)
 else U)
def EM(a0:X3)(a1:V X0)(a2:X0):W Y:=
E3 a1 a0 a2 bigN (0:X)
def FL(w0:(V X0)→W Xi)(rec_:Xc→W Xc)(a0:Xc)(x8:V X0):Z→X→X3→(V (V X0))→X→X→Y→(V X0)→(V X)→(V X)→W Xc
| 0,_,_,_,_,_,_,_,_,_=>U
| n+1,v9,v10,v11,v12,v13,v14,v15,v16,v17=>
 if(decide (v9<(x8.length:X))) then(
 (ix x8 v9).bind fun x19=>
 (EM v10 v15 x19).bind fun r20=>
 if r20 then(
  if A7 v15.length ([x19]:V X0).length 48 then(
  if A7 v16.length ([v9]:V X).length 8 then(
   (rec_ (⟨v10,v11,(v15++([x19]:V X0)),(v16++([v9]:V X)),v17,(⟨v12,v13⟩:Xi),v14⟩:Xc)).bind fun r24=>
   (bnd (r24.plan.length:X) (a0.plan.length:X) 0 r24.plan.length).bind fun p25=>
   (bnd (r24.choice.length:X) (a0.plan.length:X) 0 r24.choice.length).bind fun p26=>
   FL w0 rec_ a0 x8 n (zM .i64 (v9+(1:X))) r24.h r24.choices r24.least.i0 r24.least.i1 r24.found (r24.plan.take p25.2) (r24.choice.take p26.2) r24.best)
  else U)
  else U)
 else(
  FL w0 rec_ a0 x8 n (zM .i64 (v9+(1:X))) v10 v11 v12 v13 v14 v15 v16 v17))
 else(
 O (⟨v10,v11,v15,v16,v17,(⟨v12,v13⟩:Xi),v14⟩:Xc))
def FJ(w0:(V X0)→W Xi)(rec_:Xc→W Xc)(a0:Xc)(r1:Xi)(v5:Y):W Xc:=
if((a0.plan.length:X)==(a0.choices.length:X)) then(
 (Bn a0.choice).bind fun r7=>
 O (⟨a0.h,a0.choices,a0.plan,a0.choice,r7,r1,F⟩:Xc))
else(
 (ix a0.choices (a0.plan.length:X)).bind fun x8=>
 FL w0 rec_ a0 x8 bigN (0:X) a0.h a0.choices a0.least.i0 a0.least.i1 v5 a0.plan a0.choice a0.best)
def KF(w0:(V X0)→W Xi)(rec_:Xc→W Xc)(a0:Xc):W Xc:=
(w0 a0.plan).bind fun r1=>
if a0.found then(
 (KJ r1 a0.least).bind fun r3=>
 if r3 then(
 FJ w0 rec_ a0 r1 F)
 else(
 O (⟨a0.h,a0.choices,a0.plan,a0.choice,a0.best,a0.least,F⟩:Xc)))
else(
 FJ w0 rec_ a0 r1 E)
def DA(w0:(V X0)→W Xi):Z→Xc→W Xc
| 0,_=>U
| n+1,a0=>KF w0 (DA w0 n) a0
def OZ(w0:(V X0)→W Xi)(a0:Xc):W Xc:=DA w0 bigN a0
def KA(a0:X3)(a1:V (V X0))(a2:(V X0)→W Xi):W ((V X) × Xi × Y):=
(OZ a2 (⟨a0,a1,([]:V X0),([]:V X),([]:V X),(⟨(0:X),(0:X)⟩:Xi),E⟩:Xc)).bind fun r1=>
O (r1.best,r1.least,r1.found)
def Gw(a0:V X0):Z→X→X→W X
| 0,_,_=>U
| n+1,v1,v2=>
 if(decide (v2<(a0.length:X))) then(
 (ix a0 v2).bind fun x4=>
 Gw a0 n (zM .i64 (v1+x4.Cost)) (zM .i64 (v2+(1:X))))
 else(
 O v1)
def MH(a0:V X0):W X:=
Gw a0 bigN (0:X) (0:X)
def Ku(a0:V X0):W Xi:=
(MH a0).bind fun r1=>
O (⟨r1,(0:X)⟩:Xi)
def Fl(a0:X3)(a1:V X7):W ((V X) × X × Y):=
(CX a0 a1).bind fun r1=>
if r1 then(
 (Io a0 a1).bind fun r3=>
 (KA a0 r3 (fun z0=>Ku z0)).bind fun r4=>
 O (r4.1,r4.2.1.i0,r4.2.2))
else(
 O (([]:V X),(0:X),E))
def GI(a1:V X):Z→X→W Y
| 0,_=>U
| n+1,v2=>
 if(decide (v2<(a1.length:X))) then(
 (ix a1 v2).bind fun x4=>
 (B4 x4 (a1.length:X)).bind fun r5=>
 if r5 then(
  (ix a1 x4).bind fun x7=>
  if(x7 !=v2) then(
  O E)
  else(
  GI a1 n (zM .i64 (v2+(1:X)))))
 else(
  O E))
 else(
 O F)
def K0(a0:V X7)(a1:V X):W Y:=
if((a1.length:X) !=(a0.length:X)) then(
 O E)
else(
 GI a1 bigN (0:X))
def If(a0:V X0)(v1 v2:X)(Ln:X→X→W X)(v7:Y):W X:=
if v7 then(
 Ln v2 (zM .i64 (v2+(1:X))))
else(
 Ln v1 (zM .i64 (v2+(1:X))))
def Ez(a0:V X0):Z→X→X→W X
| 0,_,_=>U
| n+1,v1,v2=>
 if(decide (v2<(a0.length:X))) then(
 (ix a0 v2).bind fun x4=>
 if(decide (v1<(0:X))) then(
  If a0 v1 v2 (Ez a0 n) F)
 else(
  (ix a0 v1).bind fun x6=>
  If a0 v1 v2 (Ez a0 n) (decide (x4.Cost<x6.Cost))))
 else(
 O v1)
def MG(a0:V X0):W X:=
Ez a0 bigN (-1:X) (0:X)
def JR(a0:X3)(a1:X7):W X:=
(CY a0 a1).bind fun r1=>
if((r1.length:X)==(0:X)) then(
 O (-1:X))
else(
 (MG r1).bind fun r3=>
 (ix r1 r3).bind fun x4=>
 O x4.Cost)
def GK(v7:X)(r1:(V X0))(v3:X)(r6:(V X0))(v8:X)(a0:X3)(a2:X7)(x5:X0)(Lo:X→X→W X)(v15:X)(v16:Y):W X:=
if v16 then(
 Lo v15 (zM .i64 (v8+(1:X))))
else(
 Lo v7 (zM .i64 (v8+(1:X))))
def DW(r1:(V X0))(v3:X)(r6:(V X0))(a0:X3)(a2:X7)(x5:X0)(Hn:X→X→W X):Z→X→X→W X
| 0,_,_=>U
| n+1,v7,v8=>
 if(decide (v8<(r6.length:X))) then(
 (ix r6 v8).bind fun x10=>
 if(decide (v7<(0:X))) then(
  (FB a0.Chart a0.Regime x5.Passages x10.Passages).bind fun r12=>
  GK v7 r1 v3 r6 v8 a0 a2 x5 (DW r1 v3 r6 a0 a2 x5 Hn n) (zM .i64 (x5.Cost+x10.Cost)) (!r12))
 else(
  if(decide ((zM .i64 (x5.Cost+x10.Cost))<v7)) then(
  (FB a0.Chart a0.Regime x5.Passages x10.Passages).bind fun r14=>
  GK v7 r1 v3 r6 v8 a0 a2 x5 (DW r1 v3 r6 a0 a2 x5 Hn n) (zM .i64 (x5.Cost+x10.Cost)) (!r14))
  else(
  GK v7 r1 v3 r6 v8 a0 a2 x5 (DW r1 v3 r6 a0 a2 x5 Hn n) (zM .i64 (x5.Cost+x10.Cost)) E)))
 else(
 Hn v7 (zM .i64 (v3+(1:X))))
def EE(r1:(V X0))(a0:X3)(a2:X7):Z→X→X→W X
| 0,_,_=>U
| n+1,v2,v3=>
 if(decide (v3<(r1.length:X))) then(
 (ix r1 v3).bind fun x5=>
 (CY a0 a2).bind fun r6=>
 DW r1 v3 r6 a0 a2 x5 (EE r1 a0 a2 n) bigN v2 (0:X))
 else(
 O v2)
def K5(a0:X3)(a1 a2:X7):W X:=
(CY a0 a1).bind fun r1=>
EE r1 a0 a2 bigN (-1:X) (0:X)
def Gn(a1:V X7)(v6:X)(a2:V X)(v7:X)(a0:X3)(NC:X→X→W (X × Y))(v17:X):W (X × Y):=
if(decide (v17<(0:X))) then(
 O ((0:X),E))
else(
 NC (zM .i64 (v6+v17)) (zM .i64 (v7+(1:X))))
def DT(a1:V X7)(a2:V X)(a0:X3):Z→X→X→W (X × Y)
| 0,_,_=>U
| n+1,v6,v7=>
 if(decide (v7<(a2.length:X))) then(
 (ix a2 v7).bind fun x9=>
 if(x9==v7) then(
  (ix a1 v7).bind fun x11=>
  (JR a0 x11).bind fun r12=>
  Gn a1 v6 a2 v7 a0 (DT a1 a2 a0 n) r12)
 else(
  if(decide (v7<x9)) then(
  (ix a1 v7).bind fun x14=>
  (ix a1 x9).bind fun x15=>
  (K5 a0 x14 x15).bind fun r16=>
  Gn a1 v6 a2 v7 a0 (DT a1 a2 a0 n) r16)
  else(
  Gn a1 v6 a2 v7 a0 (DT a1 a2 a0 n) (0:X))))
 else(
 O (v6,F))
def JN(a1:V X7)(a2:V X)(a0:X3)(v4:Y):W (X × Y):=
if v4 then(
 O ((0:X),E))
else(
 DT a1 a2 a0 bigN (0:X) (0:X))
def JM(a0:X3)(a1:V X7)(a2:V X):W (X × Y):=
(CX a0 a1).bind fun r1=>
if r1 then(
 (K0 a1 a2).bind fun r3=>
 JN a1 a2 a0 (!r3))
else(
 JN a1 a2 a0 F)
def MS(a0:X3)(a1:V X7)(m:V X)(f:Y)(k:X)(b:V X):W (Y × X × V X):=
(JM a0 a1 m).bind fun r1=>
if r1.2 then(
 if f then(
 if(decide (k<r1.1)) then(
  (Bn m).bind fun r2=>
  O (F,r1.1,r2))
 else(
  O (f,k,b)))
 else(
 (Bn m).bind fun r2=>
 O (F,r1.1,r2)))
else(
 O (f,k,b))
def DZ(rec_:V X→Y→X→V X→W (V X × Y × X × V X))(i:X):Z→X→V X→Y→X→V X→W (V X × Y × X × V X)
| 0,_,_,_,_,_=>U
| n+1,v,m,f,k,b=>
 if(decide (v<(m.length:X))) then(
 (ix m v).bind fun x1=>
 if(decide (x1<(0:X))) then(
  (ix m i).bind fun x2=>
  (ix (m.set (zD i) v) v).bind fun x3=>
  (rec_ ((m.set (zD i) v).set (zD v) i) f k b).bind fun r4=>
  (ix r4.1 i).bind fun x5=>
  (ix (r4.1.set (zD i) (-1:X)) v).bind fun x6=>
  DZ rec_ i n (zM .i64 (v+(1:X))) ((r4.1.set (zD i) (-1:X)).set (zD v) (-1:X)) r4.2.1 r4.2.2.1 r4.2.2.2)
 else(
  DZ rec_ i n (zM .i64 (v+(1:X))) m f k b))
 else(
 O (m,f,k,b))
def EJ(rec_:V X→Y→X→V X→W (V X × Y × X × V X))(a0:X3)(a1:V X7)(m:V X)(f:Y)(k:X)(b:V X)(v:X):W (V X × Y × X × V X):=
if(v==(m.length:X)) then(
 (MS a0 a1 m f k b).bind fun r1=>
 O (m,r1.1,r1.2.1,r1.2.2))
else(
 DZ rec_ v bigN v m f k b)
def DY(rec_:V X→Y→X→V X→W (V X × Y × X × V X))(a0:X3)(a1:V X7)(m:V X)(f:Y)(k:X)(b:V X):Z→X→W (V X × Y × X × V X)
| 0,_=>U
| n+1,v=>
 if(decide (v<(m.length:X))) then(
 (ix m v).bind fun x1=>
 if(decide ((0:X)≤x1)) then(
  DY rec_ a0 a1 m f k b n (zM .i64 (v+(1:X))))
 else(
  EJ rec_ a0 a1 m f k b v))
 else(
 EJ rec_ a0 a1 m f k b v)
def EK(a0:X3)(a1:V X7):Z→V X→Y→X→V X→W (V X × Y × X × V X)
| 0,_,_,_,_=>U
| n+1,m,f,k,b=>DY (EK a0 a1 n) a0 a1 m f k b bigN (0:X)
def MR(a0:X3)(a1:V X7)(m:V X)(f:Y)(k:X)(b:V X):W (V X × Y × X × V X):=EK a0 a1 bigN m f k b
def Gm(a0:X3)(a1:V X7)(y4:X):Z→X→(V X)→W ((V X) × X × Y)
| 0,_,_=>U
| n+1,v5,v6=>
 if(decide (v5<y4)) then(
 (ix v6 v5).bind fun x8=>
 Gm a0 a1 y4 n (zM .i64 (v5+(1:X))) (v6.set (zD v5) (-1:X)))
 else(
 (MR a0 a1 v6 E (0:X) ([]:V X)).bind fun r9=>
 O (r9.2.2.2,r9.2.2.1,r9.2.1))
def JJ(a0:X3)(a1:V X7):W ((V X) × X × Y):=
(CX a0 a1).bind fun r1=>
if r1 then(
 (BT (a1.length:X) (a1.length:X) 8).bind fun n3=>
 Gm a0 a1 ((zF n3 (0:X)).length:X) bigN (0:X) (zF n3 (0:X)))
else(
 O (([]:V X),(0:X),E))
def EC(a0:X):W (V zA):=
(N4 a0).bind fun r1=>
O r1
def KK(a0:Xj):W (V zA):=
if a0.isS then(
 O a0.s)
else(
 (EC a0.n).bind fun r2=>
 O r2)
def ED(a0:V (V zA))(a1:V zA):W (V zA):=
(N5 a0 a1).bind fun r1=>
O r1
def Ha(a0:V Xj):Z→X→(V (V zA))→W (V zA)
| 0,_,_=>U
| n+1,v1,v2=>
 if(decide (v1<(a0.length:X))) then(
 (ix a0 v1).bind fun x4=>
 (KK x4).bind fun r5=>
 if A7 v2.length ([r5]:V (V zA)).length 16 then(
  Ha a0 n (zM .i64 (v1+(1:X))) (v2++([r5]:V (V zA))))
 else U)
 else(
 (ED v2 ([32]:V zA)).bind fun r7=>
 O r7)
def ES(a0:V Xj):W (V zA):=
Ha a0 bigN (0:X) ([]:V (V zA))
def JL(a0:X3)(a1:V X7):W (V zA):=
(CX a0 a1).bind fun r1=>
if r1 then(
 (Fl a0 a1).bind fun r3=>
 if r3.2.2 then(
 (JJ a0 a1).bind fun r5=>
 (ES ([(⟨F,([99,111,115,116]:V zA),0⟩:Xj),(⟨E,[],r3.2.1⟩:Xj),(⟨F,([98,111,117,110,100]:V zA),0⟩:Xj),(⟨E,[],r5.2.1⟩:Xj),(⟨F,([103,97,112]:V zA),0⟩:Xj),(⟨E,[],(zM .i64 (r3.2.1 - r5.2.1))⟩:Xj)]:V Xj)).bind fun r6=>
 O r6)
 else(
 O ([110,111,32,112,108,97,110]:V zA)))
else(
 O ([]:V zA))
def MX(rec_:X→X→W (V (V X)))(a0 a1 v2:X)(r5:(V (V X)))(v6:X)(x9:V X)(v7:V (V X))(Lt:X→(V (V X))→W (V (V X))):Z→X→(V X)→W (V (V X))
| 0,_,_=>U
| n+1,v10,v11=>
 if(decide (v10<(x9.length:X))) then(
 (ix x9 v10).bind fun x13=>
 if A7 v11.length ([(zM .i64 ((zM .i64 (v2+(1:X)))+x13))]:V X).length 8 then(
  MX rec_ a0 a1 v2 r5 v6 x9 v7 Lt n (zM .i64 (v10+(1:X))) (v11++([(zM .i64 ((zM .i64 (v2+(1:X)))+x13))]:V X)))
 else U)
 else(
 if A7 v7.length ([v11]:V (V X)).length 24 then(
  Lt (zM .i64 (v6+(1:X))) (v7++([v11]:V (V X))))
 else U)
def MW(rec_:X→X→W (V (V X)))(a0 a1 v2:X)(r5:(V (V X)))(Ls:X→(V (V X))→W (V (V X))):Z→X→(V (V X))→W (V (V X))
| 0,_,_=>U
| n+1,v6,v7=>
 if(decide (v6<(r5.length:X))) then(
 (ix r5 v6).bind fun x9=>
 MX rec_ a0 a1 v2 r5 v6 x9 v7 (MW rec_ a0 a1 v2 r5 Ls n) bigN (0:X) ([v2]:V X))
 else(
 Ls (zM .i64 (v2+(1:X))) v7)
def MV(rec_:X→X→W (V (V X)))(a0 a1:X):Z→X→(V (V X))→W (V (V X))
| 0,_,_=>U
| n+1,v2,v3=>
 if(decide (v2<a0)) then(
 (rec_ (zM .i64 ((zM .i64 (a0 - v2)) - (1:X))) (zM .i64 (a1 - (1:X)))).bind fun r5=>
 MW rec_ a0 a1 v2 r5 (MV rec_ a0 a1 n) bigN (0:X) v3)
 else(
 O v3)
def P0(rec_:X→X→W (V (V X)))(a0 a1:X):W (V (V X)):=
if(a1==(0:X)) then(
 O ([([]:V X)]:V (V X)))
else(
 MV rec_ a0 a1 bigN (0:X) ([]:V (V X)))
def KG:Z→X→X→W (V (V X))
| 0,_,_=>U
| n+1,a0,a1=>P0 (KG n) a0 a1
def MU(a0 a1:X):W (V (V X)):=KG bigN a0 a1
def FF(a0:V X7)(a1:V X):Z→X→W Y
| 0,_=>U
| n+1,v1=>
 if(decide (v1<(a1.length:X))) then(
 (ix a1 v1).bind fun x3=>
 (B4 x3 (a0.length:X)).bind fun r4=>
 if r4 then(
  if(decide ((0:X)<v1)) then(
  (ix a1 (zM .i64 (v1 - (1:X)))).bind fun x7=>
  if(decide (x3≤x7)) then(
   O E)
  else(
   FF a0 a1 n (zM .i64 (v1+(1:X)))))
  else(
  FF a0 a1 n (zM .i64 (v1+(1:X)))))
 else(
  O E))
 else(
 O F)
def Ky(a0:V X7)(a1:V X):W Y:=
FF a0 a1 bigN (0:X)
def GT(a0:V X7)(a1:V X):Z→X→(V X7)→W (V X7)
| 0,_,_=>U
| n+1,v3,v4=>
 if(decide (v3<(a1.length:X))) then(
 (ix a1 v3).bind fun x6=>
 (ix a0 x6).bind fun x7=>
 if A7 v4.length ([x7]:V X7).length 40 then(
  GT a0 a1 n (zM .i64 (v3+(1:X))) (v4++([x7]:V X7)))
 else U)
 else(
 O v4)
def Kk(a0:V X7)(a1:V X):W (V X7):=
(Ky a0 a1).bind fun r1=>
if r1 then(
 GT a0 a1 bigN (0:X) ([]:V X7))
else(
 O ([]:V X7))
def JO(a0:X3)(a1:V X7):W Y:=
(Fl a0 a1).bind fun r1=>
O r1.2.2
def Kl(a0:X3)(a1:V X7)(a2:V X):W Y:=
(CX a0 a1).bind fun r1=>
if r1 then(
 (Ky a1 a2).bind fun r3=>
 if r3 then(
 (Kk a1 a2).bind fun r5=>
 (JO a0 r5).bind fun r6=>
 O r6)
 else(
 O E))
else(
 O E)
def CZ(a1:V X7)(y3 v4:X)(r6:(V (V X)))(a0:X3)(Lp:X→W (V X)):Z→X→W (V X)
| 0,_=>U
| n+1,v7=>
 if(decide (v7<(r6.length:X))) then(
 (ix r6 v7).bind fun x9=>
 (Kl a0 a1 x9).bind fun r10=>
 if r10 then(
  CZ a1 y3 v4 r6 a0 Lp n (zM .i64 (v7+(1:X))))
 else(
  O x9))
 else(
 Lp (zM .i64 (v4+(1:X))))
def Di(a1:V X7)(a0:X3)(y3:X):Z→X→W (V X)
| 0,_=>U
| n+1,v4=>
 if(decide (v4<y3)) then(
 (MU (a1.length:X) v4).bind fun r6=>
 CZ a1 y3 v4 r6 a0 (Di a1 a0 y3 n) bigN (0:X))
 else(
 O ([]:V X))
def Ik(a0:X3)(a1:V X7):W (V X):=
(CX a0 a1).bind fun r1=>
if r1 then(
 Di a1 a0 (zM .i64 ((a1.length:X)+(1:X))) bigN (0:X))
else(
 O ([]:V X))
def GR(a1:V X7)(r3:(V X))(a0:X3):Z→X→(V (V zA))→W (V zA)
| 0,_,_=>U
| n+1,v4,v5=>
 if(decide (v4<(r3.length:X))) then(
 (ix r3 v4).bind fun x7=>
 (ix a1 x7).bind fun x8=>
 (ix a0.Fleet x8.Ship).bind fun x9=>
 if A7 v5.length ([x9.Name]:V (V zA)).length 16 then(
  GR a1 r3 a0 n (zM .i64 (v4+(1:X))) (v5++([x9.Name]:V (V zA))))
 else U)
 else(
 if((v5.length:X)==(0:X)) then(
  O ([110,111,110,101]:V zA))
 else(
  (ED v5 ([43]:V zA)).bind fun r12=>
  O r12))
def Kf(a0:X3)(a1:V X7):W (V zA):=
(CX a0 a1).bind fun r1=>
if r1 then(
 (Ik a0 a1).bind fun r3=>
 GR a1 r3 a0 bigN (0:X) ([]:V (V zA)))
else(
 O ([]:V zA))
def K3(a2:V X)(a3:X)(a0:X3)(a1:X7)(v4:Y):W (X0 × Y):=
if v4 then(
 O ((⟨(0:X),(0:X),(0:X),([]:V X2)⟩:X0),E))
else(
 (FA a0 a1 a2).bind fun r6=>
 if r6.2 then(
 (EN a0 a1 r6.1 a2 a3).bind fun r9=>
 if r9.2 then(
  O (r9.1,F))
 else(
  O ((⟨(0:X),(0:X),(0:X),([]:V X2)⟩:X0),E)))
 else(
 O ((⟨(0:X),(0:X),(0:X),([]:V X2)⟩:X0),E)))
def K2(a0:X3)(a1:X7)(a2:V X)(a3:X):W (X0 × Y):=
(Ic a0 a1).bind fun r1=>
if r1 then(
 (Bx a3 a1.Ready a1.Due).bind fun r3=>
 K3 a2 a3 a0 a1 (!r3))
else(
 K3 a2 a3 a0 a1 F)
def Hb(a0 a1:V X2):Z→X→W Y
| 0,_=>U
| n+1,v2=>
 if(decide (v2<(a0.length:X))) then(
 (ix a0 v2).bind fun x4=>
 (ix a1 v2).bind fun x5=>
 if((x4.Ship==x5.Ship)&&((x4.Segment==x5.Segment)&&((x4.Toward==x5.Toward)&&((x4.Start==x5.Start)&&((x4.End==x5.End)&&F))))) then(
  Hb a0 a1 n (zM .i64 (v2+(1:X))))
 else(
  O E))
 else(
 O F)
def KO(a0 a1:V X2):W Y:=
if((a0.length:X) !=(a1.length:X)) then(
 O E)
else(
 Hb a0 a1 bigN (0:X))
def Ki(a0 a1:X0):W Y:=
if(a0.Start==a1.Start) then(
 if(a0.Arrival==a1.Arrival) then(
 if(a0.Cost==a1.Cost) then(
  (KO a0.Passages a1.Passages).bind fun r4=>
  O r4)
 else(
  O E))
 else(
 O E))
else(
 O E)
def GG(a2:X0)(a0:X3)(a1:X7):Z→X→(V X)→W Y
| 0,_,_=>U
| n+1,v1,v2=>
 if(decide (v1<(a2.Passages.length:X))) then(
 (ix a2.Passages v1).bind fun x4=>
 if A7 v2.length ([x4.Segment]:V X).length 8 then(
  GG a2 a0 a1 n (zM .i64 (v1+(1:X))) (v2++([x4.Segment]:V X)))
 else U)
 else(
 (K2 a0 a1 v2 a2.Start).bind fun r6=>
 if r6.2 then(
  (Ki r6.1 a2).bind fun r9=>
  O r9)
 else(
  O E))
def JX(a0:X3)(a1:X7)(a2:X0):W Y:=
GG a2 a0 a1 bigN (0:X) ([]:V X)
def GH(a2:V X0)(a1:V X7)(a0:X3):Z→X→W Y
| 0,_=>U
| n+1,v4=>
 if(decide (v4<(a1.length:X))) then(
 (ix a1 v4).bind fun x6=>
 (ix a2 v4).bind fun x7=>
 (JX a0 x6 x7).bind fun r9=>
 if r9 then(
  (bnd (a2.length:X) v4 (0:X) a2.length).bind fun p11=>
  (EM a0 ((a2.drop p11.1).take (p11.2 - p11.1)) x7).bind fun r12=>
  if r12 then(
  GH a2 a1 a0 n (zM .i64 (v4+(1:X))))
  else(
  O E))
 else(
  O E))
 else(
 O F)
def Ii(a0:X3)(a1:V X7)(a2:V X0):W Y:=
(CX a0 a1).bind fun r1=>
if r1 then(
 if((a2.length:X) !=(a1.length:X)) then(
 O E)
 else(
 GH a2 a1 a0 bigN (0:X)))
else(
 O E)
def GO(a1:V X7)(a2:V X0)(a0:X3):Z→X→(V (V zA))→W (V (V zA))
| 0,_,_=>U
| n+1,v3,v4=>
 if(decide (v3<(a2.length:X))) then(
 (ix a2 v3).bind fun x6=>
 (ix a1 v3).bind fun x7=>
 (ix a0.Fleet x7.Ship).bind fun x8=>
 (ES ([(⟨F,x8.Name,0⟩:Xj),(⟨F,([115,116,97,114,116]:V zA),0⟩:Xj),(⟨E,[],x6.Start⟩:Xj),(⟨F,([97,114,114,105,118,101]:V zA),0⟩:Xj),(⟨E,[],x6.Arrival⟩:Xj),(⟨F,([119,97,105,116]:V zA),0⟩:Xj),(⟨E,[],x6.Cost⟩:Xj)]:V Xj)).bind fun r9=>
 if A7 v4.length ([r9]:V (V zA)).length 16 then(
  GO a1 a2 a0 n (zM .i64 (v3+(1:X))) (v4++([r9]:V (V zA))))
 else U)
 else(
 O v4)
def Fx(a0:X3)(a1:V X7)(a2:V X0):W (V (V zA)):=
(Ii a0 a1 a2).bind fun r1=>
if r1 then(
 GO a1 a2 a0 bigN (0:X) ([]:V (V zA)))
else(
 O ([]:V (V zA)))
def GP(a2:V X)(a1:V X7)(a0:X3):Z→X→(V X0)→W ((V X0) × Y)
| 0,_,_=>U
| n+1,v5,v6=>
 if(decide (v5<(a1.length:X))) then(
 (ix a1 v5).bind fun x8=>
 (CY a0 x8).bind fun r9=>
 (ix a2 v5).bind fun x10=>
 (B4 x10 (r9.length:X)).bind fun r11=>
 if r11 then(
  (ix r9 x10).bind fun x13=>
  if A7 v6.length ([x13]:V X0).length 48 then(
  GP a2 a1 a0 n (zM .i64 (v5+(1:X))) (v6++([x13]:V X0)))
  else U)
 else(
  O (([]:V X0),E)))
 else(
 O (v6,F))
def Kd(a1:V X7)(a2:V X)(a0:X3)(v3:Y):W ((V X0) × Y):=
if v3 then(
 O (([]:V X0),E))
else(
 GP a2 a1 a0 bigN (0:X) ([]:V X0))
def Kc(a0:X3)(a1:V X7)(a2:V X):W ((V X0) × Y):=
(CX a0 a1).bind fun r1=>
if r1 then(
 Kd a1 a2 a0 ((a2.length:X) !=(a1.length:X)))
else(
 Kd a1 a2 a0 F)
def Kv(a0:V X2):W (V X2):=
(BT (0:X) (a0.length:X) 40).bind fun n1=>
if A7 (zF n1 (⟨(0:X),(0:X),E,(0:X),(0:X)⟩:X2)).length a0.length 40 then(
 O ((zF n1 (⟨(0:X),(0:X),E,(0:X),(0:X)⟩:X2))++a0))
else U
def Gq(a0:V X0):Z→X→(V (V X2))→W (V (V X2))
| 0,_,_=>U
| n+1,v1,v2=>
 if(decide (v1<(a0.length:X))) then(
 (ix a0 v1).bind fun x4=>
 (Kv x4.Passages).bind fun r5=>
 if A7 v2.length ([r5]:V (V X2)).length 24 then(
  Gq a0 n (zM .i64 (v1+(1:X))) (v2++([r5]:V (V X2))))
 else U)
 else(
 O v2)
def JP(a0:V X0):W (V (V X2)):=
Gq a0 bigN (0:X) ([]:V (V X2))
def Ks(a0:Xo)(a1:X5)(a2:V X9)(a3:V X2):W X:=
(FM a1 a2 a3).bind fun r1=>
if r1.2 then(
 (Gy a0).bind fun r3=>
 if r3 then(
 (Dv (0:X) a0.Moves r1.1).bind fun r5=>
 O r5.2.1)
 else(
 O (-1:X)))
else(
 O (-1:X))
def Ft(a1:V X2)(a0:X5):Z→X→W Y
| 0,_=>U
| n+1,v3=>
 if(decide (v3<(a1.length:X))) then(
 (ix a1 v3).bind fun x5=>
 (ix a1 (0:X)).bind fun x6=>
 if(x5.Ship !=x6.Ship) then(
  O E)
 else(
  (B4 x5.Segment (a0.Segments.length:X)).bind fun r9=>
  if r9 then(
  if(v3==(0:X)) then(
   Ft a1 a0 n (zM .i64 (v3+(1:X))))
  else(
   (ix a1 (zM .i64 (v3 - (1:X)))).bind fun x12=>
   (EF x12 a0).bind fun r13=>
   (EF x5 a0).bind fun r14=>
   if(r14.1 !=r13.2) then(
   O E)
   else(
   if(decide (x5.Start<x12.End)) then(
    O E)
   else(
    Ft a1 a0 n (zM .i64 (v3+(1:X)))))))
  else(
  O E)))
 else(
 O F)
def JU(a0:X5)(a1:V X2):W Y:=
(CH a0).bind fun r1=>
if r1 then(
 Ft a1 a0 bigN (0:X))
else(
 O E)
def GN(a1:V X9)(a2:V X2)(a0:X5):Z→X→W (Xb × Y)
| 0,_=>U
| n+1,v5=>
 if(decide (v5<(a2.length:X))) then(
 (ix a2 v5).bind fun x7=>
 (GL a0 a1 x7).bind fun r9=>
 if r9 then(
  GN a1 a2 a0 n (zM .i64 (v5+(1:X))))
 else(
  O ((⟨(0:X),(0:X),(0:X),(0:X)⟩:Xb),E)))
 else(
 (ix a2 (0:X)).bind fun x11=>
 (ix a2 (zM .i64 ((a2.length:X) - (1:X)))).bind fun x12=>
 (H4 a0 x11 x12).bind fun r13=>
 O (r13,F))
def Ka(a1:V X9)(a2:V X2)(a0:X5)(v3:Y):W (Xb × Y):=
if v3 then(
 O ((⟨(0:X),(0:X),(0:X),(0:X)⟩:Xb),E))
else(
 GN a1 a2 a0 bigN (0:X))
def K9(a0:X5)(a1:V X9)(a2:V X2):W (Xb × Y):=
if((a2.length:X)==(0:X)) then(
 Ka a1 a2 a0 F)
else(
 (JU a0 a2).bind fun r2=>
 Ka a1 a2 a0 (!r2))
def Fw(a2:V X9)(a3:V (V X2))(a0:Xo)(a1:X5):Z→X→(V Xb)→W X
| 0,_,_=>U
| n+1,v1,v2=>
 if(decide (v1<(a3.length:X))) then(
 (ix a3 v1).bind fun x4=>
 if((x4.length:X)==(0:X)) then(
  Fw a2 a3 a0 a1 n (zM .i64 (v1+(1:X))) v2)
 else(
  (K9 a1 a2 x4).bind fun r6=>
  if r6.2 then(
  if A7 v2.length ([r6.1]:V Xb).length 32 then(
   Fw a2 a3 a0 a1 n (zM .i64 (v1+(1:X))) (v2++([r6.1]:V Xb)))
  else U)
  else(
  O (-1:X))))
 else(
 (Gy a0).bind fun r9=>
 if r9 then(
  if(decide ((12:X)<(v2.length:X))) then(
  O (-1:X))
  else(
  (Dv a0.Rest a0.Moves v2).bind fun r12=>
  O r12.2.1))
 else(
  O (-1:X)))
def Kb(a0:Xo)(a1:X5)(a2:V X9)(a3:V (V X2)):W X:=
Fw a2 a3 a0 a1 bigN (0:X) ([]:V Xb)
def Gx(r3:(V (V X2)))(a0:X3):Z→X→(V X2)→W (V zA)
| 0,_,_=>U
| n+1,v4,v5=>
 if(decide (v4<(r3.length:X))) then(
 (ix r3 v4).bind fun x7=>
 if A7 v5.length x7.length 40 then(
  Gx r3 a0 n (zM .i64 (v4+(1:X))) (v5++x7))
 else U)
 else(
 (Ks a0.Crew a0.Chart a0.Fleet v5).bind fun r9=>
 (Kb a0.Crew a0.Chart a0.Fleet r3).bind fun r10=>
 (ES ([(⟨F,([116,117,103,115]:V zA),0⟩:Xj),(⟨E,[],r9⟩:Xj),(⟨F,([112,105,108,111,116,115]:V zA),0⟩:Xj),(⟨E,[],r10⟩:Xj)]:V Xj)).bind fun r11=>
 O r11)
def JQ(a0:X3)(a1:V X0):W (V zA):=
(GE a0).bind fun r1=>
if r1 then(
 (JP a1).bind fun r3=>
 Gx r3 a0 bigN (0:X) ([]:V X2))
else(
 O ([]:V zA))
def GC(a0:V X8):Z→X→(V (V zA))→W (V zA)
| 0,_,_=>U
| n+1,v4,v5=>
 if(decide (v4<(a0.length:X))) then(
 (ix a0 v4).bind fun x7=>
 (EC x7.From).bind fun r9=>
 if Bm r9.length ([45]:V zA).length then(
  (EC x7.To).bind fun r11=>
  if Bm (r9++([45]:V zA)).length r11.length then(
  if A7 v5.length ([((r9++([45]:V zA))++r11)]:V (V zA)).length 16 then(
   GC a0 n (zM .i64 (v4+(1:X))) (v5++([((r9++([45]:V zA))++r11)]:V (V zA))))
  else U)
  else U)
 else U)
 else(
 (ED v5 ([32]:V zA)).bind fun r14=>
 O r14)
def JT(a0:V X8):W (V zA):=
(In a0).bind fun r1=>
if r1 then(
 if((a0.length:X)==(0:X)) then(
 O ([110,111,110,101]:V zA))
 else(
 GC a0 bigN (0:X) ([]:V (V zA))))
else(
 O ([]:V zA))
def GV(a1:X5)(a0:Xd)(a2:X9):Z→X→(V (V zA))→W (V (V zA))
| 0,_,_=>U
| n+1,v7,v8=>
 if(decide (v7<(a1.Segments.length:X))) then(
 (ix a1.Segments v7).bind fun x10=>
 (ix a1.Points x10.A).bind fun x11=>
 if Bm x11.Name.length ([45]:V zA).length then(
  (ix a1.Points x10.B).bind fun x13=>
  if Bm (x11.Name++([45]:V zA)).length x13.Name.length then(
  (Im a0 a1 v7 a2).bind fun r15=>
  (JT r15).bind fun r16=>
  (ES ([(⟨F,((x11.Name++([45]:V zA))++x13.Name),0⟩:Xj),(⟨F,r16,0⟩:Xj)]:V Xj)).bind fun r17=>
  if A7 v8.length ([r17]:V (V zA)).length 16 then(
   GV a1 a0 a2 n (zM .i64 (v7+(1:X))) (v8++([r17]:V (V zA))))
  else U)
  else U)
 else U)
 else(
 O v8)
def Ko(a0:Xd)(a1:X5)(a2:X9):W (V (V zA)):=
(EA a0).bind fun r1=>
if r1 then(
 (CH a1).bind fun r3=>
 if r3 then(
 (Dw a2).bind fun r5=>
 if r5 then(
  GV a1 a0 a2 bigN (0:X) ([]:V (V zA)))
 else(
  O ([]:V (V zA))))
 else(
 O ([]:V (V zA))))
else(
 O ([]:V (V zA)))
def JS(a0:X5)(a1:V X9)(a2:X2):W (V zA):=
(GL a0 a1 a2).bind fun r1=>
if r1 then(
 (EF a2 a0).bind fun r3=>
 (ix a1 a2.Ship).bind fun x4=>
 (ix a0.Points r3.1).bind fun x5=>
 if Bm x5.Name.length ([62]:V zA).length then(
 (ix a0.Points r3.2).bind fun x7=>
 if Bm (x5.Name++([62]:V zA)).length x7.Name.length then(
  (EC a2.Start).bind fun r9=>
  (EC a2.End).bind fun r10=>
  (ED ([x4.Name,((x5.Name++([62]:V zA))++x7.Name),r9,r10]:V (V zA)) ([32]:V zA)).bind fun r11=>
  O r11)
 else U)
 else U)
else(
 O ([]:V zA))
def MZ(a0:V X):W Y:=
if(decide ((1048576:X)<(a0.length:X))) then(
 O F)
else(
 (KQ a0).bind fun r2=>
 (Fl r2.1 r2.2).bind fun r3=>
 (JL r2.1 r2.2).bind fun r4=>
 (Kf r2.1 r2.2).bind fun r5=>
 if(r4==([]:V zA)) then(
 O E)
 else(
 if(r5==([]:V zA)) then(
  O E)
 else(
  if((r5==([110,111,110,101]:V zA))==r3.2.2) then(
  if((r4==([110,111,32,112,108,97,110]:V zA))==r3.2.2) then(
   O E)
  else(
   if r3.2.2 then(
   (Kc r2.1 r2.2 r3.1).bind fun r12=>
   (Fx r2.1 r2.2 r12.1).bind fun r13=>
   if((r12.1.length:X) !=(r2.2.length:X)) then(
    O E)
   else(
    (ix r12.1 (0:X)).bind fun x15=>
    if((x15.Passages.length:X)==(0:X)) then(
    O E)
    else(
    if((r13.length:X)==(r2.2.length:X)) then(
     (JQ r2.1 r12.1).bind fun r18=>
     if(r18==([]:V zA)) then(
     O E)
     else(
     (ix r2.1.Fleet (0:X)).bind fun x20=>
     (Ko r2.1.Forecast r2.1.Chart x20).bind fun r21=>
     if((r21.length:X)==(r2.1.Chart.Segments.length:X)) then(
      (ix x15.Passages (0:X)).bind fun x23=>
      (JS r2.1.Chart r2.1.Fleet x23).bind fun r24=>
      O (!(r24==([]:V zA))))
     else(
      O E)))
    else(
     O E))))
   else(
   (Fx r2.1 r2.2 ([]:V X0)).bind fun r11=>
   O ((r11.length:X)==(0:X)))))
  else(
  O E))))
class Ct (f:Z) (T:outParam Prop):Prop where
 c:T
theorem Ak{f:Z}{T:Prop}(I:Ct f T):T:=I.c
section
variable {P : Program} {k : V Fr} {Q : Xm → St → Prop} {σ : St} {its : V AItem} {d f : Z} {args : V Opd} {xs : V DV} {rs : V R1} {T : Prop} [I : Ct f T]
theorem ZP(hf:T→FC P f xs rs)(h:go P (.ops its::k) Q .normal (O (σ.inst d rs)))(h1:σ.toIVs args=O xs:=by exact rfl)(h3:σ.fresh d=F:=by first | exact rfl | (simp only[St.fresh,zK,zL,Bf]; simp[AV.cells,V1.cells,AC.uses]))(h4:Nat.ble (rs.flatMap R1.cells).length 64=F:=by exact rfl) :
  go P (.ops ((U,.call d f args)::its)::k) Q .normal (O σ):=AM (hf I.c) h h1 h3 h4
theorem cM{N:V Z}{ds:V AN}(hf:T→FC P f xs rs)(h:go P (.dops ds::k) Q .normal (O (σ.inst d rs)))(h1:(σ.less N).toIVs args=O xs:=by exact rfl)(h3:σ.fresh d=F:=by first | exact rfl | (simp only[St.fresh,zK,zL,Bf]; simp[AV.cells,V1.cells,AC.uses]))(h4:Nat.ble (rs.flatMap R1.cells).length 64=F:=by exact rfl) :
  go P (.dops ((O N,U,.call d f args)::ds)::k) Q .normal (O σ):=Cs (hf I.c) h h1 h3 h4
theorem ZQ(hf:T→FC P f xs rs)(h:go P (.ops its::k) Q .normal (O (σ.inst d rs)))(h1:σ.toDVs args=O xs:=by exact rfl)(h2:Cd rs:=by first | exact Cv rfl | exact D1 rfl ⟨D2,⟨⟩⟩ | exact D1 rfl ⟨D2,rfl,⟨⟩⟩ | exact D1 rfl ⟨D2,rfl,rfl,⟨⟩⟩ | exact D1 rfl ⟨rfl,rfl,rfl,D2,rfl,⟨⟩⟩)(h3:σ.fresh d=F:=by first | exact rfl | (simp only[St.fresh,zK,zL,Bf]; simp[AV.cells,V1.cells,AC.uses]))(h4:Nat.ble (rs.flatMap R1.cells).length 64=F:=by exact rfl) :
  go P (.ops ((U,.call d f args)::its)::k) Q .normal (O σ):=Dj (hf I.c) h1 h2 h3 (zB h4) h
theorem cN{N:V Z}{ds:V AN}(hf:T→FC P f xs rs)(h:go P (.dops ds::k) Q .normal (O (σ.inst d rs)))(h1:(σ.less N).toDVs args=O xs:=by exact rfl)(h2:Cd rs:=by first | exact Cv rfl | exact D1 rfl ⟨D2,⟨⟩⟩ | exact D1 rfl ⟨D2,rfl,⟨⟩⟩)(h3:σ.fresh d=F:=by first | exact rfl | (simp only[St.fresh,zK,zL,Bf]; simp[AV.cells,V1.cells,AC.uses]))(h4:Nat.ble (rs.flatMap R1.cells).length 64=F:=by exact rfl) :
  go P (.dops ((O N,U,.call d f args)::ds)::k) Q .normal (O σ):=FS (hf I.c) h1 h2 h3 (zB h4) h
end
theorem Ay(es:V (V D)){P:Program}{k:V Fr}{Q:Xm→St→Prop}{σ:St}{its:V AItem}{d sz:Z}{zs:V D}{len:Z}{ps:V (Z × Opd)}(H:go P (.ops its::k) Q .normal (O {(σ.set d (.v (.sc (.own (d*64))))) with rows:=put σ.rows (d*64) (sz,es) }))(hm:σ.made (.bslice d sz zs len ps)=O (.row d sz es):=by exact rfl)(hf:σ.fresh d=F:=by first | exact rfl | (simp only[St.fresh,zK,zL,Bf]; simp[AV.cells,V1.cells,AC.uses])) :
  go P (.ops ((U,.bslice d sz zs len ps)::its)::k) Q .normal (O σ):=Ce hm hf H
theorem IY{α:Type}(row:α→V D)(z:α){P:Program}{k:V Fr}{Q:Xm→St→Prop}{σ:St}{its:V AItem}{d:Z}{L C:Opd}{l c:X}{bytes n sz:Z}{zs:V D}(hb:BT l c bytes=O n)
  (H:go P (.ops its::k) Q .normal (O {(σ.set d (.v (.sc (.own (d*64))))) with rows:=put σ.rows (d*64) (sz,zC row (zF n z)) })) (hl:BH (σ.val L)=O l:=by exact rfl) (hc:BH (σ.val C)=O c:=by exact rfl) (hz:zs.length=sz:=by exact rfl) (he:row z=zs:=by exact rfl) (hf:σ.fresh d=F:=by exact rfl):go P (.ops ((U,.mksl d sz bytes zs L C)::its)::k) Q .normal (O σ):=P9 hl hc hb hz (Q4 he) hf H
theorem UF{α:Type}(row:α→V D)(y:α){P:Program}{k:V Fr}{Q:Xm→St→Prop}{env bx rows}{id sz off n:Z}{i:X}{xs:V α}{x:α}{yv:V1}{dd:V D}(hx:ix xs i=O x)(H:go P k Q .normal (O ⟨env,bx,put rows id (sz,zC row (xs.set i.toNat y))⟩))(hd:yv.toDs=O dd:=by exact rfl)(hf:A1 rows id=O (sz,zC row xs):=by exact rfl)
  (hn:dd.length=n:=by exact rfl) (ho:Nat.ble (off+n) (row x).length=F:=by exact rfl) (hy:F5 (row x) off dd=row y:=by exact rfl) :
  go P k Q .normal (St.storeV ⟨env,bx,rows⟩ n (.v (.sc (.pe id i.toNat off))) (.v yv)):=Cw hd hf (AJ hx) hn ho hy H
theorem gc{G:Prop}(k:G:=by
 first | intro S hS | intro hS
 conv at hS=>rhs; reduce
 try simp only[Int.reduceOfNat,Int.reduceNegSucc,Ql,UInt8.reduceOfNat] at hS
 subst hS;first | refine AP (Aw ?_) | refine Aw ?_ | skip
 repeat' (first | refine BL ?_ | refine AK ?_ | refine At ?_ | refine C3 ?_ | (obtain⟨_,hc,h⟩:=ob h; first | refine ZP (by intro k; apply k; exact hc) ?_ | refine cM (by intro k; apply k; exact hc) ?_ | refine ZQ (by intro k; apply k; exact hc) ?_ | refine cN (by intro k; apply k; exact hc) ?_ | refine s0 hc ?_ | refine s1 hc ?_) | simp only[*,Nat.reduceBEq,Nat.reduceMul,Nat.reduceAdd,Nat.reduceDiv,Int.reduceBEq,J] | (first | refine s0 ?_ | refine s0 _ ?_ | refine s0 ‹_› ?_ | refine s0 _ ‹_› ?_ | refine s0 _ _ ‹_› ?_ | refine s1 ?_ | refine s1 _ ?_ | refine s1 ‹_› ?_ | refine s1 _ ‹_› ?_ | refine s1 _ _ ‹_› ?_ | refine s2 ?_ | refine s2 _ ?_ | refine s2 ‹_› ?_ | refine s2 _ ‹_› ?_ | refine s2 _ _ ‹_› ?_ | refine s3 ?_ | refine s3 _ ?_ | refine s3 ‹_› ?_ | refine s3 _ ‹_› ?_ | refine s3 _ _ ‹_› ?_) | ((first | show go _ (.code (.loop _)::_) _ _ _ | show go _ (.code (J1 _)::_) _ _ _); (first | refine ih h ?_ (by kernel_rfl) | refine k0 h ?_ (by kernel_rfl) | refine k0 ‹_› h ?_ (by kernel_rfl) | refine k0 ‹_› ‹_› h ?_ (by kernel_rfl) | refine k0 ‹_› ‹_› ‹_› h ?_ (by kernel_rfl) | refine k1 h ?_ (by kernel_rfl) | refine k1 ‹_› h ?_ (by kernel_rfl) | refine k1 ‹_› ‹_› h ?_ (by kernel_rfl) | refine k1 ‹_› ‹_› ‹_› h ?_ (by kernel_rfl) | refine k2 h ?_ (by kernel_rfl) | refine k2 ‹_› h ?_ (by kernel_rfl) | refine k2 ‹_› ‹_› h ?_ (by kernel_rfl) | refine k2 ‹_› ‹_› ‹_› h ?_ (by kernel_rfl) | refine k3 h ?_ (by kernel_rfl) | refine k3 ‹_› h ?_ (by kernel_rfl) | refine k3 ‹_› ‹_› h ?_ (by kernel_rfl) | refine k3 ‹_› ‹_› ‹_› h ?_ (by kernel_rfl)))<;>try simp only[*,Nat.reduceBEq,Nat.reduceMul,Nat.reduceAdd,Nat.reduceDiv,Int.reduceBEq,J,pL,aM,List.map_nil] | (obtain⟨_,_,h⟩:=ob h) | (obtain⟨_,h⟩:=AQ h) | (obtain⟨_,h⟩:=F3 h) | (obtain⟨_,h⟩ | ⟨_,h⟩:=ic h) | (cases h; first | exact t0 | trivial | (repeat' constructor; done)))
 done):G:=k
end Go.Vi
