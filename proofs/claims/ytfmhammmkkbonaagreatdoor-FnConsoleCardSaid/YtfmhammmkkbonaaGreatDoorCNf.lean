/-
Plain definitions of functions. No condition.
-/
import Derived.Test.YtfmhammmkkbonaaGreatDoorCVi43
import Derived.Test.YtfmhammmkkbonaaGreatDoorCLa
namespace Go.Vi
set_option linter.all false
open List renaming map → zB, replicate → zD, not_mem_nil → zG, mem_cons → zH, all_cons → zK, all_nil → zL
open Nat renaming le_of_ble_eq_true → zC
open Int renaming toNat → zE, tdiv → zI, tmod → zJ
open And renaming intro → zF
open IntKind renaming wrap → zM
open Bool renaming true → F, false → E
open Option renaming some → O, none → U
open _root_ renaming List → V, Option → W, Int → X, Bool → Y, Nat → Z, UInt8 → zA
def Bf(k:IntKind)(x:X)(n:Z):X:=k.wrap (x.fdiv (2 ^ min n k.bits))
theorem eh{k:IntKind}{x:X}:BY .shr (.v (.sc (.dat (.int k x)))) (.v (.sc (.dat (.int .u64 8))))=O (.v (.sc (.dat (.int k (Bf k x 8))))):=by simp[BY,AI,Bf]
theorem qp{k:IntKind}{x:X}:AI .shr k x 8=O (.int k (Bf k x 8)):=by simp[AI,Bf]
theorem ed{k:IntKind}{x:X}:BY .shr (.v (.sc (.dat (.int k x)))) (.v (.sc (.dat (.int .u64 16))))=O (.v (.sc (.dat (.int k (Bf k x 16))))):=by simp[BY,AI,Bf]
theorem ql{k:IntKind}{x:X}:AI .shr k x 16=O (.int k (Bf k x 16)):=by simp[AI,Bf]
theorem ee{k:IntKind}{x:X}:BY .shr (.v (.sc (.dat (.int k x)))) (.v (.sc (.dat (.int .u64 32))))=O (.v (.sc (.dat (.int k (Bf k x 32))))):=by simp[BY,AI,Bf]
theorem qm{k:IntKind}{x:X}:AI .shr k x 32=O (.int k (Bf k x 32)):=by simp[AI,Bf]
theorem ef{k:IntKind}{x:X}:BY .shr (.v (.sc (.dat (.int k x)))) (.v (.sc (.dat (.int .u64 33))))=O (.v (.sc (.dat (.int k (Bf k x 33))))):=by simp[BY,AI,Bf]
theorem qn{k:IntKind}{x:X}:AI .shr k x 33=O (.int k (Bf k x 33)):=by simp[AI,Bf]
theorem eg{k:IntKind}{x:X}:BY .shr (.v (.sc (.dat (.int k x)))) (.v (.sc (.dat (.int .u64 45))))=O (.v (.sc (.dat (.int k (Bf k x 45))))):=by simp[BY,AI,Bf]
theorem qo{k:IntKind}{x:X}:AI .shr k x 45=O (.int k (Bf k x 45)):=by simp[AI,Bf]
structure Xj where
 isS:Y
 s:V zA
 n:X
 deriving DecidableEq
def Nx(x:Xj):D:= .ifc (bif x.isS then 9 else 3) (bif x.isS then .str x.s else .int .i64 x.n)
theorem dW{t:TypeId}{zc:AC}{x:Xj}:GR t zc (.v (.sc (.dat (Nx x))))=GR t zc (.v (.sc (.dat (.ifc (bif x.isS then 9 else 3) (bif x.isS then .str x.s else .int .i64 x.n))))):=rfl
def rA(x:Xj):V D:= [Nx x]
theorem ub(x:Xj):rA x= [Nx x]:=rfl
instance:Row rA 1:=⟨fun _=>rfl,zC rfl⟩
structure Xl where
 b:V X
 i:X
 h:X
 deriving DecidableEq
def Xl.row(x:Xl):V D:= [.sl (zB r8 x.b),.int .i64 x.i,.int .i64 x.h]
theorem Xl.row_eq(x:Xl):Xl.row x= [.sl (zB r8 x.b),.int .i64 x.i,.int .i64 x.h]:=rfl
instance:Row Xl.row 3:=⟨fun _=>rfl,zC rfl⟩
instance:OfTy (.st [(.sl (.int .u8)),(.int .i64),(.int .i64)]) Xl.row:=⟨fun ds h=>by
 obtain⟨a0,b0,h0,t0,rfl⟩:=h;obtain⟨a1,b1,h1,t1,rfl⟩:=t0;obtain⟨a2,b2,h2,t2,rfl⟩:=t1;obtain rfl:=t2;obtain⟨x0,rfl⟩:=OfTy.of (row:=(rL r8)) _ h0;obtain⟨x1,rfl⟩:=OfTy.of (row:=rI) _ h1;obtain⟨x2,rfl⟩:=OfTy.of (row:=rI) _ h2;exact⟨⟨x0,x1,x2⟩,rfl⟩⟩
structure Xf where
 Amp:X
 Period:X
 Phase:X
 deriving DecidableEq
def Xf.row(x:Xf):V D:= [.int .i64 x.Amp,.int .i64 x.Period,.int .i64 x.Phase]
theorem Xf.row_eq(x:Xf):Xf.row x= [.int .i64 x.Amp,.int .i64 x.Period,.int .i64 x.Phase]:=rfl
instance:Row Xf.row 3:=⟨fun _=>rfl,zC rfl⟩
instance:FlatRow Xf.row:=⟨fun x d hd=>by simp only[Xf.row_eq,zH,zG,or_false] at hd; rcases hd with rfl | rfl | rfl<;>rfl⟩
instance:OfTy (.st [(.int .i64),(.int .i64),(.int .i64)]) Xf.row:=⟨fun ds h=>by
 obtain⟨a0,b0,h0,t0,rfl⟩:=h;obtain⟨a1,b1,h1,t1,rfl⟩:=t0;obtain⟨a2,b2,h2,t2,rfl⟩:=t1;obtain rfl:=t2;obtain⟨x0,rfl⟩:=OfTy.of (row:=rI) _ h0;obtain⟨x1,rfl⟩:=OfTy.of (row:=rI) _ h1;obtain⟨x2,rfl⟩:=OfTy.of (row:=rI) _ h2;exact⟨⟨x0,x1,x2⟩,rfl⟩⟩
structure Xq where
 Mean:X
 Parts:V Xf
 deriving DecidableEq
def Xq.row(x:Xq):V D:= [.int .i64 x.Mean,.sl (zB Xf.row x.Parts)]
theorem Xq.row_eq(x:Xq):Xq.row x= [.int .i64 x.Mean,.sl (zB Xf.row x.Parts)]:=rfl
instance:Row Xq.row 2:=⟨fun _=>rfl,zC rfl⟩
instance:OfTy (.st [(.int .i64),(.sl (.st [(.int .i64),(.int .i64),(.int .i64)]))]) Xq.row:=⟨fun ds h=>by
 obtain⟨a0,b0,h0,t0,rfl⟩:=h;obtain⟨a1,b1,h1,t1,rfl⟩:=t0;obtain rfl:=t1;obtain⟨x0,rfl⟩:=OfTy.of (row:=rI) _ h0;obtain⟨x1,rfl⟩:=OfTy.of (row:=(rL Xf.row)) _ h1;exact⟨⟨x0,x1⟩,rfl⟩⟩
structure Xc where
 From:X
 Low:X
 High:X
 deriving DecidableEq
def Xc.row(x:Xc):V D:= [.int .i64 x.From,.int .i64 x.Low,.int .i64 x.High]
theorem Xc.row_eq(x:Xc):Xc.row x= [.int .i64 x.From,.int .i64 x.Low,.int .i64 x.High]:=rfl
instance:Row Xc.row 3:=⟨fun _=>rfl,zC rfl⟩
instance:FlatRow Xc.row:=⟨fun x d hd=>by simp only[Xc.row_eq,zH,zG,or_false] at hd; rcases hd with rfl | rfl | rfl<;>rfl⟩
instance:OfTy (.st [(.int .i64),(.int .i64),(.int .i64)]) Xc.row:=⟨fun ds h=>by
 obtain⟨a0,b0,h0,t0,rfl⟩:=h;obtain⟨a1,b1,h1,t1,rfl⟩:=t0;obtain⟨a2,b2,h2,t2,rfl⟩:=t1;obtain rfl:=t2;obtain⟨x0,rfl⟩:=OfTy.of (row:=rI) _ h0;obtain⟨x1,rfl⟩:=OfTy.of (row:=rI) _ h1;obtain⟨x2,rfl⟩:=OfTy.of (row:=rI) _ h2;exact⟨⟨x0,x1,x2⟩,rfl⟩⟩
structure Xb where
 Tide:Xq
 Surges:V Xc
 deriving DecidableEq
def Xb.row(x:Xb):V D:= [.int .i64 x.Tide.Mean,.sl (zB Xf.row x.Tide.Parts),.sl (zB Xc.row x.Surges)]
theorem Xb.row_eq(x:Xb):Xb.row x= [.int .i64 x.Tide.Mean,.sl (zB Xf.row x.Tide.Parts),.sl (zB Xc.row x.Surges)]:=rfl
instance:Row Xb.row 3:=⟨fun _=>rfl,zC rfl⟩
instance:OfTy (.st [(.st [(.int .i64),(.sl (.st [(.int .i64),(.int .i64),(.int .i64)]))]),(.sl (.st [(.int .i64),(.int .i64),(.int .i64)]))]) Xb.row:=⟨fun ds h=>by
 obtain⟨a0,b0,h0,t0,rfl⟩:=h;obtain⟨a1,b1,h1,t1,rfl⟩:=t0;obtain rfl:=t1;obtain⟨x0,rfl⟩:=OfTy.of (row:=Xq.row) _ h0;obtain⟨x1,rfl⟩:=OfTy.of (row:=(rL Xc.row)) _ h1;exact⟨⟨x0,x1⟩,rfl⟩⟩
structure Xa where
 Name:V zA
 Wait:Y
 deriving DecidableEq
def Xa.row(x:Xa):V D:= [.str x.Name,.bool x.Wait]
theorem Xa.row_eq(x:Xa):Xa.row x= [.str x.Name,.bool x.Wait]:=rfl
instance:Row Xa.row 2:=⟨fun _=>rfl,zC rfl⟩
instance:FlatRow Xa.row:=⟨fun x d hd=>by simp only[Xa.row_eq,zH,zG,or_false] at hd; rcases hd with rfl | rfl<;>rfl⟩
instance:OfTy (.st [.str,.bool]) Xa.row:=⟨fun ds h=>by
 obtain⟨a0,b0,h0,t0,rfl⟩:=h;obtain⟨a1,b1,h1,t1,rfl⟩:=t0;obtain rfl:=t1;obtain⟨x0,rfl⟩:=OfTy.of (row:=rS) _ h0;obtain⟨x1,rfl⟩:=OfTy.of (row:=rB) _ h1;exact⟨⟨x0,x1⟩,rfl⟩⟩
structure X7 where
 A:X
 B:X
 Depth:X
 Minutes:X
 Meet:Y
 deriving DecidableEq
def X7.row(x:X7):V D:= [.int .i64 x.A,.int .i64 x.B,.int .i64 x.Depth,.int .i64 x.Minutes,.bool x.Meet]
theorem X7.row_eq(x:X7):X7.row x= [.int .i64 x.A,.int .i64 x.B,.int .i64 x.Depth,.int .i64 x.Minutes,.bool x.Meet]:=rfl
instance:Row X7.row 5:=⟨fun _=>rfl,zC rfl⟩
instance:FlatRow X7.row:=⟨fun x d hd=>by simp only[X7.row_eq,zH,zG,or_false] at hd; rcases hd with rfl | rfl | rfl | rfl | rfl<;>rfl⟩
instance:OfTy (.st [(.int .i64),(.int .i64),(.int .i64),(.int .i64),.bool]) X7.row:=⟨fun ds h=>by
 obtain⟨a0,b0,h0,t0,rfl⟩:=h;obtain⟨a1,b1,h1,t1,rfl⟩:=t0;obtain⟨a2,b2,h2,t2,rfl⟩:=t1;obtain⟨a3,b3,h3,t3,rfl⟩:=t2;obtain⟨a4,b4,h4,t4,rfl⟩:=t3;obtain rfl:=t4;obtain⟨x0,rfl⟩:=OfTy.of (row:=rI) _ h0;obtain⟨x1,rfl⟩:=OfTy.of (row:=rI) _ h1;obtain⟨x2,rfl⟩:=OfTy.of (row:=rI) _ h2;obtain⟨x3,rfl⟩:=OfTy.of (row:=rI) _ h3;obtain⟨x4,rfl⟩:=OfTy.of (row:=rB) _ h4;exact⟨⟨x0,x1,x2,x3,x4⟩,rfl⟩⟩
structure X4 where
 Points:V Xa
 Segments:V X7
 deriving DecidableEq
def X4.row(x:X4):V D:= [.sl (zB Xa.row x.Points),.sl (zB X7.row x.Segments)]
theorem X4.row_eq(x:X4):X4.row x= [.sl (zB Xa.row x.Points),.sl (zB X7.row x.Segments)]:=rfl
instance:Row X4.row 2:=⟨fun _=>rfl,zC rfl⟩
instance:OfTy (.st [(.sl (.st [.str,.bool])),(.sl (.st [(.int .i64),(.int .i64),(.int .i64),(.int .i64),.bool]))]) X4.row:=⟨fun ds h=>by
 obtain⟨a0,b0,h0,t0,rfl⟩:=h;obtain⟨a1,b1,h1,t1,rfl⟩:=t0;obtain rfl:=t1;obtain⟨x0,rfl⟩:=OfTy.of (row:=(rL Xa.row)) _ h0;obtain⟨x1,rfl⟩:=OfTy.of (row:=(rL X7.row)) _ h1;exact⟨⟨x0,x1⟩,rfl⟩⟩
structure X8 where
 Name:V zA
 Length:X
 Draught:X
 Line:X
 Tugs:X
 Slow:Y
 deriving DecidableEq
def X8.row(x:X8):V D:= [.str x.Name,.int .i64 x.Length,.int .i64 x.Draught,.int .i64 x.Line,.int .i64 x.Tugs,.bool x.Slow]
theorem X8.row_eq(x:X8):X8.row x= [.str x.Name,.int .i64 x.Length,.int .i64 x.Draught,.int .i64 x.Line,.int .i64 x.Tugs,.bool x.Slow]:=rfl
instance:Row X8.row 6:=⟨fun _=>rfl,zC rfl⟩
instance:FlatRow X8.row:=⟨fun x d hd=>by simp only[X8.row_eq,zH,zG,or_false] at hd; rcases hd with rfl | rfl | rfl | rfl | rfl | rfl<;>rfl⟩
instance:OfTy (.st [.str,(.int .i64),(.int .i64),(.int .i64),(.int .i64),.bool]) X8.row:=⟨fun ds h=>by
 obtain⟨a0,b0,h0,t0,rfl⟩:=h;obtain⟨a1,b1,h1,t1,rfl⟩:=t0;obtain⟨a2,b2,h2,t2,rfl⟩:=t1;obtain⟨a3,b3,h3,t3,rfl⟩:=t2;obtain⟨a4,b4,h4,t4,rfl⟩:=t3;obtain⟨a5,b5,h5,t5,rfl⟩:=t4;obtain rfl:=t5;obtain⟨x0,rfl⟩:=OfTy.of (row:=rS) _ h0;obtain⟨x1,rfl⟩:=OfTy.of (row:=rI) _ h1;obtain⟨x2,rfl⟩:=OfTy.of (row:=rI) _ h2;obtain⟨x3,rfl⟩:=OfTy.of (row:=rI) _ h3;obtain⟨x4,rfl⟩:=OfTy.of (row:=rI) _ h4;obtain⟨x5,rfl⟩:=OfTy.of (row:=rB) _ h5;exact⟨⟨x0,x1,x2,x3,x4,x5⟩,rfl⟩⟩
structure Xm where
 Gap:X
 NoMeet:Y
 deriving DecidableEq
def Xm.row(x:Xm):V D:= [.int .i64 x.Gap,.bool x.NoMeet]
theorem Xm.row_eq(x:Xm):Xm.row x= [.int .i64 x.Gap,.bool x.NoMeet]:=rfl
instance:Row Xm.row 2:=⟨fun _=>rfl,zC rfl⟩
instance:FlatRow Xm.row:=⟨fun x d hd=>by simp only[Xm.row_eq,zH,zG,or_false] at hd; rcases hd with rfl | rfl<;>rfl⟩
instance:OfTy (.st [(.int .i64),.bool]) Xm.row:=⟨fun ds h=>by
 obtain⟨a0,b0,h0,t0,rfl⟩:=h;obtain⟨a1,b1,h1,t1,rfl⟩:=t0;obtain rfl:=t1;obtain⟨x0,rfl⟩:=OfTy.of (row:=rI) _ h0;obtain⟨x1,rfl⟩:=OfTy.of (row:=rB) _ h1;exact⟨⟨x0,x1⟩,rfl⟩⟩
structure Xr where
 Tugs:X
 Pilots:X
 Rest:X
 Moves:V X
 deriving DecidableEq
def Xr.row(x:Xr):V D:= [.int .i64 x.Tugs,.int .i64 x.Pilots,.int .i64 x.Rest,.sl (zB rI x.Moves)]
theorem Xr.row_eq(x:Xr):Xr.row x= [.int .i64 x.Tugs,.int .i64 x.Pilots,.int .i64 x.Rest,.sl (zB rI x.Moves)]:=rfl
instance:Row Xr.row 4:=⟨fun _=>rfl,zC rfl⟩
instance:OfTy (.st [(.int .i64),(.int .i64),(.int .i64),(.sl (.int .i64))]) Xr.row:=⟨fun ds h=>by
 obtain⟨a0,b0,h0,t0,rfl⟩:=h;obtain⟨a1,b1,h1,t1,rfl⟩:=t0;obtain⟨a2,b2,h2,t2,rfl⟩:=t1;obtain⟨a3,b3,h3,t3,rfl⟩:=t2;obtain rfl:=t3;obtain⟨x0,rfl⟩:=OfTy.of (row:=rI) _ h0;obtain⟨x1,rfl⟩:=OfTy.of (row:=rI) _ h1;obtain⟨x2,rfl⟩:=OfTy.of (row:=rI) _ h2;obtain⟨x3,rfl⟩:=OfTy.of (row:=(rL rI)) _ h3;exact⟨⟨x0,x1,x2,x3⟩,rfl⟩⟩
structure X1 where
 Forecast:Xb
 Chart:X4
 Fleet:V X8
 Regime:Xm
 Crew:Xr
 deriving DecidableEq
def X1.row(x:X1):V D:= [.int .i64 x.Forecast.Tide.Mean,.sl (zB Xf.row x.Forecast.Tide.Parts),.sl (zB Xc.row x.Forecast.Surges),.sl (zB Xa.row x.Chart.Points),.sl (zB X7.row x.Chart.Segments),.sl (zB X8.row x.Fleet),.int .i64 x.Regime.Gap,.bool x.Regime.NoMeet,.int .i64 x.Crew.Tugs,.int .i64 x.Crew.Pilots,.int .i64 x.Crew.Rest,.sl (zB rI x.Crew.Moves)]
theorem X1.row_eq(x:X1):X1.row x= [.int .i64 x.Forecast.Tide.Mean,.sl (zB Xf.row x.Forecast.Tide.Parts),.sl (zB Xc.row x.Forecast.Surges),.sl (zB Xa.row x.Chart.Points),.sl (zB X7.row x.Chart.Segments),.sl (zB X8.row x.Fleet),.int .i64 x.Regime.Gap,.bool x.Regime.NoMeet,.int .i64 x.Crew.Tugs,.int .i64 x.Crew.Pilots,.int .i64 x.Crew.Rest,.sl (zB rI x.Crew.Moves)]:=rfl
instance:Row X1.row 12:=⟨fun _=>rfl,zC rfl⟩
instance:OfTy (.st [(.st [(.st [(.int .i64),(.sl (.st [(.int .i64),(.int .i64),(.int .i64)]))]),(.sl (.st [(.int .i64),(.int .i64),(.int .i64)]))]),(.st [(.sl (.st [.str,.bool])),(.sl (.st [(.int .i64),(.int .i64),(.int .i64),(.int .i64),.bool]))]),(.sl (.st [.str,(.int .i64),(.int .i64),(.int .i64),(.int .i64),.bool])),(.st [(.int .i64),.bool]),(.st [(.int .i64),(.int .i64),(.int .i64),(.sl (.int .i64))])]) X1.row:=⟨fun ds h=>by
 obtain⟨a0,b0,h0,t0,rfl⟩:=h;obtain⟨a1,b1,h1,t1,rfl⟩:=t0;obtain⟨a2,b2,h2,t2,rfl⟩:=t1;obtain⟨a3,b3,h3,t3,rfl⟩:=t2;obtain⟨a4,b4,h4,t4,rfl⟩:=t3;obtain rfl:=t4;obtain⟨x0,rfl⟩:=OfTy.of (row:=Xb.row) _ h0;obtain⟨x1,rfl⟩:=OfTy.of (row:=X4.row) _ h1;obtain⟨x2,rfl⟩:=OfTy.of (row:=(rL X8.row)) _ h2;obtain⟨x3,rfl⟩:=OfTy.of (row:=Xm.row) _ h3;obtain⟨x4,rfl⟩:=OfTy.of (row:=Xr.row) _ h4;exact⟨⟨x0,x1,x2,x3,x4⟩,rfl⟩⟩
structure X3 where
 Ship:X
 From:X
 To:X
 Ready:X
 Due:X
 deriving DecidableEq
def X3.row(x:X3):V D:= [.int .i64 x.Ship,.int .i64 x.From,.int .i64 x.To,.int .i64 x.Ready,.int .i64 x.Due]
theorem X3.row_eq(x:X3):X3.row x= [.int .i64 x.Ship,.int .i64 x.From,.int .i64 x.To,.int .i64 x.Ready,.int .i64 x.Due]:=rfl
instance:Row X3.row 5:=⟨fun _=>rfl,zC rfl⟩
instance:FlatRow X3.row:=⟨fun x d hd=>by simp only[X3.row_eq,zH,zG,or_false] at hd; rcases hd with rfl | rfl | rfl | rfl | rfl<;>rfl⟩
instance:OfTy (.st [(.int .i64),(.int .i64),(.int .i64),(.int .i64),(.int .i64)]) X3.row:=⟨fun ds h=>by
 obtain⟨a0,b0,h0,t0,rfl⟩:=h;obtain⟨a1,b1,h1,t1,rfl⟩:=t0;obtain⟨a2,b2,h2,t2,rfl⟩:=t1;obtain⟨a3,b3,h3,t3,rfl⟩:=t2;obtain⟨a4,b4,h4,t4,rfl⟩:=t3;obtain rfl:=t4;obtain⟨x0,rfl⟩:=OfTy.of (row:=rI) _ h0;obtain⟨x1,rfl⟩:=OfTy.of (row:=rI) _ h1;obtain⟨x2,rfl⟩:=OfTy.of (row:=rI) _ h2;obtain⟨x3,rfl⟩:=OfTy.of (row:=rI) _ h3;obtain⟨x4,rfl⟩:=OfTy.of (row:=rI) _ h4;exact⟨⟨x0,x1,x2,x3,x4⟩,rfl⟩⟩
structure Xo where
 Now:X
 Starts:V X
 Cleared:V Y
 deriving DecidableEq
def Xo.row(x:Xo):V D:= [.int .i64 x.Now,.sl (zB rI x.Starts),.sl (zB rB x.Cleared)]
theorem Xo.row_eq(x:Xo):Xo.row x= [.int .i64 x.Now,.sl (zB rI x.Starts),.sl (zB rB x.Cleared)]:=rfl
instance:Row Xo.row 3:=⟨fun _=>rfl,zC rfl⟩
instance:OfTy (.st [(.int .i64),(.sl (.int .i64)),(.sl .bool)]) Xo.row:=⟨fun ds h=>by
 obtain⟨a0,b0,h0,t0,rfl⟩:=h;obtain⟨a1,b1,h1,t1,rfl⟩:=t0;obtain⟨a2,b2,h2,t2,rfl⟩:=t1;obtain rfl:=t2;obtain⟨x0,rfl⟩:=OfTy.of (row:=rI) _ h0;obtain⟨x1,rfl⟩:=OfTy.of (row:=(rL rI)) _ h1;obtain⟨x2,rfl⟩:=OfTy.of (row:=(rL rB)) _ h2;exact⟨⟨x0,x1,x2⟩,rfl⟩⟩
structure X6 where
 Harbour:X1
 Calls:V X3
 Desk:Xo
 deriving DecidableEq
def X6.row(x:X6):V D:= [.int .i64 x.Harbour.Forecast.Tide.Mean,.sl (zB Xf.row x.Harbour.Forecast.Tide.Parts),.sl (zB Xc.row x.Harbour.Forecast.Surges),.sl (zB Xa.row x.Harbour.Chart.Points),.sl (zB X7.row x.Harbour.Chart.Segments),.sl (zB X8.row x.Harbour.Fleet),.int .i64 x.Harbour.Regime.Gap,.bool x.Harbour.Regime.NoMeet,.int .i64 x.Harbour.Crew.Tugs,.int .i64 x.Harbour.Crew.Pilots,.int .i64 x.Harbour.Crew.Rest,.sl (zB rI x.Harbour.Crew.Moves),.sl (zB X3.row x.Calls),.int .i64 x.Desk.Now,.sl (zB rI x.Desk.Starts),.sl (zB rB x.Desk.Cleared)]
theorem X6.row_eq(x:X6):X6.row x= [.int .i64 x.Harbour.Forecast.Tide.Mean,.sl (zB Xf.row x.Harbour.Forecast.Tide.Parts),.sl (zB Xc.row x.Harbour.Forecast.Surges),.sl (zB Xa.row x.Harbour.Chart.Points),.sl (zB X7.row x.Harbour.Chart.Segments),.sl (zB X8.row x.Harbour.Fleet),.int .i64 x.Harbour.Regime.Gap,.bool x.Harbour.Regime.NoMeet,.int .i64 x.Harbour.Crew.Tugs,.int .i64 x.Harbour.Crew.Pilots,.int .i64 x.Harbour.Crew.Rest,.sl (zB rI x.Harbour.Crew.Moves),.sl (zB X3.row x.Calls),.int .i64 x.Desk.Now,.sl (zB rI x.Desk.Starts),.sl (zB rB x.Desk.Cleared)]:=rfl
instance:Row X6.row 16:=⟨fun _=>rfl,zC rfl⟩
instance:OfTy (.st [(.st [(.st [(.st [(.int .i64),(.sl (.st [(.int .i64),(.int .i64),(.int .i64)]))]),(.sl (.st [(.int .i64),(.int .i64),(.int .i64)]))]),(.st [(.sl (.st [.str,.bool])),(.sl (.st [(.int .i64),(.int .i64),(.int .i64),(.int .i64),.bool]))]),(.sl (.st [.str,(.int .i64),(.int .i64),(.int .i64),(.int .i64),.bool])),(.st [(.int .i64),.bool]),(.st [(.int .i64),(.int .i64),(.int .i64),(.sl (.int .i64))])]),(.sl (.st [(.int .i64),(.int .i64),(.int .i64),(.int .i64),(.int .i64)])),(.st [(.int .i64),(.sl (.int .i64)),(.sl .bool)])]) X6.row:=⟨fun ds h=>by
 obtain⟨a0,b0,h0,t0,rfl⟩:=h;obtain⟨a1,b1,h1,t1,rfl⟩:=t0;obtain⟨a2,b2,h2,t2,rfl⟩:=t1;obtain rfl:=t2;obtain⟨x0,rfl⟩:=OfTy.of (row:=X1.row) _ h0;obtain⟨x1,rfl⟩:=OfTy.of (row:=(rL X3.row)) _ h1;obtain⟨x2,rfl⟩:=OfTy.of (row:=Xo.row) _ h2;exact⟨⟨x0,x1,x2⟩,rfl⟩⟩
structure Xp where
 Kind:X
 At:X
 Call:X
 Value:X
 deriving DecidableEq
def Xp.row(x:Xp):V D:= [.int .i64 x.Kind,.int .i64 x.At,.int .i64 x.Call,.int .i64 x.Value]
theorem Xp.row_eq(x:Xp):Xp.row x= [.int .i64 x.Kind,.int .i64 x.At,.int .i64 x.Call,.int .i64 x.Value]:=rfl
instance:Row Xp.row 4:=⟨fun _=>rfl,zC rfl⟩
instance:FlatRow Xp.row:=⟨fun x d hd=>by simp only[Xp.row_eq,zH,zG,or_false] at hd; rcases hd with rfl | rfl | rfl | rfl<;>rfl⟩
instance:OfTy (.st [(.int .i64),(.int .i64),(.int .i64),(.int .i64)]) Xp.row:=⟨fun ds h=>by
 obtain⟨a0,b0,h0,t0,rfl⟩:=h;obtain⟨a1,b1,h1,t1,rfl⟩:=t0;obtain⟨a2,b2,h2,t2,rfl⟩:=t1;obtain⟨a3,b3,h3,t3,rfl⟩:=t2;obtain rfl:=t3;obtain⟨x0,rfl⟩:=OfTy.of (row:=rI) _ h0;obtain⟨x1,rfl⟩:=OfTy.of (row:=rI) _ h1;obtain⟨x2,rfl⟩:=OfTy.of (row:=rI) _ h2;obtain⟨x3,rfl⟩:=OfTy.of (row:=rI) _ h3;exact⟨⟨x0,x1,x2,x3⟩,rfl⟩⟩
structure X2 where
 Ship:X
 Segment:X
 Toward:Y
 Start:X
 End:X
 deriving DecidableEq
def X2.row(x:X2):V D:= [.int .i64 x.Ship,.int .i64 x.Segment,.bool x.Toward,.int .i64 x.Start,.int .i64 x.End]
theorem X2.row_eq(x:X2):X2.row x= [.int .i64 x.Ship,.int .i64 x.Segment,.bool x.Toward,.int .i64 x.Start,.int .i64 x.End]:=rfl
instance:Row X2.row 5:=⟨fun _=>rfl,zC rfl⟩
instance:FlatRow X2.row:=⟨fun x d hd=>by simp only[X2.row_eq,zH,zG,or_false] at hd; rcases hd with rfl | rfl | rfl | rfl | rfl<;>rfl⟩
instance:OfTy (.st [(.int .i64),(.int .i64),.bool,(.int .i64),(.int .i64)]) X2.row:=⟨fun ds h=>by
 obtain⟨a0,b0,h0,t0,rfl⟩:=h;obtain⟨a1,b1,h1,t1,rfl⟩:=t0;obtain⟨a2,b2,h2,t2,rfl⟩:=t1;obtain⟨a3,b3,h3,t3,rfl⟩:=t2;obtain⟨a4,b4,h4,t4,rfl⟩:=t3;obtain rfl:=t4;obtain⟨x0,rfl⟩:=OfTy.of (row:=rI) _ h0;obtain⟨x1,rfl⟩:=OfTy.of (row:=rI) _ h1;obtain⟨x2,rfl⟩:=OfTy.of (row:=rB) _ h2;obtain⟨x3,rfl⟩:=OfTy.of (row:=rI) _ h3;obtain⟨x4,rfl⟩:=OfTy.of (row:=rI) _ h4;exact⟨⟨x0,x1,x2,x3,x4⟩,rfl⟩⟩
structure X0 where
 Start:X
 Arrival:X
 Cost:X
 Passages:V X2
 deriving DecidableEq
def X0.row(x:X0):V D:= [.int .i64 x.Start,.int .i64 x.Arrival,.int .i64 x.Cost,.sl (zB X2.row x.Passages)]
theorem X0.row_eq(x:X0):X0.row x= [.int .i64 x.Start,.int .i64 x.Arrival,.int .i64 x.Cost,.sl (zB X2.row x.Passages)]:=rfl
instance:Row X0.row 4:=⟨fun _=>rfl,zC rfl⟩
instance:OfTy (.st [(.int .i64),(.int .i64),(.int .i64),(.sl (.st [(.int .i64),(.int .i64),.bool,(.int .i64),(.int .i64)]))]) X0.row:=⟨fun ds h=>by
 obtain⟨a0,b0,h0,t0,rfl⟩:=h;obtain⟨a1,b1,h1,t1,rfl⟩:=t0;obtain⟨a2,b2,h2,t2,rfl⟩:=t1;obtain⟨a3,b3,h3,t3,rfl⟩:=t2;obtain rfl:=t3;obtain⟨x0,rfl⟩:=OfTy.of (row:=rI) _ h0;obtain⟨x1,rfl⟩:=OfTy.of (row:=rI) _ h1;obtain⟨x2,rfl⟩:=OfTy.of (row:=rI) _ h2;obtain⟨x3,rfl⟩:=OfTy.of (row:=(rL X2.row)) _ h3;exact⟨⟨x0,x1,x2,x3⟩,rfl⟩⟩
structure X5 where
 i0:Y
 i1:Y
 i2:Y
 i3:Y
 i4:Y
 i5:Y
 i6:Y
 i7:Y
 deriving DecidableEq
def X5.row(x:X5):V D:= [.bool x.i0,.bool x.i1,.bool x.i2,.bool x.i3,.bool x.i4,.bool x.i5,.bool x.i6,.bool x.i7]
theorem X5.row_eq(x:X5):X5.row x= [.bool x.i0,.bool x.i1,.bool x.i2,.bool x.i3,.bool x.i4,.bool x.i5,.bool x.i6,.bool x.i7]:=rfl
instance:Row X5.row 8:=⟨fun _=>rfl,zC rfl⟩
def X5.set(x:X5)(n:Z)(v:Y):X5:=⟨bif n==0 then v else x.i0,bif n==1 then v else x.i1,bif n==2 then v else x.i2,bif n==3 then v else x.i3,bif n==4 then v else x.i4,bif n==5 then v else x.i5,bif n==6 then v else x.i6,bif n==7 then v else x.i7⟩
theorem X5.set_eq(x:X5){n:Z}{v:Y}(h:n<8):BJ (zB AC.dat (X5.row x)) n [.dat (.bool v)]=zB AC.dat (X5.row (X5.set x n v)):=by
 match n,h with
 | 0,_=>rfl
 | 1,_=>rfl
 | 2,_=>rfl
 | 3,_=>rfl
 | 4,_=>rfl
 | 5,_=>rfl
 | 6,_=>rfl
 | 7,_=>rfl
instance:FlatRow X5.row:=⟨fun x d hd=>by simp only[X5.row_eq,zH,zG,or_false] at hd; rcases hd with rfl | rfl | rfl | rfl | rfl | rfl | rfl | rfl<;>rfl⟩
instance:OfTy (.st [.bool,.bool,.bool,.bool,.bool,.bool,.bool,.bool]) X5.row:=⟨fun ds h=>by
 obtain⟨a0,b0,h0,t0,rfl⟩:=h;obtain⟨a1,b1,h1,t1,rfl⟩:=t0;obtain⟨a2,b2,h2,t2,rfl⟩:=t1;obtain⟨a3,b3,h3,t3,rfl⟩:=t2;obtain⟨a4,b4,h4,t4,rfl⟩:=t3;obtain⟨a5,b5,h5,t5,rfl⟩:=t4;obtain⟨a6,b6,h6,t6,rfl⟩:=t5;obtain⟨a7,b7,h7,t7,rfl⟩:=t6;obtain rfl:=t7;obtain⟨x0,rfl⟩:=OfTy.of (row:=rB) _ h0;obtain⟨x1,rfl⟩:=OfTy.of (row:=rB) _ h1;obtain⟨x2,rfl⟩:=OfTy.of (row:=rB) _ h2;obtain⟨x3,rfl⟩:=OfTy.of (row:=rB) _ h3;obtain⟨x4,rfl⟩:=OfTy.of (row:=rB) _ h4;obtain⟨x5,rfl⟩:=OfTy.of (row:=rB) _ h5;obtain⟨x6,rfl⟩:=OfTy.of (row:=rB) _ h6;obtain⟨x7,rfl⟩:=OfTy.of (row:=rB) _ h7;exact⟨⟨x0,x1,x2,x3,x4,x5,x6,x7⟩,rfl⟩⟩
structure X9 where
 From:X
 To:X
 deriving DecidableEq
def X9.row(x:X9):V D:= [.int .i64 x.From,.int .i64 x.To]
theorem X9.row_eq(x:X9):X9.row x= [.int .i64 x.From,.int .i64 x.To]:=rfl
instance:Row X9.row 2:=⟨fun _=>rfl,zC rfl⟩
instance:FlatRow X9.row:=⟨fun x d hd=>by simp only[X9.row_eq,zH,zG,or_false] at hd; rcases hd with rfl | rfl<;>rfl⟩
instance:OfTy (.st [(.int .i64),(.int .i64)]) X9.row:=⟨fun ds h=>by
 obtain⟨a0,b0,h0,t0,rfl⟩:=h;obtain⟨a1,b1,h1,t1,rfl⟩:=t0;obtain rfl:=t1;obtain⟨x0,rfl⟩:=OfTy.of (row:=rI) _ h0;obtain⟨x1,rfl⟩:=OfTy.of (row:=rI) _ h1;exact⟨⟨x0,x1⟩,rfl⟩⟩
structure Xk where
 waits:V Y
 minutes:V X
 sure:V (V X9)
 deriving DecidableEq
def Xk.row(x:Xk):V D:= [.sl (zB rB x.waits),.sl (zB rI x.minutes),.sl (zB (rL X9.row) x.sure)]
theorem Xk.row_eq(x:Xk):Xk.row x= [.sl (zB rB x.waits),.sl (zB rI x.minutes),.sl (zB (rL X9.row) x.sure)]:=rfl
instance:Row Xk.row 3:=⟨fun _=>rfl,zC rfl⟩
instance:OfTy (.st [(.sl .bool),(.sl (.int .i64)),(.sl (.sl (.st [(.int .i64),(.int .i64)])))]) Xk.row:=⟨fun ds h=>by
 obtain⟨a0,b0,h0,t0,rfl⟩:=h;obtain⟨a1,b1,h1,t1,rfl⟩:=t0;obtain⟨a2,b2,h2,t2,rfl⟩:=t1;obtain rfl:=t2;obtain⟨x0,rfl⟩:=OfTy.of (row:=(rL rB)) _ h0;obtain⟨x1,rfl⟩:=OfTy.of (row:=(rL rI)) _ h1;obtain⟨x2,rfl⟩:=OfTy.of (row:=(rL (rL X9.row))) _ h2;exact⟨⟨x0,x1,x2⟩,rfl⟩⟩
structure Xi where
 i0:X
 i1:X
 deriving DecidableEq
def Xi.row(x:Xi):V D:= [.int .i64 x.i0,.int .i64 x.i1]
theorem Xi.row_eq(x:Xi):Xi.row x= [.int .i64 x.i0,.int .i64 x.i1]:=rfl
instance:Row Xi.row 2:=⟨fun _=>rfl,zC rfl⟩
instance:FlatRow Xi.row:=⟨fun x d hd=>by simp only[Xi.row_eq,zH,zG,or_false] at hd; rcases hd with rfl | rfl<;>rfl⟩
instance:OfTy (.st [(.int .i64),(.int .i64)]) Xi.row:=⟨fun ds h=>by
 obtain⟨a0,b0,h0,t0,rfl⟩:=h;obtain⟨a1,b1,h1,t1,rfl⟩:=t0;obtain rfl:=t1;obtain⟨x0,rfl⟩:=OfTy.of (row:=rI) _ h0;obtain⟨x1,rfl⟩:=OfTy.of (row:=rI) _ h1;exact⟨⟨x0,x1⟩,rfl⟩⟩
structure Xe where
 h:X1
 choices:V (V X0)
 plan:V X0
 choice:V X
 best:V X
 least:Xi
 found:Y
abbrev Dd(F_w0:FuncId)(caps_w0:V D)(x:Xe):V XC:= [.d (.int .i64 x.h.Forecast.Tide.Mean),.d (.sl (zB Xf.row x.h.Forecast.Tide.Parts)),.d (.sl (zB Xc.row x.h.Forecast.Surges)),.d (.sl (zB Xa.row x.h.Chart.Points)),.d (.sl (zB X7.row x.h.Chart.Segments)),.d (.sl (zB X8.row x.h.Fleet)),.d (.int .i64 x.h.Regime.Gap),.d (.bool x.h.Regime.NoMeet),.d (.int .i64 x.h.Crew.Tugs),.d (.int .i64 x.h.Crew.Pilots),.d (.int .i64 x.h.Crew.Rest),.d (.sl (zB rI x.h.Crew.Moves)),.d (.sl (zB (rL X0.row) x.choices)),.d (.clo F_w0 caps_w0),.r 0,.r 1,.r 2,.d (.int .i64 x.least.i0),.d (.int .i64 x.least.i1),.d (.bool x.found)]
abbrev De(x:Xe):As:= [(4,zB X0.row x.plan),(1,zB rI x.choice),(1,zB rI x.best)]
structure Xd where
 From:X
 To:X
 A:X
 B:X
 deriving DecidableEq
def Xd.row(x:Xd):V D:= [.int .i64 x.From,.int .i64 x.To,.int .i64 x.A,.int .i64 x.B]
theorem Xd.row_eq(x:Xd):Xd.row x= [.int .i64 x.From,.int .i64 x.To,.int .i64 x.A,.int .i64 x.B]:=rfl
instance:Row Xd.row 4:=⟨fun _=>rfl,zC rfl⟩
instance:FlatRow Xd.row:=⟨fun x d hd=>by simp only[Xd.row_eq,zH,zG,or_false] at hd; rcases hd with rfl | rfl | rfl | rfl<;>rfl⟩
instance:OfTy (.st [(.int .i64),(.int .i64),(.int .i64),(.int .i64)]) Xd.row:=⟨fun ds h=>by
 obtain⟨a0,b0,h0,t0,rfl⟩:=h;obtain⟨a1,b1,h1,t1,rfl⟩:=t0;obtain⟨a2,b2,h2,t2,rfl⟩:=t1;obtain⟨a3,b3,h3,t3,rfl⟩:=t2;obtain rfl:=t3;obtain⟨x0,rfl⟩:=OfTy.of (row:=rI) _ h0;obtain⟨x1,rfl⟩:=OfTy.of (row:=rI) _ h1;obtain⟨x2,rfl⟩:=OfTy.of (row:=rI) _ h2;obtain⟨x3,rfl⟩:=OfTy.of (row:=rI) _ h3;exact⟨⟨x0,x1,x2,x3⟩,rfl⟩⟩
structure Xh where
 sets:V X
 most:X
 groups:V X
 who:V X
 deriving DecidableEq
def Xh.row(x:Xh):V D:= [.sl (zB rU x.sets),.int .i64 x.most,.sl (zB rU x.groups),.sl (zB rI x.who)]
theorem Xh.row_eq(x:Xh):Xh.row x= [.sl (zB rU x.sets),.int .i64 x.most,.sl (zB rU x.groups),.sl (zB rI x.who)]:=rfl
instance:Row Xh.row 4:=⟨fun _=>rfl,zC rfl⟩
instance:OfTy (.st [(.sl (.int .u64)),(.int .i64),(.sl (.int .u64)),(.sl (.int .i64))]) Xh.row:=⟨fun ds h=>by
 obtain⟨a0,b0,h0,t0,rfl⟩:=h;obtain⟨a1,b1,h1,t1,rfl⟩:=t0;obtain⟨a2,b2,h2,t2,rfl⟩:=t1;obtain⟨a3,b3,h3,t3,rfl⟩:=t2;obtain rfl:=t3;obtain⟨x0,rfl⟩:=OfTy.of (row:=(rL rU)) _ h0;obtain⟨x1,rfl⟩:=OfTy.of (row:=rI) _ h1;obtain⟨x2,rfl⟩:=OfTy.of (row:=(rL rU)) _ h2;obtain⟨x3,rfl⟩:=OfTy.of (row:=(rL rI)) _ h3;exact⟨⟨x0,x1,x2,x3⟩,rfl⟩⟩
abbrev Cv(x:Xh):V XC:= [.d (.sl (zB rU x.sets)),.d (.int .i64 x.most),.r 0,.r 1]
abbrev Cw(x:Xh):As:= [(1,zB rU x.groups),(1,zB rI x.who)]
def vM:=zF @XE (zF @eh (zF @qp (zF @ed (zF @ql (zF @ee (zF @qm (zF @ef (zF @qn (zF @eg (zF @qo (zF @dW (zF @ub (zF @Xl.row_eq (zF @Xf.row_eq (zF @Xq.row_eq (zF @Xc.row_eq (zF @Xb.row_eq (zF @Xa.row_eq (zF @X7.row_eq (zF @X4.row_eq (zF @X8.row_eq (zF @Xm.row_eq (zF @Xr.row_eq (zF @X1.row_eq (zF @X3.row_eq (zF @Xo.row_eq (zF @X6.row_eq (zF @Xp.row_eq (zF @X2.row_eq (zF @X0.row_eq (zF @X5.row_eq (zF @X9.row_eq (zF @Xk.row_eq (zF @Xi.row_eq (zF @Xd.row_eq (@Xh.row_eq))))))))))))))))))))))))))))))))))))
def J:=zF vN (zF vP (zF vQ (zF vO vM)))
def JM(a0:V X)(v1:X):W Xl:=
O (⟨a0,(0:X),v1⟩:Xl)
def I4(a0:V X):Z→X→X→W Xl
| 0,_,_=>U
| n+1,v1,v2=>
 if(decide (v2<(a0.length:X))) then(
 if(decide (v2<(4000:X))) then(
  (ix a0 v2).bind fun x5=>
  I4 a0 n (AM .and .i64 (zM .i64 ((zM .i64 ((zM .i64 (v1*(79:X)))+(zM .i64 x5)))+(7:X))) (1073741823:X)) (zM .i64 (v2+(1:X))))
 else(
  JM a0 v1))
 else(
 JM a0 v1)
def Mc(a0:V X):W Xl:=
I4 a0 bigN (zM .i64 ((1976:X)+(a0.length:X))) (0:X)
def Fy(a0:Xl):W (X × Xl):=
if(decide (a0.i<(a0.b.length:X))) then(
 (ix a0.b a0.i).bind fun x2=>
 O ((AM .and .i64 (zM .i64 ((AM .and .i64 (AM .xor .i64 (Bf .i64 (zM .i64 ((zM .i64 (a0.h*(6364136223846793005:X)))+(1442695040888963407:X))) 33) (Bf .i64 (zM .i64 ((zM .i64 (a0.h*(6364136223846793005:X)))+(1442695040888963407:X))) 45)) (255:X))+(zM .i64 x2))) (255:X)),(⟨a0.b,(zM .i64 (a0.i+(1:X))),(zM .i64 ((zM .i64 (a0.h*(6364136223846793005:X)))+(1442695040888963407:X)))⟩:Xl)))
else(
 O ((AM .and .i64 (AM .xor .i64 (Bf .i64 (zM .i64 ((zM .i64 (a0.h*(6364136223846793005:X)))+(1442695040888963407:X))) 33) (Bf .i64 (zM .i64 ((zM .i64 (a0.h*(6364136223846793005:X)))+(1442695040888963407:X))) 45)) (255:X)),(⟨a0.b,a0.i,(zM .i64 ((zM .i64 (a0.h*(6364136223846793005:X)))+(1442695040888963407:X)))⟩:Xl)))
def I3(a0:Xl)(a1:X):W (X × Xl):=
if(decide (a1≤(0:X))) then(
 O ((0:X),a0))
else(
 if(decide (a1≤(256:X))) then(
 (Fy a0).bind fun r3=>
 if a1==0 then U else
 O ((zM .i64 (zJ r3.1 a1)),r3.2))
 else(
 (Fy a0).bind fun r5=>
 (Fy r5.2).bind fun r6=>
 (Fy r6.2).bind fun r7=>
 (Fy r7.2).bind fun r9=>
 if a1==0 then U else
 O ((zM .i64 (zJ (zM .i64 ((zM .i64 ((zM .i64 ((zM .i64 (r5.1*(16777216:X)))+(zM .i64 (r6.1*(65536:X)))))+(zM .i64 (r7.1*(256:X)))))+r9.1)) a1)),r9.2)))
def Fz(a0:Xl)(a1:V (V zA)):W ((V zA) × Xl):=
(I3 a0 (a1.length:X)).bind fun r1=>
(ix a1 r1.1).bind fun x2=>
O (x2,r1.2)
def JN(a0:Xl):W ((V zA) × Xl):=
(I3 a0 (4:X)).bind fun r1=>
if(r1.1==(0:X)) then(
 (Fz r1.2 ([([99,97,108,108,32,115,48,32,115,101,97,32,113,117,97,121,32,48,32,50,48,48]:V zA),([99,97,108,108,32,115,49,32,113,117,97,121,32,115,101,97,32,51,48,32,51,48,48]:V zA),([115,104,105,112,32,115,49,32,49,50,48,32,56,53,48,32,49,32,49]:V zA),([115,117,114,103,101,32,45,50,48,32,49,48]:V zA),([103,97,112,32,50,48]:V zA),([109,101,97,110,32,50,48,48]:V zA),([119,97,118,101,32,49,53,48,32,55,52,52,32,48]:V zA),([112,111,105,110,116,32,100,111,99,107,32,119,97,105,116]:V zA),([99,104,97,110,110,101,108,32,98,97,114,32,100,111,99,107,32,57,48,48,32,49,48,32,109,101,101,116]:V zA)]:V (V zA))).bind fun r3=>
 O (r3.1,r3.2))
else(
 if(r1.1==(1:X)) then(
 (Fz r1.2 ([([112,108,97,110]:V zA),([98,111,117,110,100]:V zA),([114,101,102,117,115,101]:V zA),([99,114,101,119]:V zA),([100,101,115,107]:V zA),([115,117,114,101,32,115,48]:V zA),([108,101,118,101,108,32,49,48,48]:V zA),([114,111,117,116,101,32,115,101,97,32,113,117,97,121]:V zA),([114,111,117,116,101,32,113,117,97,121,32,115,101,97]:V zA)]:V (V zA))).bind fun r5=>
 O (r5.1,r5.2))
 else(
 if(r1.1==(2:X)) then(
  (Fz r1.2 ([([97,110,110,111,117,110,99,101,32,115,48,32,51,48]:V zA),([99,108,101,97,114,32,115,48]:V zA),([99,97,110,99,101,108,32,115,48]:V zA),([116,105,99,107,32,49,48]:V zA),([116,105,99,107,32,52,48]:V zA),([97,110,110,111,117,110,99,101,32,115,48,32,53]:V zA),([97,110,110,111,117,110,99,101,32,115,57,32,51,48]:V zA)]:V (V zA))).bind fun r7=>
  O (r7.1,r7.2))
 else(
  (Fz r1.2 ([([]:V zA),([35,32,110,111,116,101]:V zA),([119,104,97,116]:V zA),([112,111,105,110,116]:V zA),([112,111,105,110,116,32,115,101,97]:V zA),([112,111,105,110,116,32,83,101,97]:V zA),([99,104,97,110,110,101,108,32,115,101,97,32,113,117,97,121,32,57,48,48]:V zA),([115,104,105,112,32,115,50,32,53,32,57,48,48,32,48,32,48]:V zA),([115,104,105,112,32,115,50]:V zA),([99,97,108,108,32,115,48,32,115,101,97,32,115,101,97,32,48,32,57]:V zA),([99,97,108,108,32,115,57,32,115,101,97,32,113,117,97,121,32,48,32,57]:V zA),([108,101,118,101,108,32,120]:V zA),([108,101,118,101,108,32,50,56,56,49]:V zA),([109,101,97,110,32,53,48,48,48]:V zA),([103,97,112,32,45,49]:V zA),([114,111,117,116,101,32,115,101,97]:V zA),([116,105,99,107,32,120]:V zA)]:V (V zA))).bind fun r9=>
  O (r9.1,r9.2))))
def I5:Z→X→(V X)→X→X→(V (V zA))→W ((V (V zA)) × Xl)
| 0,_,_,_,_,_=>U
| n+1,v2,v3,v4,v5,v6=>
 if(decide ((0:X)<v2)) then(
 (JN (⟨v3,v4,v5⟩:Xl)).bind fun r9=>
 if A4 v6.length ([r9.1]:V (V zA)).length 16 then(
  I5 n (zM .i64 (v2 - (1:X))) r9.2.b r9.2.i r9.2.h (v6++([r9.1]:V (V zA))))
 else U)
 else(
 O (v6,(⟨v3,v4,v5⟩:Xl)))
def Ov(a0:Xl)(a1:X):W ((V (V zA)) × Xl):=
(I3 a0 a1).bind fun r1=>
I5 bigN (zM .i64 ((1:X)+r1.1)) r1.2.b r1.2.i r1.2.h ([([112,111,105,110,116,32,115,101,97,32,119,97,105,116]:V zA),([112,111,105,110,116,32,98,97,114]:V zA),([112,111,105,110,116,32,113,117,97,121,32,119,97,105,116]:V zA),([99,104,97,110,110,101,108,32,115,101,97,32,98,97,114,32,49,48,48,48,32,50,48]:V zA),([99,104,97,110,110,101,108,32,98,97,114,32,113,117,97,121,32,57,48,48,32,49,53]:V zA),([109,101,97,110,32,49,53,48]:V zA),([115,104,105,112,32,115,48,32,49,53,48,32,56,48,48,32,48,32,49]:V zA)]:V (V zA))
def Mb(a0:V X):W (V (V zA)):=
(Mc a0).bind fun r1=>
(Ov r1 (6:X)).bind fun r2=>
O r2.1
def QN:W (V X):=
(B2 (64:X) (64:X) 8).bind fun n1=>
O (zD n1 (0:X))
def Jm:W X6:=
(QN).bind fun r1=>
O (⟨(⟨(⟨(⟨(0:X),([]:V Xf)⟩:Xq),([(⟨(0:X),(0:X),(0:X)⟩:Xc)]:V Xc)⟩:Xb),(⟨([]:V Xa),([]:V X7)⟩:X4),([]:V X8),(⟨(10:X),E⟩:Xm),(⟨(2:X),(2:X),(30:X),r1⟩:Xr)⟩:X1),([]:V X3),(⟨(0:X),([]:V X),([]:V Y)⟩:Xo)⟩:X6)
def LM(a0:V Xf):W (V Xf):=
(B2 (0:X) (a0.length:X) 24).bind fun n1=>
if A4 (zD n1 (⟨(0:X),(0:X),(0:X)⟩:Xf)).length a0.length 24 then(
 O ((zD n1 (⟨(0:X),(0:X),(0:X)⟩:Xf))++a0))
else U
def Oh(a0:Xq):W Xq:=
(LM a0.Parts).bind fun r1=>
O (⟨a0.Mean,r1⟩:Xq)
def LR(a0:V Xc):W (V Xc):=
(B2 (0:X) (a0.length:X) 24).bind fun n1=>
if A4 (zD n1 (⟨(0:X),(0:X),(0:X)⟩:Xc)).length a0.length 24 then(
 O ((zD n1 (⟨(0:X),(0:X),(0:X)⟩:Xc))++a0))
else U
def Og(a0:Xb):W Xb:=
(Oh a0.Tide).bind fun r1=>
(LR a0.Surges).bind fun r2=>
O (⟨r1,r2⟩:Xb)
def LO(a0:V Xa):W (V Xa):=
(B2 (0:X) (a0.length:X) 24).bind fun n1=>
if A4 (zD n1 (⟨([]:V zA),E⟩:Xa)).length a0.length 24 then(
 O ((zD n1 (⟨([]:V zA),E⟩:Xa))++a0))
else U
def LP(a0:V X7):W (V X7):=
(B2 (0:X) (a0.length:X) 40).bind fun n1=>
if A4 (zD n1 (⟨(0:X),(0:X),(0:X),(0:X),E⟩:X7)).length a0.length 40 then(
 O ((zD n1 (⟨(0:X),(0:X),(0:X),(0:X),E⟩:X7))++a0))
else U
def LQ(a0:V X8):W (V X8):=
(B2 (0:X) (a0.length:X) 56).bind fun n1=>
if A4 (zD n1 (⟨([]:V zA),(0:X),(0:X),(0:X),(0:X),E⟩:X8)).length a0.length 56 then(
 O ((zD n1 (⟨([]:V zA),(0:X),(0:X),(0:X),(0:X),E⟩:X8))++a0))
else U
def Bl(a0:V X):W (V X):=
(B2 (0:X) (a0.length:X) 8).bind fun n1=>
if A4 (zD n1 (0:X)).length a0.length 8 then(
 O ((zD n1 (0:X))++a0))
else U
def Bs(a0:X1):W X1:=
(Og a0.Forecast).bind fun r1=>
(LO a0.Chart.Points).bind fun r2=>
(LP a0.Chart.Segments).bind fun r3=>
(LQ a0.Fleet).bind fun r4=>
(Bl a0.Crew.Moves).bind fun r5=>
O (⟨r1,(⟨r2,r3⟩:X4),r4,a0.Regime,(⟨a0.Crew.Tugs,a0.Crew.Pilots,a0.Crew.Rest,r5⟩:Xr)⟩:X1)
def E5(a0:V X3):W (V X3):=
(B2 (0:X) (a0.length:X) 40).bind fun n1=>
if A4 (zD n1 (⟨(0:X),(0:X),(0:X),(0:X),(0:X)⟩:X3)).length a0.length 40 then(
 O ((zD n1 (⟨(0:X),(0:X),(0:X),(0:X),(0:X)⟩:X3))++a0))
else U
def LS(a0:V Y):W (V Y):=
(B2 (0:X) (a0.length:X) 1).bind fun n1=>
if A4 (zD n1 E).length a0.length 1 then(
 O ((zD n1 E)++a0))
else U
def JC(a0:Xo):W Xo:=
(Bl a0.Starts).bind fun r1=>
(LS a0.Cleared).bind fun r2=>
O (⟨a0.Now,r1,r2⟩:Xo)
def Gm(a0:X6):W X6:=
(Bs a0.Harbour).bind fun r1=>
(E5 a0.Calls).bind fun r2=>
(JC a0.Desk).bind fun r3=>
O (⟨r1,r2,r3⟩:X6)
def LA(a0 a1:V zA)(v2:X)(Pc:X→X→(V (V zA))→W (V (V zA)))(v10:X)(v11:V (V zA)):W (V (V zA)):=
Pc v10 (zM .i64 (v2+(1:X))) v11
def Gg(a0 a1:V zA):Z→X→X→(V (V zA))→W (V (V zA))
| 0,_,_,_=>U
| n+1,v1,v2,v3=>
 if(decide (v2<(a0.length:X))) then(
 (ix a0 v2).bind fun b5=>
 (Ox a1 (b5.toNat:X)).bind fun r6=>
 if(decide ((0:X)≤r6)) then(
  (bnd (a0.length:X) v2 v1 a0.length).bind fun p8=>
  if A4 v3.length ([((a0.drop p8.1).take (p8.2 - p8.1))]:V (V zA)).length 16 then(
  LA a0 a1 v2 (Gg a0 a1 n) (zM .i64 (v2+(1:X))) (v3++([((a0.drop p8.1).take (p8.2 - p8.1))]:V (V zA))))
  else U)
 else(
  LA a0 a1 v2 (Gg a0 a1 n) v1 v3))
 else(
 (bnd (a0.length:X) (a0.length:X) v1 a0.length).bind fun p12=>
 if A4 v3.length ([((a0.drop p12.1).take (p12.2 - p12.1))]:V (V zA)).length 16 then(
  O (v3++([((a0.drop p12.1).take (p12.2 - p12.1))]:V (V zA))))
 else U)
def HJ(a0 a1:V zA):W (V (V zA)):=
Gg a0 a1 bigN (0:X) (0:X) ([]:V (V zA))
def HU(a0:V (V zA))(v7:Y):W (Xa × Y):=
if v7 then(
 O ((⟨([]:V zA),E⟩:Xa),E))
else(
 (ix a0 (1:X)).bind fun x9=>
 O ((⟨x9,((a0.length:X)==(3:X))⟩:Xa),F))
def QQ(a0:V (V zA)):W (Xa × Y):=
if(decide ((a0.length:X)<(2:X))) then(
 HU a0 F)
else(
 if(decide ((3:X)<(a0.length:X))) then(
 HU a0 F)
 else(
 (ix a0 (0:X)).bind fun x3=>
 if(x3==([112,111,105,110,116]:V zA)) then(
  if((a0.length:X)==(3:X)) then(
  (ix a0 (2:X)).bind fun x6=>
  HU a0 (!(x6==([119,97,105,116]:V zA))))
  else(
  HU a0 E))
 else(
  HU a0 F)))
def Oj(a0:V (V zA)):Z→X→(V X)→W ((V X) × Y)
| 0,_,_=>U
| n+1,v1,v2=>
 if(decide (v1<(a0.length:X))) then(
 (ix a0 v1).bind fun x4=>
 (Fi x4).bind fun r5=>
 if r5.2 then(
  if A4 v2.length ([r5.1]:V X).length 8 then(
  Oj a0 n (zM .i64 (v1+(1:X))) (v2++([r5.1]:V X)))
  else U)
 else(
  O (([]:V X),E)))
 else(
 O (v2,F))
def JI(a0:V (V zA)):W ((V X) × Y):=
Oj a0 bigN (0:X) ([]:V X)
def HE(a1:V zA)(a0:X4):Z→X→W X
| 0,_=>U
| n+1,v1=>
 if(decide (v1<(a0.Points.length:X))) then(
 (ix a0.Points v1).bind fun x3=>
 if(x3.Name==a1) then(
  O v1)
 else(
  HE a1 a0 n (zM .i64 (v1+(1:X)))))
 else(
 O (-1:X))
def BF(a0:X4)(a1:V zA):W X:=
HE a1 a0 bigN (0:X)
def HV(a1:V (V zA))(a0:X4)(v7:Y):W (X7 × Y):=
if v7 then(
 O ((⟨(0:X),(0:X),(0:X),(0:X),E⟩:X7),E))
else(
 (bnd (5:X) (5:X) (3:X) a1.length).bind fun p9=>
 (JI ((a1.drop p9.1).take (p9.2 - p9.1))).bind fun r10=>
 if r10.2 then(
 (ix a1 (1:X)).bind fun x12=>
 (BF a0 x12).bind fun r13=>
 (ix a1 (2:X)).bind fun x14=>
 (BF a0 x14).bind fun r15=>
 (ix r10.1 (0:X)).bind fun x16=>
 (ix r10.1 (1:X)).bind fun x17=>
 O ((⟨r13,r15,x16,x17,((a1.length:X)==(6:X))⟩:X7),F))
 else(
 O ((⟨(0:X),(0:X),(0:X),(0:X),E⟩:X7),E)))
def Gu(a0:X4)(a1:V (V zA)):W (X7 × Y):=
if(decide ((a1.length:X)<(5:X))) then(
 HV a1 a0 F)
else(
 if(decide ((6:X)<(a1.length:X))) then(
 HV a1 a0 F)
 else(
 (ix a1 (0:X)).bind fun x3=>
 if(x3==([99,104,97,110,110,101,108]:V zA)) then(
  if((a1.length:X)==(6:X)) then(
  (ix a1 (5:X)).bind fun x6=>
  HV a1 a0 (!(x6==([109,101,101,116]:V zA))))
  else(
  HV a1 a0 E))
 else(
  HV a1 a0 F)))
def Bm(a0 a1 a2:X):W Y:=
if(decide (a1≤a0)) then(
 O (decide (a0≤a2)))
else(
 O E)
def Lb(a0:V zA)(v3:X)(EM:X→W Y):W Y:=
EM (zM .i64 (v3+(1:X)))
def La(a0:V zA)(v3:X)(EM:X→W Y)(v7:Y):W Y:=
if v7 then(
 Lb a0 v3 EM)
else(
 if(v3==(0:X)) then(
 O E)
 else(
 (ix a0 v3).bind fun b10=>
 if(decide ((b10.toNat:X)<(48:X))) then(
  O E)
 else(
  if(decide ((57:X)<(b10.toNat:X))) then(
  O E)
  else(
  Lb a0 v3 EM))))
def Ga(a0:V zA):Z→X→W Y
| 0,_=>U
| n+1,v3=>
 if(decide (v3<(a0.length:X))) then(
 (ix a0 v3).bind fun b5=>
 if(decide ((97:X)≤(b5.toNat:X))) then(
  La a0 v3 (Ga a0 n) (decide ((b5.toNat:X)≤(122:X))))
 else(
  La a0 v3 (Ga a0 n) E))
 else(
 O F)
def Jl(a0:V zA):W Y:=
(Bm (a0.length:X) (1:X) (8:X)).bind fun r1=>
if r1 then(
 Ga a0 bigN (0:X))
else(
 O E)
def B8(a0 a1:X):W Y:=
if(decide ((0:X)≤a0)) then(
 O (decide (a0<a1)))
else(
 O E)
def Do(a0:X8):W Y:=
(Jl a0.Name).bind fun r1=>
if r1 then(
 (Bm a0.Length (10:X) (400:X)).bind fun r3=>
 if r3 then(
 (Bm a0.Draught (100:X) (2000:X)).bind fun r5=>
 if r5 then(
  (B8 a0.Line (4:X)).bind fun r7=>
  if r7 then(
  (Bm a0.Tugs (0:X) (4:X)).bind fun r9=>
  O r9)
  else(
  O E))
 else(
  O E))
 else(
 O E))
else(
 O E)
def CB(a0:X):W (V zA):=
(Ow a0).bind fun r1=>
O r1
def CP(a0:V (V zA))(a1:V zA):W (V zA):=
(Oy a0 a1).bind fun r1=>
O r1
def QO(a0:V zA)(a1:Y)(a2:V zA):W (V zA):=
if a1 then(
 if AP a0.length ([32]:V zA).length then(
 if AP (a0++([32]:V zA)).length a2.length then(
  O ((a0++([32]:V zA))++a2))
 else U)
 else U)
else(
 O a0)
def QL(a0:X8):W (V zA):=
(Do a0).bind fun r1=>
if r1 then(
 (CB a0.Length).bind fun r3=>
 (CB a0.Draught).bind fun r4=>
 (CB a0.Line).bind fun r5=>
 (CB a0.Tugs).bind fun r6=>
 (CP ([a0.Name,r3,r4,r5,r6]:V (V zA)) ([32]:V zA)).bind fun r7=>
 (QO r7 a0.Slow ([115,108,111,119]:V zA)).bind fun r9=>
 O r9)
else(
 O ([]:V zA))
def O8(x6:V zA)(x7 x8:X)(x9 x10:X)(v14 v15:Y):W (X8 × Y):=
if v14 then(
 O ((⟨([]:V zA),(0:X),(0:X),(0:X),(0:X),E⟩:X8),E))
else(
 O ((⟨x6,x7,x8,x9,x10,v15⟩:X8),F))
def QM(a0:V zA):W (X8 × Y):=
(HJ a0 ([32]:V zA)).bind fun r1=>
if(decide ((r1.length:X)<(5:X))) then(
 O ((⟨([]:V zA),(0:X),(0:X),(0:X),(0:X),E⟩:X8),E))
else(
 (bnd (5:X) (5:X) (1:X) r1.length).bind fun p3=>
 (JI ((r1.drop p3.1).take (p3.2 - p3.1))).bind fun r4=>
 if r4.2 then(
 (ix r1 (0:X)).bind fun x6=>
 (ix r4.1 (0:X)).bind fun x7=>
 (ix r4.1 (1:X)).bind fun x8=>
 (ix r4.1 (2:X)).bind fun x9=>
 (ix r4.1 (3:X)).bind fun x10=>
 (Do (⟨x6,x7,x8,x9,x10,(decide ((5:X)<(r1.length:X)))⟩:X8)).bind fun r11=>
 if r11 then(
  (QL (⟨x6,x7,x8,x9,x10,(decide ((5:X)<(r1.length:X)))⟩:X8)).bind fun r13=>
  O8 x6 x7 x8 x9 x10 (!(r13==a0)) (decide ((5:X)<(r1.length:X))))
 else(
  O8 x6 x7 x8 x9 x10 F (decide ((5:X)<(r1.length:X)))))
 else(
 O ((⟨([]:V zA),(0:X),(0:X),(0:X),(0:X),E⟩:X8),E)))
def JE(a0:X):W Y:=
(Bm a0 (4:X) (2880:X)).bind fun r1=>
if r1 then(
 O ((zM .i64 (zJ a0 (4:X)))==(0:X)))
else(
 O E)
def Lm(a0:Xf):W Y:=
(Bm a0.Amp (0:X) (1000:X)).bind fun r1=>
if r1 then(
 (JE a0.Period).bind fun r3=>
 if r3 then(
 (Bm a0.Phase (0:X) (zM .i64 (a0.Period - (1:X)))).bind fun r5=>
 O r5)
 else(
 O E))
else(
 O E)
def HL(a0:Xq):Z→X→W Y
| 0,_=>U
| n+1,v4=>
 if(decide (v4<(a0.Parts.length:X))) then(
 (ix a0.Parts v4).bind fun x6=>
 (Lm x6).bind fun r7=>
 if r7 then(
  HL a0 n (zM .i64 (v4+(1:X))))
 else(
  O E))
 else(
 O F)
def LF(a0:Xq):W Y:=
(Bm a0.Mean (-1000:X) (1000:X)).bind fun r1=>
if r1 then(
 if(decide ((4:X)<(a0.Parts.length:X))) then(
 O E)
 else(
 HL a0 bigN (0:X)))
else(
 O E)
def Cd(a0:X):W Y:=
(Bm a0 (0:X) (2880:X)).bind fun r1=>
O r1
def LD(a0:Xc):W Y:=
(Cd a0.From).bind fun r1=>
if r1 then(
 if(decide ((-500:X)≤a0.Low)) then(
 if(decide (a0.Low≤a0.High)) then(
  O (decide (a0.High≤(500:X))))
 else(
  O E))
 else(
 O E))
else(
 O E)
def G7(a0:Xb):Z→X→W Y
| 0,_=>U
| n+1,v7=>
 if(decide (v7<(a0.Surges.length:X))) then(
 (ix a0.Surges v7).bind fun x9=>
 (LD x9).bind fun r10=>
 if r10 then(
  if(decide ((0:X)<v7)) then(
  (ix a0.Surges (zM .i64 (v7 - (1:X)))).bind fun x13=>
  if(decide (x9.From≤x13.From)) then(
   O E)
  else(
   G7 a0 n (zM .i64 (v7+(1:X)))))
  else(
  G7 a0 n (zM .i64 (v7+(1:X)))))
 else(
  O E))
 else(
 O F)
def DI(a0:Xb):W Y:=
(LF a0.Tide).bind fun r1=>
if r1 then(
 (Bm (a0.Surges.length:X) (1:X) (6:X)).bind fun r3=>
 if r3 then(
 (ix a0.Surges (0:X)).bind fun x5=>
 if(x5.From !=(0:X)) then(
  O E)
 else(
  G7 a0 bigN (0:X)))
 else(
 O E))
else(
 O E)
def Lw(a0:X7)(a1 a2:X):W Y:=
if(a0.A==a1) then(
 if(a0.B==a2) then(
 O F)
 else(
 if(a0.A==a2) then(
  O (a0.B==a1))
 else(
  O E)))
else(
 if(a0.A==a2) then(
 O (a0.B==a1))
 else(
 O E))
def Hd(a0:X4)(v11:X)(x13:X7)(y24:V X7)(y25:X)(Mx:X→W Y):Z→X→W Y
| 0,_=>U
| n+1,v26=>
 if(decide (v26<y25)) then(
 (ix y24 v26).bind fun x28=>
 (Lw x28 x13.A x13.B).bind fun r29=>
 if r29 then(
  O E)
 else(
  Hd a0 v11 x13 y24 y25 Mx n (zM .i64 (v26+(1:X)))))
 else(
 Mx (zM .i64 (v11+(1:X))))
def Ew(a0:X4):Z→X→W Y
| 0,_=>U
| n+1,v11=>
 if(decide (v11<(a0.Segments.length:X))) then(
 (ix a0.Segments v11).bind fun x13=>
 (B8 x13.A (a0.Points.length:X)).bind fun r14=>
 if r14 then(
  (B8 x13.B (a0.Points.length:X)).bind fun r16=>
  if r16 then(
  if(x13.A==x13.B) then(
   O E)
  else(
   (Bm x13.Depth (0:X) (3000:X)).bind fun r19=>
   if r19 then(
   (Bm x13.Minutes (1:X) (240:X)).bind fun r21=>
   if r21 then(
    (bnd (a0.Segments.length:X) v11 (0:X) a0.Segments.length).bind fun p23=>
    Hd a0 v11 x13 ((a0.Segments.drop p23.1).take (p23.2 - p23.1)) (((a0.Segments.drop p23.1).take (p23.2 - p23.1)).length:X) (Ew a0 n) bigN (0:X))
   else(
    O E))
   else(
   O E)))
  else(
  O E))
 else(
  O E))
 else(
 O F)
def Hc(a0:X4):Z→X→W Y
| 0,_=>U
| n+1,v3=>
 if(decide (v3<(a0.Points.length:X))) then(
 (ix a0.Points v3).bind fun x5=>
 (Jl x5.Name).bind fun r6=>
 if r6 then(
  (BF a0 x5.Name).bind fun r9=>
  if(r9 !=v3) then(
  O E)
  else(
  Hc a0 n (zM .i64 (v3+(1:X)))))
 else(
  O E))
 else(
 Ew a0 bigN (0:X))
def D1(a0:X4):W Y:=
if(decide ((8:X)<(a0.Points.length:X))) then(
 O E)
else(
 if(decide ((10:X)<(a0.Segments.length:X))) then(
 O E)
 else(
 Hc a0 bigN (0:X)))
def HI(a1:V zA)(a0:V X8):Z→X→W X
| 0,_=>U
| n+1,v1=>
 if(decide (v1<(a0.length:X))) then(
 (ix a0 v1).bind fun x3=>
 if(x3.Name==a1) then(
  O v1)
 else(
  HI a1 a0 n (zM .i64 (v1+(1:X)))))
 else(
 O (-1:X))
def Dn(a0:V X8)(a1:V zA):W X:=
HI a1 a0 bigN (0:X)
def Hp(a0:V X8):Z→X→W Y
| 0,_=>U
| n+1,v2=>
 if(decide (v2<(a0.length:X))) then(
 (ix a0 v2).bind fun x4=>
 (Do x4).bind fun r5=>
 if r5 then(
  (Dn a0 x4.Name).bind fun r7=>
  if(r7 !=v2) then(
  O E)
  else(
  Hp a0 n (zM .i64 (v2+(1:X)))))
 else(
  O E))
 else(
 O F)
def Jj(a0:V X8):W Y:=
if(decide ((6:X)<(a0.length:X))) then(
 O E)
else(
 Hp a0 bigN (0:X))
def O9(a0:Xm):W Y:=
(Bm a0.Gap (0:X) (60:X)).bind fun r1=>
O r1
def Gr(a0:V X):Z→X→W Y
| 0,_=>U
| n+1,v2=>
 if(decide (v2<(a0.length:X))) then(
 (ix a0 v2).bind fun x4=>
 (Bm x4 (0:X) (240:X)).bind fun r5=>
 if r5 then(
  Gr a0 n (zM .i64 (v2+(1:X))))
 else(
  O E))
 else(
 O F)
def Gq(a0:V X):W Y:=
if((a0.length:X) !=(64:X)) then(
 O E)
else(
 Gr a0 bigN (0:X))
def Hm(a0:Xr):W Y:=
(Bm a0.Tugs (0:X) (12:X)).bind fun r1=>
if r1 then(
 (Bm a0.Pilots (0:X) (12:X)).bind fun r3=>
 if r3 then(
 (Cd a0.Rest).bind fun r5=>
 if r5 then(
  (Gq a0.Moves).bind fun r7=>
  O r7)
 else(
  O E))
 else(
 O E))
else(
 O E)
def G8(a0:X1):W Y:=
(DI a0.Forecast).bind fun r1=>
if r1 then(
 (D1 a0.Chart).bind fun r3=>
 if r3 then(
 (Jj a0.Fleet).bind fun r5=>
 if r5 then(
  (O9 a0.Regime).bind fun r7=>
  if r7 then(
  (Hm a0.Crew).bind fun r9=>
  O r9)
  else(
  O E))
 else(
  O E))
 else(
 O E))
else(
 O E)
def CC(a0:Y):W (V zA):=
if a0 then(
 O ([111,107]:V zA))
else(
 O ([110,111,110,101]:V zA))
def NZ(a0:X6)(v3:Y)(v4:X)(v5:V Xf)(v6:V Xc)(v7:V Xa)(v8:V X7)(v9:V X8)(v10:X)(v11:Y)(v12 v13 v14:X)(v15:V X):W ((V zA) × X6):=
(CC v3).bind fun r16=>
O (r16,(⟨(⟨(⟨(⟨v4,v5⟩:Xq),v6⟩:Xb),(⟨v7,v8⟩:X4),v9,(⟨v10,v11⟩:Xm),(⟨v12,v13,v14,v15⟩:Xr)⟩:X1),a0.Calls,a0.Desk⟩:X6))
def Bk(a0:X6)(a1:X1):W ((V zA) × X6):=
(G8 a1).bind fun r1=>
if r1 then(
 NZ a0 F a1.Forecast.Tide.Mean a1.Forecast.Tide.Parts a1.Forecast.Surges a1.Chart.Points a1.Chart.Segments a1.Fleet a1.Regime.Gap a1.Regime.NoMeet a1.Crew.Tugs a1.Crew.Pilots a1.Crew.Rest a1.Crew.Moves)
else(
 NZ a0 E a0.Harbour.Forecast.Tide.Mean a0.Harbour.Forecast.Tide.Parts a0.Harbour.Forecast.Surges a0.Harbour.Chart.Points a0.Harbour.Chart.Segments a0.Harbour.Fleet a0.Harbour.Regime.Gap a0.Harbour.Regime.NoMeet a0.Harbour.Crew.Tugs a0.Harbour.Crew.Pilots a0.Harbour.Crew.Rest a0.Harbour.Crew.Moves)
def QH(a0:X6)(a1:V zA)(a2:V (V zA)):W ((V zA) × X6):=
(Bs a0.Harbour).bind fun r1=>
(ix a2 (0:X)).bind fun x2=>
if(x2==([112,111,105,110,116]:V zA)) then(
 (QQ a2).bind fun r4=>
 if r4.2 then(
 if A4 r1.Chart.Points.length ([r4.1]:V Xa).length 24 then(
  (Bk a0 (⟨r1.Forecast,(⟨(r1.Chart.Points++([r4.1]:V Xa)),r1.Chart.Segments⟩:X4),r1.Fleet,r1.Regime,r1.Crew⟩:X1)).bind fun r17=>
  O (r17.1,r17.2))
 else U)
 else(
 O (([117,110,107,110,111,119,110,32,99,111,109,109,97,110,100]:V zA),a0)))
else(
 if(x2==([99,104,97,110,110,101,108]:V zA)) then(
 (Gu r1.Chart a2).bind fun r9=>
 if r9.2 then(
  if A4 r1.Chart.Segments.length ([r9.1]:V X7).length 40 then(
  (Bk a0 (⟨r1.Forecast,(⟨r1.Chart.Points,(r1.Chart.Segments++([r9.1]:V X7))⟩:X4),r1.Fleet,r1.Regime,r1.Crew⟩:X1)).bind fun r18=>
  O (r18.1,r18.2))
  else U)
 else(
  O (([117,110,107,110,111,119,110,32,99,111,109,109,97,110,100]:V zA),a0)))
 else(
 if(decide ((a2.length:X)<(2:X))) then(
  O (([117,110,107,110,111,119,110,32,99,111,109,109,97,110,100]:V zA),a0))
 else(
  (bnd (a1.length:X) (a1.length:X) (5:X) a1.length).bind fun p13=>
  (QM ((a1.drop p13.1).take (p13.2 - p13.1))).bind fun r14=>
  if r14.2 then(
  if A4 r1.Fleet.length ([r14.1]:V X8).length 56 then(
   (Bk a0 (⟨r1.Forecast,r1.Chart,(r1.Fleet++([r14.1]:V X8)),r1.Regime,r1.Crew⟩:X1)).bind fun r19=>
   O (r19.1,r19.2))
  else U)
  else(
  O (([117,110,107,110,111,119,110,32,99,111,109,109,97,110,100]:V zA),a0)))))
def QK(a0:X6)(a1:V (V zA)):W ((V zA) × X6):=
(bnd (a1.length:X) (a1.length:X) (1:X) a1.length).bind fun p1=>
(JI ((a1.drop p1.1).take (p1.2 - p1.1))).bind fun r2=>
if r2.2 then(
 (ix a1 (0:X)).bind fun x4=>
 if((r2.1.length:X) !=CS x4 Km) then(
 O (([117,110,107,110,111,119,110,32,99,111,109,109,97,110,100]:V zA),a0))
 else(
 (Bs a0.Harbour).bind fun r6=>
 (ix a1 (0:X)).bind fun x7=>
 if(x7==([109,101,97,110]:V zA)) then(
  (ix r2.1 (0:X)).bind fun x9=>
  (Bk a0 (⟨(⟨(⟨x9,r6.Forecast.Tide.Parts⟩:Xq),r6.Forecast.Surges⟩:Xb),r6.Chart,r6.Fleet,r6.Regime,r6.Crew⟩:X1)).bind fun r20=>
  O (r20.1,r20.2))
 else(
  if(x7==([119,97,118,101]:V zA)) then(
  (ix r2.1 (0:X)).bind fun x11=>
  (ix r2.1 (1:X)).bind fun x12=>
  (ix r2.1 (2:X)).bind fun x13=>
  if A4 r6.Forecast.Tide.Parts.length ([(⟨x11,x12,x13⟩:Xf)]:V Xf).length 24 then(
   (Bk a0 (⟨(⟨(⟨r6.Forecast.Tide.Mean,(r6.Forecast.Tide.Parts++([(⟨x11,x12,x13⟩:Xf)]:V Xf))⟩:Xq),r6.Forecast.Surges⟩:Xb),r6.Chart,r6.Fleet,r6.Regime,r6.Crew⟩:X1)).bind fun r21=>
   O (r21.1,r21.2))
  else U)
  else(
  if(x7==([115,117,114,103,101]:V zA)) then(
   (ix r2.1 (0:X)).bind fun x16=>
   (ix r2.1 (1:X)).bind fun x17=>
   (Bk a0 (⟨(⟨r6.Forecast.Tide,([(⟨(0:X),x16,x17⟩:Xc)]:V Xc)⟩:Xb),r6.Chart,r6.Fleet,r6.Regime,r6.Crew⟩:X1)).bind fun r22=>
   O (r22.1,r22.2))
  else(
   if(x7==([103,97,112]:V zA)) then(
   (ix r2.1 (0:X)).bind fun x19=>
   (Bk a0 (⟨r6.Forecast,r6.Chart,r6.Fleet,(⟨x19,r6.Regime.NoMeet⟩:Xm),r6.Crew⟩:X1)).bind fun r23=>
   O (r23.1,r23.2))
   else(
   (Bk a0 r6).bind fun r24=>
   O (r24.1,r24.2)))))))
else(
 O (([117,110,107,110,111,119,110,32,99,111,109,109,97,110,100]:V zA),a0))
def Jx(a0:X1)(a1:X3):W Y:=
(B8 a1.Ship (a0.Fleet.length:X)).bind fun r1=>
if r1 then(
 (B8 a1.From (a0.Chart.Points.length:X)).bind fun r3=>
 if r3 then(
 (B8 a1.To (a0.Chart.Points.length:X)).bind fun r5=>
 if r5 then(
  if(a1.From !=a1.To) then(
  (Cd a1.Ready).bind fun r9=>
  if r9 then(
   (Bm a1.Due a1.Ready (2880:X)).bind fun r11=>
   O r11)
  else(
   O E))
  else(
  O E))
 else(
  O E))
 else(
 O E))
else(
 O E)
def Eu(a1:V X3)(v4:X)(a0:X1)(x6:X3)(y10:V X3)(y11:X)(Mw:X→W Y):Z→X→W Y
| 0,_=>U
| n+1,v12=>
 if(decide (v12<y11)) then(
 (ix y10 v12).bind fun x14=>
 if(x14.Ship==x6.Ship) then(
  O E)
 else(
  Eu a1 v4 a0 x6 y10 y11 Mw n (zM .i64 (v12+(1:X)))))
 else(
 Mw (zM .i64 (v4+(1:X))))
def DH(a1:V X3)(a0:X1):Z→X→W Y
| 0,_=>U
| n+1,v4=>
 if(decide (v4<(a1.length:X))) then(
 (ix a1 v4).bind fun x6=>
 (Jx a0 x6).bind fun r7=>
 if r7 then(
  (bnd (a1.length:X) v4 (0:X) a1.length).bind fun p9=>
  Eu a1 v4 a0 x6 ((a1.drop p9.1).take (p9.2 - p9.1)) (((a1.drop p9.1).take (p9.2 - p9.1)).length:X) (DH a1 a0 n) bigN (0:X))
 else(
  O E))
 else(
 O F)
def BR(a0:X1)(a1:V X3):W Y:=
(G8 a0).bind fun r1=>
if r1 then(
 if(decide ((6:X)<(a1.length:X))) then(
 O E)
 else(
 DH a1 a0 bigN (0:X)))
else(
 O E)
def O1(a0:X):Z→X→(V X)→(V Y)→W Xo
| 0,_,_,_=>U
| n+1,v3,v4,v5=>
 if(decide (v3<a0)) then(
 if A4 v4.length ([(-1:X)]:V X).length 8 then(
  if A4 v5.length ([E]:V Y).length 1 then(
  O1 a0 n (zM .i64 (v3+(1:X))) (v4++([(-1:X)]:V X)) (v5++([E]:V Y)))
  else U)
 else U)
 else(
 O (⟨(0:X),v4,v5⟩:Xo))
def Ex(a0:X):W Xo:=
(Bm a0 (0:X) (6:X)).bind fun r1=>
if r1 then(
 O1 a0 bigN (0:X) ([]:V X) ([]:V Y))
else(
 O (⟨(0:X),([]:V X),([]:V Y)⟩:Xo))
def QG(a0:X6)(a1:V (V zA)):W ((V zA) × X6):=
if((a1.length:X) !=(6:X)) then(
 O (([117,110,107,110,111,119,110,32,99,111,109,109,97,110,100]:V zA),a0))
else(
 (bnd (a1.length:X) (a1.length:X) (4:X) a1.length).bind fun p2=>
 (JI ((a1.drop p2.1).take (p2.2 - p2.1))).bind fun r3=>
 if r3.2 then(
 (E5 a0.Calls).bind fun r5=>
 (ix a1 (1:X)).bind fun x6=>
 (Dn a0.Harbour.Fleet x6).bind fun r7=>
 (ix a1 (2:X)).bind fun x8=>
 (BF a0.Harbour.Chart x8).bind fun r9=>
 (ix a1 (3:X)).bind fun x10=>
 (BF a0.Harbour.Chart x10).bind fun r11=>
 (ix r3.1 (0:X)).bind fun x12=>
 (ix r3.1 (1:X)).bind fun x13=>
 if A4 r5.length ([(⟨r7,r9,r11,x12,x13⟩:X3)]:V X3).length 40 then(
  (BR a0.Harbour (r5++([(⟨r7,r9,r11,x12,x13⟩:X3)]:V X3))).bind fun r15=>
  if r15 then(
  (Ex ((r5++([(⟨r7,r9,r11,x12,x13⟩:X3)]:V X3)).length:X)).bind fun r18=>
  (CC F).bind fun r19=>
  O (r19,(⟨a0.Harbour,(r5++([(⟨r7,r9,r11,x12,x13⟩:X3)]:V X3)),r18⟩:X6)))
  else(
  (CC E).bind fun r17=>
  O (r17,a0)))
 else U)
 else(
 O (([117,110,107,110,111,119,110,32,99,111,109,109,97,110,100]:V zA),a0)))
def G6(a0:Xo):Z→X→W Y
| 0,_=>U
| n+1,v5=>
 if(decide (v5<(a0.Starts.length:X))) then(
 (ix a0.Starts v5).bind fun x7=>
 (Bm x7 (-1:X) (2880:X)).bind fun r9=>
 if r9 then(
  (ix a0.Cleared v5).bind fun x11=>
  if x11 then(
  if(decide (x7<(0:X))) then(
   O E)
  else(
   G6 a0 n (zM .i64 (v5+(1:X)))))
  else(
  G6 a0 n (zM .i64 (v5+(1:X)))))
 else(
  O E))
 else(
 O F)
def Ji(a0:Xo):W Y:=
(Cd a0.Now).bind fun r1=>
if r1 then(
 if(decide ((6:X)<(a0.Starts.length:X))) then(
 O E)
 else(
 if((a0.Cleared.length:X) !=(a0.Starts.length:X)) then(
  O E)
 else(
  G6 a0 bigN (0:X))))
else(
 O E)
def LJ(a0:Xo)(a1:Xp):W Y:=
(Bm a1.At a0.Now (2880:X)).bind fun r1=>
if r1 then(
 if(a1.Kind==(4:X)) then(
 if(a1.Call==(0:X)) then(
  O (a1.Value==(0:X)))
 else(
  O E))
 else(
 (B8 a1.Call (a0.Starts.length:X)).bind fun r5=>
 if r5 then(
  (ix a0.Cleared a1.Call).bind fun x7=>
  if x7 then(
  O E)
  else(
  (ix a0.Starts a1.Call).bind fun x9=>
  if(a1.Kind==(1:X)) then(
   (Bm a1.Value a1.At (2880:X)).bind fun r11=>
   O r11)
  else(
   if(a1.Kind==(2:X)) then(
   if(a1.Value==(0:X)) then(
    O (decide (a1.At≤x9)))
   else(
    O E))
   else(
   if(a1.Kind==(3:X)) then(
    if(a1.Value==(0:X)) then(
    O (decide ((0:X)≤x9)))
    else(
    O E))
   else(
    O E)))))
 else(
  O E)))
else(
 O E)
def J9(a1:Xp)(v13:V X)(v14:V Y):W (Xo × Y):=
O ((⟨a1.At,v13,v14⟩:Xo),F)
def J8(a1:Xp)(r1:Xo)(v5:Y):W (Xo × Y):=
if v5 then(
 O (r1,E))
else(
 if(a1.Kind==(1:X)) then(
 (ix r1.Starts a1.Call).bind fun x8=>
 J9 a1 (r1.Starts.set (zE a1.Call) a1.Value) r1.Cleared)
 else(
 if(a1.Kind==(2:X)) then(
  (ix r1.Cleared a1.Call).bind fun x10=>
  J9 a1 r1.Starts (r1.Cleared.set (zE a1.Call) F))
 else(
  if(a1.Kind==(3:X)) then(
  (ix r1.Starts a1.Call).bind fun x12=>
  J9 a1 (r1.Starts.set (zE a1.Call) (-1:X)) r1.Cleared)
  else(
  J9 a1 r1.Starts r1.Cleared))))
def KU(a0:Xo)(a1:Xp):W (Xo × Y):=
(JC a0).bind fun r1=>
(Ji a0).bind fun r2=>
if r2 then(
 (LJ a0 a1).bind fun r4=>
 J8 a1 r1 (!r4))
else(
 J8 a1 r1 F)
def CA(a0:X6)(a1:Xp):W ((V zA) × X6):=
(KU a0.Desk a1).bind fun r1=>
(CC r1.2).bind fun r2=>
O (r2,(⟨a0.Harbour,a0.Calls,r1.1⟩:X6))
def Hh(r1:X)(a0:X6):Z→X→W X
| 0,_=>U
| n+1,v2=>
 if(decide (v2<(a0.Calls.length:X))) then(
 (ix a0.Calls v2).bind fun x4=>
 if(x4.Ship==r1) then(
  O v2)
 else(
  Hh r1 a0 n (zM .i64 (v2+(1:X)))))
 else(
 O (-1:X))
def Dk(a0:X6)(a1:V zA):W X:=
(Dn a0.Harbour.Fleet a1).bind fun r1=>
Hh r1 a0 bigN (0:X)
def L3(a1:V (V zA))(a0:X6)(v17 v18:X):W ((V zA) × X6):=
if(v18==(4:X)) then(
 (CA a0 (⟨(4:X),v17,(0:X),(0:X)⟩:Xp)).bind fun r20=>
 O (r20.1,r20.2))
else(
 (ix a1 (1:X)).bind fun x21=>
 (Dk a0 x21).bind fun r22=>
 (CA a0 (⟨v18,a0.Desk.Now,r22,v17⟩:Xp)).bind fun r23=>
 O (r23.1,r23.2))
def NV(a1:V (V zA))(a0:X6)(v13:X):W ((V zA) × X6):=
(ix a1 (zM .i64 ((a1.length:X) - (1:X)))).bind fun x14=>
(Fi x14).bind fun r15=>
if r15.2 then(
 L3 a1 a0 r15.1 v13)
else(
 O (([117,110,107,110,111,119,110,32,99,111,109,109,97,110,100]:V zA),a0))
def NU(a1:V (V zA))(a0:X6):W ((V zA) × X6):=
(ix a1 (0:X)).bind fun x10=>
if(x10==([116,105,99,107]:V zA)) then(
 if((a1.length:X)==(2:X)) then(
 NV a1 a0 (4:X))
 else(
 O (([117,110,107,110,111,119,110,32,99,111,109,109,97,110,100]:V zA),a0)))
else(
 O (([117,110,107,110,111,119,110,32,99,111,109,109,97,110,100]:V zA),a0))
def NT(a1:V (V zA))(a0:X6):W ((V zA) × X6):=
(ix a1 (0:X)).bind fun x7=>
if(x7==([97,110,110,111,117,110,99,101]:V zA)) then(
 if((a1.length:X)==(3:X)) then(
 NV a1 a0 (1:X))
 else(
 NU a1 a0))
else(
 NU a1 a0)
def NS(a1:V (V zA))(a0:X6):W ((V zA) × X6):=
(ix a1 (0:X)).bind fun x4=>
if(x4==([99,97,110,99,101,108]:V zA)) then(
 if((a1.length:X)==(2:X)) then(
 L3 a1 a0 (0:X) (3:X))
 else(
 NT a1 a0))
else(
 NT a1 a0)
def QI(a0:X6)(a1:V (V zA)):W ((V zA) × X6):=
(ix a1 (0:X)).bind fun x1=>
if(x1==([99,108,101,97,114]:V zA)) then(
 if((a1.length:X)==(2:X)) then(
 L3 a1 a0 (0:X) (2:X))
 else(
 NS a1 a0))
else(
 NS a1 a0)
def Jb(a0:X1)(a1:X3):W Y:=
(G8 a0).bind fun r1=>
if r1 then(
 (Jx a0 a1).bind fun r3=>
 O r3)
else(
 O E)
def Js(a0:X7)(a1:X):W X:=
if(a1==a0.A) then(
 O a0.B)
else(
 if(a1==a0.B) then(
 O a0.A)
 else(
 O (-1:X)))
def Hg(rec_:X4→X→X→(V X)→X5→(V (V X))→W (V (V X)))(a1 a2:X)(a3:V X)(v6 r11:X)(a0:X4)(y7:X5)(v8:V (V X))(My:X→(V (V X))→W (V (V X)))(v16:Y):W (V (V X)):=
if v16 then(
 (Bl a3).bind fun r18=>
 if A4 r18.length ([v6]:V X).length 8 then(
 (rec_ a0 r11 a2 (r18++([v6]:V X)) y7 v8).bind fun r20=>
 My (zM .i64 (v6+(1:X))) r20)
 else U)
else(
 My (zM .i64 (v6+(1:X))) v8)
def F9(rec_:X4→X→X→(V X)→X5→(V (V X))→W (V (V X)))(a1 a2:X)(a3:V X)(a0:X4)(y7:X5):Z→X→(V (V X))→W (V (V X))
| 0,_,_=>U
| n+1,v6,v8=>
 if(decide (v6<(a0.Segments.length:X))) then(
 (ix a0.Segments v6).bind fun x10=>
 (Js x10 a1).bind fun r11=>
 if(decide ((0:X)≤r11)) then(
  if decide ((0:X)≤r11)&&decide (r11<(8:X)) then(
  (ix ([y7.i0,y7.i1,y7.i2,y7.i3,y7.i4,y7.i5,y7.i6,y7.i7]:V Y) r11).bind fun x14=>
  Hg rec_ a1 a2 a3 v6 r11 a0 y7 v8 (F9 rec_ a1 a2 a3 a0 y7 n) (!x14))
  else U)
 else(
  Hg rec_ a1 a2 a3 v6 r11 a0 y7 v8 (F9 rec_ a1 a2 a3 a0 y7 n) E))
 else(
 O v8)
def NQ(rec_:X4→X→X→(V X)→X5→(V (V X))→W (V (V X)))(a0:X4)(a1 a2:X)(a3:V X)(a4:X5)(a5:V (V X)):W (V (V X)):=
if(a1==a2) then(
 (Bl a3).bind fun r2=>
 if A4 a5.length ([r2]:V (V X)).length 24 then(
 O (a5++([r2]:V (V X))))
 else U)
else(
 if decide ((0:X)≤a1)&&decide (a1<(8:X)) then(
 F9 rec_ a1 a2 a3 a0 (⟨((X5.set a4 (zE a1) F)).i0,((X5.set a4 (zE a1) F)).i1,((X5.set a4 (zE a1) F)).i2,((X5.set a4 (zE a1) F)).i3,((X5.set a4 (zE a1) F)).i4,((X5.set a4 (zE a1) F)).i5,((X5.set a4 (zE a1) F)).i6,((X5.set a4 (zE a1) F)).i7⟩:X5) bigN (0:X) a5)
 else U)
def Fa:Z→X4→X→X→(V X)→X5→(V (V X))→W (V (V X))
| 0,_,_,_,_,_,_=>U
| n+1,a0,a1,a2,a3,a4,a5=>NQ (Fa n) a0 a1 a2 a3 a4 a5
def QF(a0:X4)(a1 a2:X)(a3:V X)(a4:X5)(a5:V (V X)):W (V (V X)):=Fa bigN a0 a1 a2 a3 a4 a5
def Lu(a0:X4)(a1 a2:X):W (V (V X)):=
(D1 a0).bind fun r1=>
if r1 then(
 (B8 a1 (a0.Points.length:X)).bind fun r3=>
 if r3 then(
 (B8 a2 (a0.Points.length:X)).bind fun r5=>
 if r5 then(
  (QF a0 a1 a2 ([]:V X) (⟨E,E,E,E,E,E,E,E⟩:X5) ([]:V (V X))).bind fun r7=>
  O r7)
 else(
  O ([]:V (V X))))
 else(
 O ([]:V (V X))))
else(
 O ([]:V (V X)))
def Ez(a1:V X)(a0:X4):Z→X→X→W X
| 0,_,_=>U
| n+1,v3,v4=>
 if(decide (v4<(a1.length:X))) then(
 (ix a1 v4).bind fun x6=>
 (B8 x6 (a0.Segments.length:X)).bind fun r7=>
 if r7 then(
  (ix a0.Segments x6).bind fun x9=>
  Ez a1 a0 n (zM .i64 (v3+x9.Minutes)) (zM .i64 (v4+(1:X))))
 else(
  O (-1:X)))
 else(
 O v3)
def Fj(a0:X4)(a1:V X):W X:=
(D1 a0).bind fun r1=>
if r1 then(
 Ez a1 a0 bigN (0:X) (0:X))
else(
 O (-1:X))
def G2(r1:(V (V X)))(a0:X4):Z→(V X)→X→W ((V X) × Y)
| 0,_,_=>U
| n+1,v4,v5=>
 if(decide (v5<(r1.length:X))) then(
 (ix r1 v5).bind fun x7=>
 (Fj a0 x7).bind fun r9=>
 (Fj a0 v4).bind fun r10=>
 if(decide (r9<r10)) then(
  G2 r1 a0 n x7 (zM .i64 (v5+(1:X))))
 else(
  G2 r1 a0 n v4 (zM .i64 (v5+(1:X)))))
 else(
 O (v4,F))
def Ja(a0:X4)(a1 a2:X):W ((V X) × Y):=
(Lu a0 a1 a2).bind fun r1=>
if((r1.length:X)==(0:X)) then(
 O (([]:V X),E))
else(
 (ix r1 (0:X)).bind fun x3=>
 G2 r1 a0 bigN x3 (0:X))
def Hf(r14:X)(a2:V X)(v6:X)(a0:X4)(v7:X5)(v8:V X)(Pa:X→X→X5→(V X)→W ((V X) × Y))(v19:Y):W ((V X) × Y):=
if v19 then(
 O (([]:V X),E))
else(
 if decide ((0:X)≤r14)&&decide (r14<(8:X)) then(
 if A4 v8.length ([r14]:V X).length 8 then(
  Pa r14 (zM .i64 (v6+(1:X))) (⟨((X5.set v7 (zE r14) F)).i0,((X5.set v7 (zE r14) F)).i1,((X5.set v7 (zE r14) F)).i2,((X5.set v7 (zE r14) F)).i3,((X5.set v7 (zE r14) F)).i4,((X5.set v7 (zE r14) F)).i5,((X5.set v7 (zE r14) F)).i6,((X5.set v7 (zE r14) F)).i7⟩:X5) (v8++([r14]:V X)))
 else U)
 else U)
def G3(a2:V X)(a0:X4):Z→X→X→X5→(V X)→W ((V X) × Y)
| 0,_,_,_,_=>U
| n+1,v5,v6,v7,v8=>
 if(decide (v6<(a2.length:X))) then(
 (ix a2 v6).bind fun x10=>
 (B8 x10 (a0.Segments.length:X)).bind fun r11=>
 if r11 then(
  (ix a0.Segments x10).bind fun x13=>
  (Js x13 v5).bind fun r14=>
  if(decide (r14<(0:X))) then(
  Hf r14 a2 v6 a0 v7 v8 (G3 a2 a0 n) F)
  else(
  if decide ((0:X)≤r14)&&decide (r14<(8:X)) then(
   (ix ([v7.i0,v7.i1,v7.i2,v7.i3,v7.i4,v7.i5,v7.i6,v7.i7]:V Y) r14).bind fun x17=>
   Hf r14 a2 v6 a0 v7 v8 (G3 a2 a0 n) x17)
  else U))
 else(
  O (([]:V X),E)))
 else(
 O (v8,F))
def He(a0:X4)(a1:X)(a2:V X):W ((V X) × Y):=
(B8 a1 (a0.Points.length:X)).bind fun r1=>
if r1 then(
 if decide ((0:X)≤a1)&&decide (a1<(8:X)) then(
 G3 a2 a0 bigN a1 (0:X) (⟨((X5.set (⟨E,E,E,E,E,E,E,E⟩:X5) (zE a1) F)).i0,((X5.set (⟨E,E,E,E,E,E,E,E⟩:X5) (zE a1) F)).i1,((X5.set (⟨E,E,E,E,E,E,E,E⟩:X5) (zE a1) F)).i2,((X5.set (⟨E,E,E,E,E,E,E,E⟩:X5) (zE a1) F)).i3,((X5.set (⟨E,E,E,E,E,E,E,E⟩:X5) (zE a1) F)).i4,((X5.set (⟨E,E,E,E,E,E,E,E⟩:X5) (zE a1) F)).i5,((X5.set (⟨E,E,E,E,E,E,E,E⟩:X5) (zE a1) F)).i6,((X5.set (⟨E,E,E,E,E,E,E,E⟩:X5) (zE a1) F)).i7⟩:X5) ([a1]:V X))
 else U)
else(
 O (([]:V X),E))
def E4(a0:X4)(a1:X)(a2:V X):W (V X):=
(D1 a0).bind fun r1=>
if r1 then(
 (He a0 a1 a2).bind fun r3=>
 O r3.1)
else(
 O ([]:V X))
def HG(a0:X4)(a1:X)(a2:V X):W Y:=
(D1 a0).bind fun r1=>
if r1 then(
 (He a0 a1 a2).bind fun r3=>
 O r3.2)
else(
 O E)
def Fl(a0:X8)(a1:X7):W X:=
if a0.Slow then(
 O (zM .i64 ((2:X)*a1.Minutes)))
else(
 O a1.Minutes)
def JH(a0:X4)(a1:X)(a2:X8):W Y:=
(D1 a0).bind fun r1=>
if r1 then(
 (Do a2).bind fun r3=>
 if r3 then(
 (B8 a1 (a0.Segments.length:X)).bind fun r5=>
 O r5)
 else(
 O E))
else(
 O E)
def Oc(a0:X8):W X:=
if a0.Slow then(
 O (zM .i64 (zI a0.Draught (50:X))))
else(
 O (zM .i64 (zI a0.Draught (20:X))))
def Ob(a0:X8):W X:=
(Oc a0).bind fun r1=>
O (zM .i64 ((zM .i64 (a0.Draught+r1))+(50:X)))
def Le(a0:X4)(a1:X)(a2:X8):W X:=
(JH a0 a1 a2).bind fun r1=>
if r1 then(
 (Ob a2).bind fun r3=>
 (ix a0.Segments a1).bind fun x4=>
 O (zM .i64 (r3 - x4.Depth)))
else(
 O (0:X))
def HY(a0:X→W Y)(v2:X)(FG:Y→X→(V X9)→W (V X9))(v11:Y)(v12:V X9):W (V X9):=
FG v11 (zM .i64 (v2+(1:X))) v12
def JJ(a0:X→W Y)(v2:X)(FG:Y→X→(V X9)→W (V X9))(v9:V X9):W (V X9):=
(ix v9 (zM .i64 ((v9.length:X) - (1:X)))).bind fun x10=>
HY a0 v2 FG F (v9.set (zE (zM .i64 ((v9.length:X) - (1:X)))) (⟨x10.From,v2⟩:X9))
def Fw(a0:X→W Y):Z→Y→X→(V X9)→W (V X9)
| 0,_,_,_=>U
| n+1,v1,v2,v3=>
 if(decide (v2≤(2880:X))) then(
 (a0 v2).bind fun r5=>
 if r5 then(
  if v1 then(
  JJ a0 v2 (Fw a0 n) v3)
  else(
  if A4 v3.length ([(⟨v2,(0:X)⟩:X9)]:V X9).length 16 then(
   JJ a0 v2 (Fw a0 n) (v3++([(⟨v2,(0:X)⟩:X9)]:V X9)))
  else U))
 else(
  HY a0 v2 (Fw a0 n) E v3))
 else(
 O v3)
def Oq(a0:X→W Y):W (V X9):=
Fw a0 bigN E (0:X) ([]:V X9)
def LI(a0 a1:X):W X:=
(JE a1).bind fun r1=>
if r1 then(
 if a1==0 then U else
 if a1==0 then U else
 if(decide ((zM .i64 (zI a1 (2:X)))≤(zM .i64 (zJ (zM .i64 ((zM .i64 (zJ a0 a1))+a1)) a1)))) then(
 if(zM .i64 ((zM .i64 (zI a1 (2:X)))*(zM .i64 (zI a1 (2:X)))))==0 then U else
 O (zM .i64 (0 - (zM .i64 (zI (zM .i64 ((zM .i64 ((40000:X)*(zM .i64 ((zM .i64 (zJ (zM .i64 ((zM .i64 (zJ a0 a1))+a1)) a1)) - (zM .i64 (zI a1 (2:X)))))))*(zM .i64 ((zM .i64 (zI a1 (2:X))) - (zM .i64 ((zM .i64 (zJ (zM .i64 ((zM .i64 (zJ a0 a1))+a1)) a1)) - (zM .i64 (zI a1 (2:X))))))))) (zM .i64 ((zM .i64 (zI a1 (2:X)))*(zM .i64 (zI a1 (2:X))))))))))
 else(
 if(zM .i64 ((zM .i64 (zI a1 (2:X)))*(zM .i64 (zI a1 (2:X)))))==0 then U else
 O (zM .i64 (zI (zM .i64 ((zM .i64 ((40000:X)*(zM .i64 (zJ (zM .i64 ((zM .i64 (zJ a0 a1))+a1)) a1))))*(zM .i64 ((zM .i64 (zI a1 (2:X))) - (zM .i64 (zJ (zM .i64 ((zM .i64 (zJ a0 a1))+a1)) a1)))))) (zM .i64 ((zM .i64 (zI a1 (2:X)))*(zM .i64 (zI a1 (2:X)))))))))
else(
 O (0:X))
def HM(a1:X)(a0:Xq):Z→X→X→W X
| 0,_,_=>U
| n+1,v1,v2=>
 if(decide (v2<(a0.Parts.length:X))) then(
 (ix a0.Parts v2).bind fun x4=>
 (LI (zM .i64 (a1+x4.Phase)) x4.Period).bind fun r5=>
 HM a1 a0 n (zM .i64 (v1+(zM .i64 (zI (zM .i64 (x4.Amp*r5)) (10000:X))))) (zM .i64 (v2+(1:X))))
 else(
 O v1)
def LG(a0:Xq)(a1:X):W X:=
HM a1 a0 bigN a0.Mean (0:X)
def Fg(a1:X)(a0:Xb):Z→X→X→W X
| 0,_,_=>U
| n+1,v1,v2=>
 if(decide (v2<(a0.Surges.length:X))) then(
 (ix a0.Surges v2).bind fun x4=>
 if(decide (x4.From≤a1)) then(
  Fg a1 a0 n v2 (zM .i64 (v2+(1:X))))
 else(
  Fg a1 a0 n v1 (zM .i64 (v2+(1:X)))))
 else(
 O v1)
def Jk(a0:Xb)(a1:X):W X:=
Fg a1 a0 bigN (0:X) (0:X)
def Ff(a0:Xb)(a1:X):W X:=
(LG a0.Tide a1).bind fun r1=>
(Jk a0 a1).bind fun r2=>
(ix a0.Surges r2).bind fun x3=>
O (zM .i64 (r1+x3.Low))
def Lf(a0:X)(c0:Xb)(c1:X):W Y:=
(Ff c0 a0).bind fun r1=>
O (decide (c1≤r1))
def O6(a0:Xb)(a1:X):W (V X9):=
(DI a0).bind fun r1=>
if r1 then(
 (Oq (fun z0=>Lf z0 a0 a1)).bind fun r3=>
 O r3)
else(
 O ([]:V X9))
def O7(a0:X4)(a1:X)(a2:X8):W X:=
(D1 a0).bind fun r1=>
if r1 then(
 (Do a2).bind fun r3=>
 if r3 then(
 (B8 a1 (a0.Segments.length:X)).bind fun r5=>
 if r5 then(
  (ix a0.Segments a1).bind fun x7=>
  (Fl a2 x7).bind fun r9=>
  O r9)
 else(
  O (0:X)))
 else(
 O (0:X)))
else(
 O (0:X))
def Gh(a0:V X9):Z→X→W Y
| 0,_=>U
| n+1,v1=>
 if(decide (v1<(a0.length:X))) then(
 (ix a0 v1).bind fun x3=>
 if(decide (x3.From<(0:X))) then(
  O E)
 else(
  if(decide (x3.To<x3.From)) then(
  O E)
  else(
  if(decide ((2880:X)<x3.To)) then(
   O E)
  else(
   if(decide ((0:X)<v1)) then(
   (ix a0 (zM .i64 (v1 - (1:X)))).bind fun x8=>
   if(decide (x3.From≤(zM .i64 (x8.To+(1:X))))) then(
    O E)
   else(
    Gh a0 n (zM .i64 (v1+(1:X)))))
   else(
   Gh a0 n (zM .i64 (v1+(1:X))))))))
 else(
 O F)
def Jv(a0:V X9):W Y:=
Gh a0 bigN (0:X)
def Gf(a1:X)(a0:V X9):Z→X→(V X9)→W (V X9)
| 0,_,_=>U
| n+1,v5,v6=>
 if(decide (v5<(a0.length:X))) then(
 (ix a0 v5).bind fun x8=>
 if(decide (a1≤(zM .i64 (x8.To - x8.From)))) then(
  if A4 v6.length ([(⟨x8.From,(zM .i64 (x8.To - a1))⟩:X9)]:V X9).length 16 then(
  Gf a1 a0 n (zM .i64 (v5+(1:X))) (v6++([(⟨x8.From,(zM .i64 (x8.To - a1))⟩:X9)]:V X9)))
  else U)
 else(
  Gf a1 a0 n (zM .i64 (v5+(1:X))) v6))
 else(
 O v6)
def Lz(a0:V X9)(a1:X):W (V X9):=
(Jv a0).bind fun r1=>
if r1 then(
 (Cd a1).bind fun r3=>
 if r3 then(
 Gf a1 a0 bigN (0:X) ([]:V X9))
 else(
 O ([]:V X9)))
else(
 O ([]:V X9))
def Jt(a0:Xb)(a1:X4)(a2:X)(a3:X8):W (V X9):=
(DI a0).bind fun r1=>
if r1 then(
 (JH a1 a2 a3).bind fun r3=>
 if r3 then(
 (Le a1 a2 a3).bind fun r5=>
 (O6 a0 r5).bind fun r6=>
 (O7 a1 a2 a3).bind fun r7=>
 (Lz r6 r7).bind fun r9=>
 O r9)
 else(
 O ([]:V X9)))
else(
 O ([]:V X9))
def HX(a4:V X)(a0:Xb)(a1:X4)(a2:X8)(y11:V X)(y12:X):Z→X→(V Y)→(V X)→(V (V X9))→W (Xk × Y)
| 0,_,_,_,_=>U
| n+1,v13,v14,v15,v16=>
 if(decide (v13<y12)) then(
 (ix y11 v13).bind fun x18=>
 (ix a1.Points x18).bind fun x19=>
 if A4 v14.length ([x19.Wait]:V Y).length 1 then(
  (ix a4 v13).bind fun x21=>
  (ix a1.Segments x21).bind fun x22=>
  (Fl a2 x22).bind fun r23=>
  if A4 v15.length ([r23]:V X).length 8 then(
  (Jt a0 a1 x21 a2).bind fun r25=>
  if A4 v16.length ([r25]:V (V X9)).length 24 then(
   HX a4 a0 a1 a2 y11 y12 n (zM .i64 (v13+(1:X))) (v14++([x19.Wait]:V Y)) (v15++([r23]:V X)) (v16++([r25]:V (V X9))))
  else U)
  else U)
 else U)
 else(
 O ((⟨v14,v15,v16⟩:Xk),F))
def HW(a3:X)(a4:V X)(a0:Xb)(a1:X4)(a2:X8)(v7:Y):W (Xk × Y):=
if v7 then(
 O ((⟨([]:V Y),([]:V X),([]:V (V X9))⟩:Xk),E))
else(
 (E4 a1 a3 a4).bind fun r9=>
 (bnd (r9.length:X) (a4.length:X) (0:X) r9.length).bind fun p10=>
 HX a4 a0 a1 a2 ((r9.drop p10.1).take (p10.2 - p10.1)) (((r9.drop p10.1).take (p10.2 - p10.1)).length:X) bigN (0:X) ([]:V Y) ([]:V X) ([]:V (V X9)))
def M4(a0:Xb)(a1:X4)(a2:X8)(a3:X)(a4:V X):W (Xk × Y):=
(DI a0).bind fun r1=>
if r1 then(
 (Do a2).bind fun r3=>
 if r3 then(
 (HG a1 a3 a4).bind fun r5=>
 if r5 then(
  HW a3 a4 a0 a1 a2 ((a4.length:X)==(0:X)))
 else(
  HW a3 a4 a0 a1 a2 F))
 else(
 HW a3 a4 a0 a1 a2 F))
else(
 HW a3 a4 a0 a1 a2 F)
def Jy(a2:V X)(a0:X1)(a1:X3)(v4:Y):W (Xk × Y):=
if v4 then(
 O ((⟨([]:V Y),([]:V X),([]:V (V X9))⟩:Xk),E))
else(
 (ix a0.Fleet a1.Ship).bind fun x6=>
 (M4 a0.Forecast a0.Chart x6 a1.From a2).bind fun r7=>
 O (r7.1,r7.2))
def Gi(a0:X1)(a1:X3)(a2:V X):W (Xk × Y):=
(E4 a0.Chart a1.From a2).bind fun r1=>
if((r1.length:X)==(0:X)) then(
 Jy a2 a0 a1 F)
else(
 (ix r1 (zM .i64 ((r1.length:X) - (1:X)))).bind fun x3=>
 Jy a2 a0 a1 (x3 !=a1.To))
def Ht(a1:X)(a0:V X9):Z→X→W Y
| 0,_=>U
| n+1,v1=>
 if(decide (v1<(a0.length:X))) then(
 (ix a0 v1).bind fun x3=>
 (Bm a1 x3.From x3.To).bind fun r4=>
 if r4 then(
  O F)
 else(
  Ht a1 a0 n (zM .i64 (v1+(1:X)))))
 else(
 O E)
def O3(a0:V X9)(a1:X):W Y:=
Ht a1 a0 bigN (0:X)
def Hy(a1:X)(a0:V X9):Z→X→W X
| 0,_=>U
| n+1,v3=>
 if(decide (v3<(a0.length:X))) then(
 (ix a0 v3).bind fun x5=>
 if(decide (a1≤x5.To)) then(
  O (if x5.From<a1 then a1 else x5.From))
 else(
  Hy a1 a0 n (zM .i64 (v3+(1:X)))))
 else(
 O (-1:X))
def Lh(a0:V X9)(a1:X):W X:=
(Jv a0).bind fun r1=>
if r1 then(
 Hy a1 a0 bigN (0:X))
else(
 O (-1:X))
def Fv(v4 r10:X)(a0:Xk)(v5:V X)(Pe:X→(V X)→W ((V X) × Y))(v14:Y):W ((V X) × Y):=
if v14 then(
 O (([]:V X),E))
else(
 if A4 v5.length ([r10]:V X).length 8 then(
 Pe (zM .i64 (v4+(1:X))) (v5++([r10]:V X)))
 else U)
def EI(a0:Xk):Z→X→(V X)→W ((V X) × Y)
| 0,_,_=>U
| n+1,v4,v5=>
 if(decide (v4<(a0.sure.length:X))) then(
 (ix v5 (zM .i64 (v4 - (1:X)))).bind fun x7=>
 (ix a0.minutes (zM .i64 (v4 - (1:X)))).bind fun x8=>
 (ix a0.sure v4).bind fun x9=>
 (Lh x9 (zM .i64 (x7+x8))).bind fun r10=>
 if(decide (r10<(0:X))) then(
  Fv v4 r10 a0 v5 (EI a0 n) F)
 else(
  if(decide ((zM .i64 (x7+x8))<r10)) then(
  (ix a0.waits v4).bind fun x13=>
  Fv v4 r10 a0 v5 (EI a0 n) (!x13))
  else(
  Fv v4 r10 a0 v5 (EI a0 n) E)))
 else(
 O (v5,F))
def M5(a0:Xk)(a1:X):W ((V X) × Y):=
(ix a0.sure (0:X)).bind fun x1=>
(O3 x1 a1).bind fun r2=>
if r2 then(
 EI a0 bigN (1:X) ([a1]:V X))
else(
 O (([]:V X),E))
def HA(a1:X)(a5 a4:V X)(a0:X4)(a2:X8)(r6:(V X)):Z→X→(V X2)→W (V X2)
| 0,_,_=>U
| n+1,v7,v8=>
 if(decide (v7<(a4.length:X))) then(
 (ix a4 v7).bind fun x10=>
 (ix a5 v7).bind fun x11=>
 (Cd x11).bind fun r12=>
 if r12 then(
  (ix a0.Segments x10).bind fun x14=>
  (ix r6 v7).bind fun x15=>
  (Fl a2 x14).bind fun r16=>
  if A4 v8.length ([(⟨a1,x10,(x15==x14.A),x11,(zM .i64 (x11+r16))⟩:X2)]:V X2).length 40 then(
  HA a1 a5 a4 a0 a2 r6 n (zM .i64 (v7+(1:X))) (v8++([(⟨a1,x10,(x15==x14.A),x11,(zM .i64 (x11+r16))⟩:X2)]:V X2)))
  else U)
 else(
  O ([]:V X2)))
 else(
 O v8)
def Ln(a0:X4)(a1:X)(a2:X8)(a3:X)(a4 a5:V X):W (V X2):=
(HG a0 a3 a4).bind fun r1=>
if r1 then(
 (Do a2).bind fun r3=>
 if r3 then(
 if((a4.length:X) !=(a5.length:X)) then(
  O ([]:V X2))
 else(
  (E4 a0 a3 a4).bind fun r6=>
  HA a1 a5 a4 a0 a2 r6 bigN (0:X) ([]:V X2)))
 else(
 O ([]:V X2)))
else(
 O ([]:V X2))
def KV(a0:X4)(a1:X8)(a2 a3:V X):W X:=
(Fj a0 a2).bind fun r1=>
if(decide (r1<(0:X))) then(
 O (-1:X))
else(
 (Do a1).bind fun r3=>
 if r3 then(
 if((a2.length:X)==(0:X)) then(
  O (-1:X))
 else(
  if((a2.length:X) !=(a3.length:X)) then(
  O (-1:X))
  else(
  (ix a3 (zM .i64 ((a2.length:X) - (1:X)))).bind fun x7=>
  (Cd x7).bind fun r9=>
  if r9 then(
   (ix a2 (zM .i64 ((a2.length:X) - (1:X)))).bind fun x11=>
   (ix a0.Segments x11).bind fun x12=>
   (Fl a1 x12).bind fun r13=>
   O (zM .i64 (x7+r13)))
  else(
   O (-1:X)))))
 else(
 O (-1:X)))
def HS(a2:Xk)(a4 r5:X)(r4:(V X2)):Z→X→X→W (X0 × Y)
| 0,_,_=>U
| n+1,v6,v7=>
 if(decide (v6<(a2.minutes.length:X))) then(
 (ix a2.minutes v6).bind fun x9=>
 HS a2 a4 r5 r4 n (zM .i64 (v6+(1:X))) (zM .i64 (v7 - x9)))
 else(
 O ((⟨a4,r5,v7,r4⟩:X0),(decide (r5≤(2880:X)))))
def Fs(a0:X1)(a1:X3)(a2:Xk)(a3:V X)(a4:X):W (X0 × Y):=
(M5 a2 a4).bind fun r1=>
if r1.2 then(
 (ix a0.Fleet a1.Ship).bind fun x3=>
 (Ln a0.Chart a1.Ship x3 a1.From a3 r1.1).bind fun r4=>
 (KV a0.Chart x3 a3 r1.1).bind fun r5=>
 HS a2 a4 r5 r4 bigN (0:X) (zM .i64 (r5 - a1.Ready)))
else(
 O ((⟨(0:X),(0:X),(0:X),([]:V X2)⟩:X0),E))
def Jn(r3:(V X) × Y)(v7:X)(a0:X1)(a1:X3)(r4:Xk × Y)(Pb:X→(V X0)→W (V X0))(v14:V X0):W (V X0):=
Pb (zM .i64 (v7+(15:X))) v14
def Gb(r3:(V X) × Y)(a0:X1)(a1:X3)(r4:Xk × Y):Z→X→(V X0)→W (V X0)
| 0,_,_=>U
| n+1,v7,v8=>
 if(decide (v7≤a1.Due)) then(
 if(decide ((v8.length:X)<(8:X))) then(
  (Fs a0 a1 r4.1 r3.1 v7).bind fun r11=>
  if r11.2 then(
  if A4 v8.length ([r11.1]:V X0).length 48 then(
   Jn r3 v7 a0 a1 r4 (Gb r3 a0 a1 r4 n) (v8++([r11.1]:V X0)))
  else U)
  else(
  Jn r3 v7 a0 a1 r4 (Gb r3 a0 a1 r4 n) v8))
 else(
  O v8))
 else(
 O v8)
def Dl(a0:X1)(a1:X3):W (V X0):=
(Jb a0 a1).bind fun r1=>
if r1 then(
 (Ja a0.Chart a1.From a1.To).bind fun r3=>
 (Gi a0 a1 r3.1).bind fun r4=>
 if r3.2 then(
 if r4.2 then(
  Gb r3 a0 a1 r4 bigN a1.Ready ([]:V X0))
 else(
  O ([]:V X0)))
 else(
 O ([]:V X0)))
else(
 O ([]:V X0))
def HN(a1:V X3)(a0:X1):Z→X→(V (V X0))→W (V (V X0))
| 0,_,_=>U
| n+1,v1,v2=>
 if(decide (v1<(a1.length:X))) then(
 (ix a1 v1).bind fun x4=>
 (Dl a0 x4).bind fun r5=>
 if A4 v2.length ([r5]:V (V X0)).length 24 then(
  HN a1 a0 n (zM .i64 (v1+(1:X))) (v2++([r5]:V (V X0))))
 else U)
 else(
 O v2)
def Jw(a0:X1)(a1:V X3):W (V (V X0)):=
HN a1 a0 bigN (0:X) ([]:V (V X0))
def M6(a0 a1:Xi):W Y:=
if(decide (a0.i0<a1.i0)) then(
 O F)
else(
 if(a0.i0==a1.i0) then(
 O (decide (a0.i1<a1.i1)))
 else(
 O E))
def Lk(a0 a1:X2):W Y:=
O (decide ((if a0.Start<a1.Start then a1.Start else a0.Start)<(if a1.End<a0.End then a1.End else a0.End)))
def LZ(a0 a1 a2:X):W Y:=
O (decide ((IntKind.u64.wrap ((IntKind.u64.wrap (if a0<a1 then a1 else a0)) - (IntKind.u64.wrap (if a1<a0 then a1 else a0))))<(IntKind.u64.wrap a2)))
def JB(a2 a3:X2)(v22:Y):W X:=
if v22 then(
 O (3:X))
else(
 if(decide (a2.Start<a3.Start)) then(
 if(decide (a3.End<a2.End)) then(
  O (4:X))
 else(
  if(decide (a3.Start<a2.Start)) then(
  if(decide (a2.End<a3.End)) then(
   O (4:X))
  else(
   O (0:X)))
  else(
  O (0:X))))
 else(
 if(decide (a3.Start<a2.Start)) then(
  if(decide (a2.End<a3.End)) then(
  O (4:X))
  else(
  O (0:X)))
 else(
  O (0:X))))
def Gl(a1:Xm)(a2 a3:X2)(v15 v16:Y):W X:=
if v15 then(
 O (2:X))
else(
 if(a2.Toward==a3.Toward) then(
 (LZ a2.Start a3.Start a1.Gap).bind fun r19=>
 if r19 then(
  JB a2 a3 F)
 else(
  (LZ a2.End a3.End a1.Gap).bind fun r21=>
  JB a2 a3 r21))
 else(
 O (0:X)))
def JA(a0:X4)(a1:Xm)(a2 a3:X2)(v7:Y):W X:=
if v7 then(
 O (1:X))
else(
 if(a2.Ship==a3.Ship) then(
 O (0:X))
 else(
 if(a2.Toward==a3.Toward) then(
  Gl a1 a2 a3 E a1.NoMeet)
 else(
  (Lk a2 a3).bind fun r11=>
  if r11 then(
  if a1.NoMeet then(
   Gl a1 a2 a3 F F)
  else(
   (ix a0.Segments a2.Segment).bind fun x14=>
   Gl a1 a2 a3 (!x14.Meet) E))
  else(
  Gl a1 a2 a3 E a1.NoMeet))))
def Jz(a0:X4)(a1:Xm)(a2 a3:X2)(v3:Y):W X:=
if v3 then(
 O (0:X))
else(
 if(a2.Ship==a3.Ship) then(
 (Lk a2 a3).bind fun r6=>
 JA a0 a1 a2 a3 r6)
 else(
 JA a0 a1 a2 a3 E))
def LU(a0:X4)(a1:Xm)(a2 a3:X2):W X:=
if(a2.Segment !=a3.Segment) then(
 Jz a0 a1 a2 a3 F)
else(
 (B8 a2.Segment (a0.Segments.length:X)).bind fun r2=>
 Jz a0 a1 a2 a3 (!r2))
def HO(a3 a2:V X2)(v1:X)(a0:X4)(a1:Xm)(x3:X2)(MC:X→W Y):Z→X→W Y
| 0,_=>U
| n+1,v4=>
 if(decide (v4<(a3.length:X))) then(
 (ix a3 v4).bind fun x6=>
 (LU a0 a1 x3 x6).bind fun r7=>
 if(r7 !=(0:X)) then(
  O F)
 else(
  HO a3 a2 v1 a0 a1 x3 MC n (zM .i64 (v4+(1:X)))))
 else(
 MC (zM .i64 (v1+(1:X))))
def Gk(a3 a2:V X2)(a0:X4)(a1:Xm):Z→X→W Y
| 0,_=>U
| n+1,v1=>
 if(decide (v1<(a2.length:X))) then(
 (ix a2 v1).bind fun x3=>
 HO a3 a2 v1 a0 a1 x3 (Gk a3 a2 a0 a1 n) bigN (0:X))
 else(
 O E)
def Gj(a0:X4)(a1:Xm)(a2 a3:V X2):W Y:=
Gk a3 a2 a0 a1 bigN (0:X)
def EC(a0:V X0):W (V X0):=
(B2 (0:X) (a0.length:X) 48).bind fun n1=>
if A4 (zD n1 (⟨(0:X),(0:X),(0:X),([]:V X2)⟩:X0)).length a0.length 48 then(
 O ((zD n1 (⟨(0:X),(0:X),(0:X),([]:V X2)⟩:X0))++a0))
else U
def Gc(a0:X2)(a1:X4):W (X × X):=
(ix a1.Segments a0.Segment).bind fun x1=>
if a0.Toward then(
 O (x1.A,x1.B))
else(
 O (x1.B,x1.A))
def HR(a0:X4)(a1 a2:X2):W Xd:=
(Gc a1 a0).bind fun r1=>
(Gc a2 a0).bind fun r2=>
O (⟨a1.Start,a2.End,r1.1,r2.2⟩:Xd)
def M1(a0:X4)(a1:V X8)(a2:X2):W Y:=
(B8 a2.Ship (a1.length:X)).bind fun r1=>
if r1 then(
 (B8 a2.Segment (a0.Segments.length:X)).bind fun r3=>
 if r3 then(
 (Cd a2.Start).bind fun r5=>
 if r5 then(
  if(decide ((2880:X)<a2.End)) then(
  O E)
  else(
  (ix a1 a2.Ship).bind fun x8=>
  (ix a0.Segments a2.Segment).bind fun x9=>
  (Fl x8 x9).bind fun r10=>
  O (a2.End==(zM .i64 (a2.Start+r10)))))
 else(
  O E))
 else(
 O E))
else(
 O E)
def Jo(a0:X4)(a1:V X8)(a2:X2):W Y:=
(D1 a0).bind fun r1=>
if r1 then(
 (Jj a1).bind fun r3=>
 if r3 then(
 (M1 a0 a1 a2).bind fun r5=>
 O r5)
 else(
 O E))
else(
 O E)
def Fu(a1:V X8)(a2:V X2)(v1:X)(x7:X8)(a0:X4)(x4:X2)(MG:X→(V Xd)→W ((V Xd) × Y)):Z→X→(V Xd)→W ((V Xd) × Y)
| 0,_,_=>U
| n+1,v8,v9=>
 if(decide (v8<x7.Tugs)) then(
 (HR a0 x4 x4).bind fun r11=>
 if A4 v9.length ([r11]:V Xd).length 32 then(
  Fu a1 a2 v1 x7 a0 x4 MG n (zM .i64 (v8+(1:X))) (v9++([r11]:V Xd)))
 else U)
 else(
 if(decide ((12:X)<(v9.length:X))) then(
  O (([]:V Xd),E))
 else(
  MG (zM .i64 (v1+(1:X))) v9))
def D2(a1:V X8)(a2:V X2)(a0:X4):Z→X→(V Xd)→W ((V Xd) × Y)
| 0,_,_=>U
| n+1,v1,v2=>
 if(decide (v1<(a2.length:X))) then(
 (ix a2 v1).bind fun x4=>
 (Jo a0 a1 x4).bind fun r5=>
 if r5 then(
  (ix a1 x4.Ship).bind fun x7=>
  Fu a1 a2 v1 x7 a0 x4 (D2 a1 a2 a0 n) bigN (0:X) v2)
 else(
  O (([]:V Xd),E)))
 else(
 O (v2,F))
def Gv(a0:X4)(a1:V X8)(a2:V X2):W ((V Xd) × Y):=
D2 a1 a2 a0 bigN (0:X) ([]:V Xd)
def Ho(a0:V Xd):Z→X→W Y
| 0,_=>U
| n+1,v2=>
 if(decide (v2<(a0.length:X))) then(
 (ix a0 v2).bind fun x4=>
 if(decide (x4.From<(0:X))) then(
  O E)
 else(
  if(decide (x4.To≤x4.From)) then(
  O E)
  else(
  if(decide ((2880:X)<x4.To)) then(
   O E)
  else(
   (B8 x4.A (8:X)).bind fun r9=>
   if r9 then(
   (B8 x4.B (8:X)).bind fun r11=>
   if r11 then(
    Ho a0 n (zM .i64 (v2+(1:X))))
   else(
    O E))
   else(
   O E)))))
 else(
 O F)
def Hn(a0:V Xd):W Y:=
if(decide ((12:X)<(a0.length:X))) then(
 O E)
else(
 Ho a0 bigN (0:X))
def HP(a0:X)(a1:V X)(a2:V Xd):W Y:=
(Hn a2).bind fun r1=>
if r1 then(
 (Cd a0).bind fun r3=>
 if r3 then(
 (Gq a1).bind fun r5=>
 O r5)
 else(
 O E))
else(
 O E)
def Hr(a0:X)(a1:V X)(a2 a3:Xd)(v8:Y):W (X × Y):=
if v8 then(
 O ((0:X),E))
else(
 (ix a1 (zM .i64 ((zM .i64 ((8:X)*a2.B))+a3.A))).bind fun x10=>
 O ((zM .i64 (a0+x10)),F))
def O2(a0:X)(a1:V X)(a2 a3:Xd):W (X × Y):=
(Cd a0).bind fun r1=>
if r1 then(
 (Gq a1).bind fun r3=>
 if r3 then(
 (B8 a2.B (8:X)).bind fun r5=>
 if r5 then(
  (B8 a3.A (8:X)).bind fun r7=>
  Hr a0 a1 a2 a3 (!r7))
 else(
  Hr a0 a1 a2 a3 F))
 else(
 Hr a0 a1 a2 a3 F))
else(
 Hr a0 a1 a2 a3 F)
def Jc(a0:X)(a1:V X)(a2 a3:Xd):W Y:=
(O2 a0 a1 a2 a3).bind fun r1=>
if r1.2 then(
 (Hn ([a2]:V Xd)).bind fun r3=>
 if r3 then(
 (Hn ([a3]:V Xd)).bind fun r5=>
 if r5 then(
  O (decide ((zM .i64 (a2.To+r1.1))≤a3.From)))
 else(
  O E))
 else(
 O E))
else(
 O E)
def HT(a0:X)(a1:V X)(a2:V Xd)(v2 v6:X)(x5:Xd)(v7:V X)(MD:X→(V X)→W (V X))(v14:Y):W (V X):=
if v14 then(
 (ix v7 v2).bind fun x16=>
 if decide (v6<0) then U else
 MD (zM .i64 (v6+(1:X))) (v7.set (zE v2) (AM .or .u64 x16 (Bi .u64 (1:X) v6))))
else(
 MD (zM .i64 (v6+(1:X))) v7)
def E8(a0:X)(a1:V X)(a2:V Xd)(v2:X)(x5:Xd)(Ij:X→(V X)→W (V X)):Z→X→(V X)→W (V X)
| 0,_,_=>U
| n+1,v6,v7=>
 if(decide (v6<(a2.length:X))) then(
 (ix a2 v6).bind fun x9=>
 if(v2 !=v6) then(
  (Jc a0 a1 x5 x9).bind fun r11=>
  if r11 then(
  HT a0 a1 a2 v2 v6 x5 v7 (E8 a0 a1 a2 v2 x5 Ij n) F)
  else(
  (Jc a0 a1 x9 x5).bind fun r13=>
  HT a0 a1 a2 v2 v6 x5 v7 (E8 a0 a1 a2 v2 x5 Ij n) r13))
 else(
  HT a0 a1 a2 v2 v6 x5 v7 (E8 a0 a1 a2 v2 x5 Ij n) E))
 else(
 Ij (zM .i64 (v2+(1:X))) v7)
def Ft(a0:X)(a1:V X)(a2:V Xd):Z→X→(V X)→W (V X)
| 0,_,_=>U
| n+1,v2,v3=>
 if(decide (v2<(a2.length:X))) then(
 (ix a2 v2).bind fun x5=>
 E8 a0 a1 a2 v2 x5 (Ft a0 a1 a2 n) bigN (0:X) v3)
 else(
 O v3)
def M0(a0:X)(a1:V X)(a2:V Xd):W (V X):=
(B2 (a2.length:X) (a2.length:X) 8).bind fun n1=>
Ft a0 a1 a2 bigN (0:X) (zD n1 (0:X))
def JL(v8 v9:X):W X:=
(ix ([0,1,2,2,3,3,3,3,4,4,4,4,4,4,4,4,5,5,5,5,5,5,5,5,5,5,5,5,5,5,5,5,6,6,6,6,6,6,6,6,6,6,6,6,6,6,6,6,6,6,6,6,6,6,6,6,6,6,6,6,6,6,6,6,7,7,7,7,7,7,7,7,7,7,7,7,7,7,7,7,7,7,7,7,7,7,7,7,7,7,7,7,7,7,7,7,7,7,7,7,7,7,7,7,7,7,7,7,7,7,7,7,7,7,7,7,7,7,7,7,7,7,7,7,7,7,7,7,8,8,8,8,8,8,8,8,8,8,8,8,8,8,8,8,8,8,8,8,8,8,8,8,8,8,8,8,8,8,8,8,8,8,8,8,8,8,8,8,8,8,8,8,8,8,8,8,8,8,8,8,8,8,8,8,8,8,8,8,8,8,8,8,8,8,8,8,8,8,8,8,8,8,8,8,8,8,8,8,8,8,8,8,8,8,8,8,8,8,8,8,8,8,8,8,8,8,8,8,8,8,8,8,8,8,8,8,8,8,8,8,8,8,8,8,8,8,8,8,8,8,8,8,8,8,8,8]:V zA) (IntKind.u8.wrap v8)).bind fun b10=>
O (zM .i64 (v9+(zM .i64 (b10.toNat:X))))
def M9(v5 v6:X):W X:=
if(decide ((256:X)≤v5)) then(
 JL (Bf .u64 v5 8) (zM .i64 (v6+(8:X))))
else(
 JL v5 v6)
def M8(v2 v3:X):W X:=
if(decide ((65536:X)≤v2)) then(
 M9 (Bf .u64 v2 16) (zM .i64 (v3+(16:X))))
else(
 M9 v2 v3)
def Ou(a0:X):W X:=
if(decide ((4294967296:X)≤a0)) then(
 M8 (Bf .u64 a0 32) (32:X))
else(
 M8 a0 (0:X))
def JK(a0:X):W X:=
(Ou a0).bind fun r1=>
O r1
def JG(a0:V X)(y5 v6:X)(v17 v18 v21:X)(v19:V Y)(Co:X→(V Y)→(V X)→W X)(Pd:X→(V X)→W X)(v28:V X):W X:=
if(v21==(0:X)) then(
 Co (zM .i64 (v6+(1:X))) v19 v28)
else(
 Pd (AM .and .i64 (zM .i64 (v21 - (1:X))) v18) v28)
def Gp(a0:V X)(y5 v6:X)(v17 v18:X)(v19:V Y)(Co:X→(V Y)→(V X)→W X):Z→X→(V X)→W X
| 0,_,_=>U
| n+1,v21,v22=>
 if decide (v17<0) then U else
 (ix v19 (AM .or .i64 v21 (Bi .i64 (1:X) v17))).bind fun x24=>
 if x24 then(
 (ix v22 v6).bind fun x26=>
 (ix v22 (AM .andNot .i64 v18 v21)).bind fun x27=>
 JG a0 y5 v6 v17 v18 v21 v19 Co (Gp a0 y5 v6 v17 v18 v19 Co n) (v22.set (zE v6) (if(zM .i64 ((1:X)+x27))<x26 then(zM .i64 ((1:X)+x27)) else x26)))
 else(
 JG a0 y5 v6 v17 v18 v21 v19 Co (Gp a0 y5 v6 v17 v18 v19 Co n) v22)
def JF(a0:V X)(y5 v6:X)(v8:V X)(Co:X→(V Y)→(V X)→W X)(v17 v18:X)(v19:V Y):W X:=
(ix v8 v6).bind fun x20=>
Gp a0 y5 v6 v17 v18 v19 Co bigN v18 (v8.set (zE v6) (a0.length:X))
def EG(a0:V X)(y5:X):Z→X→(V Y)→(V X)→W X
| 0,_,_,_=>U
| n+1,v6,v7,v8=>
 if(decide (v6<y5)) then(
 (JK (IntKind.u64.wrap v6)).bind fun r10=>
 if decide ((zM .i64 (r10 - (1:X)))<0) then U else
 (ix v7 (AM .andNot .i64 v6 (Bi .i64 (1:X) (zM .i64 (r10 - (1:X)))))).bind fun x12=>
 if x12 then(
  (ix a0 (zM .i64 (r10 - (1:X)))).bind fun x14=>
  (ix v7 v6).bind fun x15=>
  JF a0 y5 v6 v8 (EG a0 y5 n) (zM .i64 (r10 - (1:X))) (AM .andNot .i64 v6 (Bi .i64 (1:X) (zM .i64 (r10 - (1:X))))) (v7.set (zE v6) ((AM .andNot .u64 (IntKind.u64.wrap (AM .andNot .i64 v6 (Bi .i64 (1:X) (zM .i64 (r10 - (1:X)))))) x14)==(0:X))))
 else(
  (ix v7 v6).bind fun x16=>
  JF a0 y5 v6 v8 (EG a0 y5 n) (zM .i64 (r10 - (1:X))) (AM .andNot .i64 v6 (Bi .i64 (1:X) (zM .i64 (r10 - (1:X))))) (v7.set (zE v6) E)))
 else(
 (ix v8 (zM .i64 (y5 - (1:X)))).bind fun x30=>
 O x30)
def LX(a0:V X):W X:=
if decide ((a0.length:X)<0) then U else
(B2 (Bi .i64 (1:X) (a0.length:X)) (Bi .i64 (1:X) (a0.length:X)) 1).bind fun n2=>
(B2 (Bi .i64 (1:X) (a0.length:X)) (Bi .i64 (1:X) (a0.length:X)) 8).bind fun n3=>
(ix (zD n2 E) (0:X)).bind fun x4=>
EG a0 (Bi .i64 (1:X) (a0.length:X)) bigN (1:X) ((zD n2 E).set (zE (0:X)) F) (zD n3 (0:X))
def HQ(rec_:Xh→W (Y × Xh))(a0:Xh)(v2:X)(EN:X→(V X)→X→(V X)→(V X)→W (Y × Xh))(v22:V X)(v23:X)(v24 v25:V X):W (Y × Xh):=
(ix v24 v2).bind fun x26=>
if(x26==(0:X)) then(
 (bnd (v24.length:X) v2 0 v24.length).bind fun p28=>
 O (E,(⟨v22,v23,(v24.take p28.2),v25⟩:Xh)))
else(
 EN (zM .i64 (v2+(1:X))) v22 v23 v24 v25)
def JD(rec_:Xh→W (Y × Xh))(a0:Xh)(v2:X)(v3:V X)(v4:X)(v6:V X)(EN:X→(V X)→X→(V X)→(V X)→W (Y × Xh))(v11:V X):W (Y × Xh):=
(ix v11 v2).bind fun x12=>
(ix v3 (a0.who.length:X)).bind fun x13=>
if((AM .andNot .u64 x12 x13)==(0:X)) then(
 if decide ((a0.who.length:X)<0) then U else
 if A4 v6.length ([v2]:V X).length 8 then(
 (rec_ (⟨v3,v4,(v11.set (zE v2) (AM .or .u64 x12 (Bi .u64 (1:X) (a0.who.length:X)))),(v6++([v2]:V X))⟩:Xh)).bind fun r17=>
 if r17.1 then(
  O (F,r17.2))
 else(
  (bnd (r17.2.who.length:X) (a0.who.length:X) 0 r17.2.who.length).bind fun p19=>
  (ix r17.2.groups v2).bind fun x20=>
  if decide ((a0.who.length:X)<0) then U else
  HQ rec_ a0 v2 EN r17.2.sets r17.2.most (r17.2.groups.set (zE v2) (AM .andNot .u64 x20 (Bi .u64 (1:X) (a0.who.length:X)))) (r17.2.who.take p19.2)))
 else U)
else(
 HQ rec_ a0 v2 EN v3 v4 v11 v6)
def Fp(rec_:Xh→W (Y × Xh))(a0:Xh):Z→X→(V X)→X→(V X)→(V X)→W (Y × Xh)
| 0,_,_,_,_,_=>U
| n+1,v2,v3,v4,v5,v6=>
 if(decide (v2≤(v5.length:X))) then(
 if(decide (v2<v4)) then(
  if(v2==(v5.length:X)) then(
  if A4 v5.length ([(0:X)]:V X).length 8 then(
   JD rec_ a0 v2 v3 v4 v6 (Fp rec_ a0 n) (v5++([(0:X)]:V X)))
  else U)
  else(
  JD rec_ a0 v2 v3 v4 v6 (Fp rec_ a0 n) v5))
 else(
  O (E,(⟨v3,v4,v5,v6⟩:Xh))))
 else(
 O (E,(⟨v3,v4,v5,v6⟩:Xh)))
def LV(rec_:Xh→W (Y × Xh))(a0:Xh):W (Y × Xh):=
if((a0.who.length:X)==(a0.sets.length:X)) then(
 O (F,a0))
else(
 Fp rec_ a0 bigN (0:X) a0.sets a0.most a0.groups a0.who)
def E6:Z→Xh→W (Y × Xh)
| 0,_=>U
| n+1,a0=>LV (E6 n) a0
def Oi(a0:Xh):W (Y × Xh):=E6 bigN a0
def E3(a0:X)(a1:V X)(a2:V Xd):W ((V X) × X × Y):=
(HP a0 a1 a2).bind fun r1=>
if r1 then(
 (M0 a0 a1 a2).bind fun r3=>
 (LX r3).bind fun r4=>
 (Oi (⟨r3,r4,([]:V X),([]:V X)⟩:Xh)).bind fun r5=>
 O (r5.2.who,r5.2.most,F))
else(
 O (([]:V X),(0:X),E))
def ED(a0:X)(a1:V X)(a2:V Xd)(a3:X):W Y:=
if(decide ((a2.length:X)≤a3)) then(
 O F)
else(
 (E3 a0 a1 a2).bind fun r2=>
 O (decide (r2.2.1≤a3)))
def E7(a1:V X0)(a0:X1):Z→X→(V X2)→(V Xd)→W Y
| 0,_,_,_=>U
| n+1,v1,v2,v3=>
 if(decide (v1<(a1.length:X))) then(
 (ix a1 v1).bind fun x5=>
 if A4 v2.length x5.Passages.length 40 then(
  if(decide ((0:X)<(x5.Passages.length:X))) then(
  (ix x5.Passages (0:X)).bind fun x8=>
  (ix x5.Passages (zM .i64 ((x5.Passages.length:X) - (1:X)))).bind fun x9=>
  (HR a0.Chart x8 x9).bind fun r10=>
  if A4 v3.length ([r10]:V Xd).length 32 then(
   E7 a1 a0 n (zM .i64 (v1+(1:X))) (v2++x5.Passages) (v3++([r10]:V Xd)))
  else U)
  else(
  E7 a1 a0 n (zM .i64 (v1+(1:X))) (v2++x5.Passages) v3))
 else U)
 else(
 (Gv a0.Chart a0.Fleet v2).bind fun r12=>
 if r12.2 then(
  (ED (0:X) a0.Crew.Moves r12.1 a0.Crew.Tugs).bind fun r14=>
  if r14 then(
  (ED a0.Crew.Rest a0.Crew.Moves v3 a0.Crew.Pilots).bind fun r16=>
  O r16)
  else(
  O E))
 else(
  O E))
def EE(a0:X1)(a1:V X0):W Y:=
E7 a1 a0 bigN (0:X) ([]:V X2) ([]:V Xd)
def EF(a1:V X0)(a0:X1)(a2:X0):Z→X→W Y
| 0,_=>U
| n+1,v1=>
 if(decide (v1<(a1.length:X))) then(
 (ix a1 v1).bind fun x3=>
 (Gj a0.Chart a0.Regime x3.Passages a2.Passages).bind fun r4=>
 if r4 then(
  O E)
 else(
  EF a1 a0 a2 n (zM .i64 (v1+(1:X)))))
 else(
 (EC a1).bind fun r6=>
 if A4 r6.length ([a2]:V X0).length 48 then(
  (EE a0 (r6++([a2]:V X0))).bind fun r9=>
  O r9)
 else U)
def Fq(a0:X1)(a1:V X0)(a2:X0):W Y:=
EF a1 a0 a2 bigN (0:X)
def Gt(w0:(V X0)→W Xi)(rec_:Xe→W Xe)(a0:Xe)(x8:V X0):Z→X→X1→(V (V X0))→X→X→Y→(V X0)→(V X)→(V X)→W Xe
| 0,_,_,_,_,_,_,_,_,_=>U
| n+1,v9,v10,v11,v12,v13,v14,v15,v16,v17=>
 if(decide (v9<(x8.length:X))) then(
 (ix x8 v9).bind fun x19=>
 (Fq v10 v15 x19).bind fun r20=>
 if r20 then(
  if A4 v15.length ([x19]:V X0).length 48 then(
  if A4 v16.length ([v9]:V X).length 8 then(
   (rec_ (⟨v10,v11,(v15++([x19]:V X0)),(v16++([v9]:V X)),v17,(⟨v12,v13⟩:Xi),v14⟩:Xe)).bind fun r24=>
   (bnd (r24.plan.length:X) (a0.plan.length:X) 0 r24.plan.length).bind fun p25=>
   (bnd (r24.choice.length:X) (a0.plan.length:X) 0 r24.choice.length).bind fun p26=>
   Gt w0 rec_ a0 x8 n (zM .i64 (v9+(1:X))) r24.h r24.choices r24.least.i0 r24.least.i1 r24.found (r24.plan.take p25.2) (r24.choice.take p26.2) r24.best)
  else U)
  else U)
 else(
  Gt w0 rec_ a0 x8 n (zM .i64 (v9+(1:X))) v10 v11 v12 v13 v14 v15 v16 v17))
 else(
 O (⟨v10,v11,v15,v16,v17,(⟨v12,v13⟩:Xi),v14⟩:Xe))
def Gs(w0:(V X0)→W Xi)(rec_:Xe→W Xe)(a0:Xe)(r1:Xi)(v5:Y):W Xe:=
if((a0.plan.length:X)==(a0.choices.length:X)) then(
 (Bl a0.choice).bind fun r7=>
 O (⟨a0.h,a0.choices,a0.plan,a0.choice,r7,r1,F⟩:Xe))
else(
 (ix a0.choices (a0.plan.length:X)).bind fun x8=>
 Gt w0 rec_ a0 x8 bigN (0:X) a0.h a0.choices a0.least.i0 a0.least.i1 v5 a0.plan a0.choice a0.best)
def M2(w0:(V X0)→W Xi)(rec_:Xe→W Xe)(a0:Xe):W Xe:=
(w0 a0.plan).bind fun r1=>
if a0.found then(
 (M6 r1 a0.least).bind fun r3=>
 if r3 then(
 Gs w0 rec_ a0 r1 F)
 else(
 O (⟨a0.h,a0.choices,a0.plan,a0.choice,a0.best,a0.least,F⟩:Xe)))
else(
 Gs w0 rec_ a0 r1 E)
def E9(w0:(V X0)→W Xi):Z→Xe→W Xe
| 0,_=>U
| n+1,a0=>M2 w0 (E9 w0 n) a0
def QP(w0:(V X0)→W Xi)(a0:Xe):W Xe:=E9 w0 bigN a0
def LY(a0:X1)(a1:V (V X0))(a2:(V X0)→W Xi):W ((V X) × Xi × Y):=
(QP a2 (⟨a0,a1,([]:V X0),([]:V X),([]:V X),(⟨(0:X),(0:X)⟩:Xi),E⟩:Xe)).bind fun r1=>
O (r1.best,r1.least,r1.found)
def Hj(a0:V X0):Z→X→X→W X
| 0,_,_=>U
| n+1,v1,v2=>
 if(decide (v2<(a0.length:X))) then(
 (ix a0 v2).bind fun x4=>
 Hj a0 n (zM .i64 (v1+x4.Cost)) (zM .i64 (v2+(1:X))))
 else(
 O v1)
def O0(a0:V X0):W X:=
Hj a0 bigN (0:X) (0:X)
def LK(a0:V X0):W Xi:=
(O0 a0).bind fun r1=>
O (⟨r1,(0:X)⟩:Xi)
def G1(a0:X1)(a1:V X3):W ((V X) × X × Y):=
(BR a0 a1).bind fun r1=>
if r1 then(
 (Jw a0 a1).bind fun r3=>
 (LY a0 r3 (fun z0=>LK z0)).bind fun r4=>
 O (r4.1,r4.2.1.i0,r4.2.2))
else(
 O (([]:V X),(0:X),E))
def Hx(a1:V X):Z→X→W Y
| 0,_=>U
| n+1,v2=>
 if(decide (v2<(a1.length:X))) then(
 (ix a1 v2).bind fun x4=>
 (B8 x4 (a1.length:X)).bind fun r5=>
 if r5 then(
  (ix a1 x4).bind fun x7=>
  if(x7 !=v2) then(
  O E)
  else(
  Hx a1 n (zM .i64 (v2+(1:X)))))
 else(
  O E))
 else(
 O F)
def Lg(a0:V X3)(a1:V X):W Y:=
if((a1.length:X) !=(a0.length:X)) then(
 O E)
else(
 Hx a1 bigN (0:X))
def Jd(a0:V X0)(v1 v2:X)(Mz:X→X→W X)(v7:Y):W X:=
if v7 then(
 Mz v2 (zM .i64 (v2+(1:X))))
else(
 Mz v1 (zM .i64 (v2+(1:X))))
def Fb(a0:V X0):Z→X→X→W X
| 0,_,_=>U
| n+1,v1,v2=>
 if(decide (v2<(a0.length:X))) then(
 (ix a0 v2).bind fun x4=>
 if(decide (v1<(0:X))) then(
  Jd a0 v1 v2 (Fb a0 n) F)
 else(
  (ix a0 v1).bind fun x6=>
  Jd a0 v1 v2 (Fb a0 n) (decide (x4.Cost<x6.Cost))))
 else(
 O v1)
def NR(a0:V X0):W X:=
Fb a0 bigN (-1:X) (0:X)
def L6(a0:X1)(a1:X3):W X:=
(Dl a0 a1).bind fun r1=>
if((r1.length:X)==(0:X)) then(
 O (-1:X))
else(
 (NR r1).bind fun r3=>
 (ix r1 r3).bind fun x4=>
 O x4.Cost)
def Hz(v7:X)(r1:(V X0))(v3:X)(r6:(V X0))(v8:X)(a0:X1)(a2:X3)(x5:X0)(MA:X→X→W X)(v15:X)(v16:Y):W X:=
if v16 then(
 MA v15 (zM .i64 (v8+(1:X))))
else(
 MA v7 (zM .i64 (v8+(1:X))))
def Ey(r1:(V X0))(v3:X)(r6:(V X0))(a0:X1)(a2:X3)(x5:X0)(Ii:X→X→W X):Z→X→X→W X
| 0,_,_=>U
| n+1,v7,v8=>
 if(decide (v8<(r6.length:X))) then(
 (ix r6 v8).bind fun x10=>
 if(decide (v7<(0:X))) then(
  (Gj a0.Chart a0.Regime x5.Passages x10.Passages).bind fun r12=>
  Hz v7 r1 v3 r6 v8 a0 a2 x5 (Ey r1 v3 r6 a0 a2 x5 Ii n) (zM .i64 (x5.Cost+x10.Cost)) (!r12))
 else(
  if(decide ((zM .i64 (x5.Cost+x10.Cost))<v7)) then(
  (Gj a0.Chart a0.Regime x5.Passages x10.Passages).bind fun r14=>
  Hz v7 r1 v3 r6 v8 a0 a2 x5 (Ey r1 v3 r6 a0 a2 x5 Ii n) (zM .i64 (x5.Cost+x10.Cost)) (!r14))
  else(
  Hz v7 r1 v3 r6 v8 a0 a2 x5 (Ey r1 v3 r6 a0 a2 x5 Ii n) (zM .i64 (x5.Cost+x10.Cost)) E)))
 else(
 Ii v7 (zM .i64 (v3+(1:X))))
def Fh(r1:(V X0))(a0:X1)(a2:X3):Z→X→X→W X
| 0,_,_=>U
| n+1,v2,v3=>
 if(decide (v3<(r1.length:X))) then(
 (ix r1 v3).bind fun x5=>
 (Dl a0 a2).bind fun r6=>
 Ey r1 v3 r6 a0 a2 x5 (Fh r1 a0 a2 n) bigN v2 (0:X))
 else(
 O v2)
def Ll(a0:X1)(a1 a2:X3):W X:=
(Dl a0 a1).bind fun r1=>
Fh r1 a0 a2 bigN (-1:X) (0:X)
def Ha(a1:V X3)(v6:X)(a2:V X)(v7:X)(a0:X1)(P9:X→X→W (X × Y))(v17:X):W (X × Y):=
if(decide (v17<(0:X))) then(
 O ((0:X),E))
else(
 P9 (zM .i64 (v6+v17)) (zM .i64 (v7+(1:X))))
def Et(a1:V X3)(a2:V X)(a0:X1):Z→X→X→W (X × Y)
| 0,_,_=>U
| n+1,v6,v7=>
 if(decide (v7<(a2.length:X))) then(
 (ix a2 v7).bind fun x9=>
 if(x9==v7) then(
  (ix a1 v7).bind fun x11=>
  (L6 a0 x11).bind fun r12=>
  Ha a1 v6 a2 v7 a0 (Et a1 a2 a0 n) r12)
 else(
  if(decide (v7<x9)) then(
  (ix a1 v7).bind fun x14=>
  (ix a1 x9).bind fun x15=>
  (Ll a0 x14 x15).bind fun r16=>
  Ha a1 v6 a2 v7 a0 (Et a1 a2 a0 n) r16)
  else(
  Ha a1 v6 a2 v7 a0 (Et a1 a2 a0 n) (0:X))))
 else(
 O (v6,F))
def KZ(a1:V X3)(a2:V X)(a0:X1)(v4:Y):W (X × Y):=
if v4 then(
 O ((0:X),E))
else(
 Et a1 a2 a0 bigN (0:X) (0:X))
def KY(a0:X1)(a1:V X3)(a2:V X):W (X × Y):=
(BR a0 a1).bind fun r1=>
if r1 then(
 (Lg a1 a2).bind fun r3=>
 KZ a1 a2 a0 (!r3))
else(
 KZ a1 a2 a0 F)
def Of(a0:X1)(a1:V X3)(m:V X)(f:Y)(k:X)(b:V X):W (Y × X × V X):=
(KY a0 a1 m).bind fun r1=>
if r1.2 then(
 if f then(
 if(decide (k<r1.1)) then(
  (Bl m).bind fun r2=>
  O (F,r1.1,r2))
 else(
  O (f,k,b)))
 else(
 (Bl m).bind fun r2=>
 O (F,r1.1,r2)))
else(
 O (f,k,b))
def EB(rec_:V X→Y→X→V X→W (V X × Y × X × V X))(i:X):Z→X→V X→Y→X→V X→W (V X × Y × X × V X)
| 0,_,_,_,_,_=>U
| n+1,v,m,f,k,b=>
 if(decide (v<(m.length:X))) then(
 (ix m v).bind fun x1=>
 if(decide (x1<(0:X))) then(
  (ix m i).bind fun x2=>
  (ix (m.set (zE i) v) v).bind fun x3=>
  (rec_ ((m.set (zE i) v).set (zE v) i) f k b).bind fun r4=>
  (ix r4.1 i).bind fun x5=>
  (ix (r4.1.set (zE i) (-1:X)) v).bind fun x6=>
  EB rec_ i n (zM .i64 (v+(1:X))) ((r4.1.set (zE i) (-1:X)).set (zE v) (-1:X)) r4.2.1 r4.2.2.1 r4.2.2.2)
 else(
  EB rec_ i n (zM .i64 (v+(1:X))) m f k b))
 else(
 O (m,f,k,b))
def Fm(rec_:V X→Y→X→V X→W (V X × Y × X × V X))(a0:X1)(a1:V X3)(m:V X)(f:Y)(k:X)(b:V X)(v:X):W (V X × Y × X × V X):=
if(v==(m.length:X)) then(
 (Of a0 a1 m f k b).bind fun r1=>
 O (m,r1.1,r1.2.1,r1.2.2))
else(
 EB rec_ v bigN v m f k b)
def EA(rec_:V X→Y→X→V X→W (V X × Y × X × V X))(a0:X1)(a1:V X3)(m:V X)(f:Y)(k:X)(b:V X):Z→X→W (V X × Y × X × V X)
| 0,_=>U
| n+1,v=>
 if(decide (v<(m.length:X))) then(
 (ix m v).bind fun x1=>
 if(decide ((0:X)≤x1)) then(
  EA rec_ a0 a1 m f k b n (zM .i64 (v+(1:X))))
 else(
  Fm rec_ a0 a1 m f k b v))
 else(
 Fm rec_ a0 a1 m f k b v)
def Fo(a0:X1)(a1:V X3):Z→V X→Y→X→V X→W (V X × Y × X × V X)
| 0,_,_,_,_=>U
| n+1,m,f,k,b=>EA (Fo a0 a1 n) a0 a1 m f k b bigN (0:X)
def Oe(a0:X1)(a1:V X3)(m:V X)(f:Y)(k:X)(b:V X):W (V X × Y × X × V X):=Fo a0 a1 bigN m f k b
def H9(a0:X1)(a1:V X3)(y4:X):Z→X→(V X)→W ((V X) × X × Y)
| 0,_,_=>U
| n+1,v5,v6=>
 if(decide (v5<y4)) then(
 (ix v6 v5).bind fun x8=>
 H9 a0 a1 y4 n (zM .i64 (v5+(1:X))) (v6.set (zE v5) (-1:X)))
 else(
 (Oe a0 a1 v6 E (0:X) ([]:V X)).bind fun r9=>
 O (r9.2.2.2,r9.2.2.1,r9.2.1))
def KW(a0:X1)(a1:V X3):W ((V X) × X × Y):=
(BR a0 a1).bind fun r1=>
if r1 then(
 (B2 (a1.length:X) (a1.length:X) 8).bind fun n3=>
 H9 a0 a1 ((zD n3 (0:X)).length:X) bigN (0:X) (zD n3 (0:X)))
else(
 O (([]:V X),(0:X),E))
def M7(a0:Xj):W (V zA):=
if a0.isS then(
 O a0.s)
else(
 (CB a0.n).bind fun r2=>
 O r2)
def HZ(a0:V Xj):Z→X→(V (V zA))→W (V zA)
| 0,_,_=>U
| n+1,v1,v2=>
 if(decide (v1<(a0.length:X))) then(
 (ix a0 v1).bind fun x4=>
 (M7 x4).bind fun r5=>
 if A4 v2.length ([r5]:V (V zA)).length 16 then(
  HZ a0 n (zM .i64 (v1+(1:X))) (v2++([r5]:V (V zA))))
 else U)
 else(
 (CP v2 ([32]:V zA)).bind fun r7=>
 O r7)
def Fx(a0:V Xj):W (V zA):=
HZ a0 bigN (0:X) ([]:V (V zA))
def KX(a0:X1)(a1:V X3):W (V zA):=
(BR a0 a1).bind fun r1=>
if r1 then(
 (G1 a0 a1).bind fun r3=>
 if r3.2.2 then(
 (KW a0 a1).bind fun r5=>
 (Fx ([(⟨F,([99,111,115,116]:V zA),0⟩:Xj),(⟨E,[],r3.2.1⟩:Xj),(⟨F,([98,111,117,110,100]:V zA),0⟩:Xj),(⟨E,[],r5.2.1⟩:Xj),(⟨F,([103,97,112]:V zA),0⟩:Xj),(⟨E,[],(zM .i64 (r3.2.1 - r5.2.1))⟩:Xj)]:V Xj)).bind fun r6=>
 O r6)
 else(
 O ([110,111,32,112,108,97,110]:V zA)))
else(
 O ([]:V zA))
def EH(a0:V zA):W (V zA):=
if(a0==([]:V zA)) then(
 O ([110,111,110,101]:V zA))
else(
 O a0)
def Oo(rec_:X→X→W (V (V X)))(a0 a1 v2:X)(r5:(V (V X)))(v6:X)(x9:V X)(v7:V (V X))(MF:X→(V (V X))→W (V (V X))):Z→X→(V X)→W (V (V X))
| 0,_,_=>U
| n+1,v10,v11=>
 if(decide (v10<(x9.length:X))) then(
 (ix x9 v10).bind fun x13=>
 if A4 v11.length ([(zM .i64 ((zM .i64 (v2+(1:X)))+x13))]:V X).length 8 then(
  Oo rec_ a0 a1 v2 r5 v6 x9 v7 MF n (zM .i64 (v10+(1:X))) (v11++([(zM .i64 ((zM .i64 (v2+(1:X)))+x13))]:V X)))
 else U)
 else(
 if A4 v7.length ([v11]:V (V X)).length 24 then(
  MF (zM .i64 (v6+(1:X))) (v7++([v11]:V (V X))))
 else U)
def On(rec_:X→X→W (V (V X)))(a0 a1 v2:X)(r5:(V (V X)))(ME:X→(V (V X))→W (V (V X))):Z→X→(V (V X))→W (V (V X))
| 0,_,_=>U
| n+1,v6,v7=>
 if(decide (v6<(r5.length:X))) then(
 (ix r5 v6).bind fun x9=>
 Oo rec_ a0 a1 v2 r5 v6 x9 v7 (On rec_ a0 a1 v2 r5 ME n) bigN (0:X) ([v2]:V X))
 else(
 ME (zM .i64 (v2+(1:X))) v7)
def Om(rec_:X→X→W (V (V X)))(a0 a1:X):Z→X→(V (V X))→W (V (V X))
| 0,_,_=>U
| n+1,v2,v3=>
 if(decide (v2<a0)) then(
 (rec_ (zM .i64 ((zM .i64 (a0 - v2)) - (1:X))) (zM .i64 (a1 - (1:X)))).bind fun r5=>
 On rec_ a0 a1 v2 r5 (Om rec_ a0 a1 n) bigN (0:X) v3)
 else(
 O v3)
def QR(rec_:X→X→W (V (V X)))(a0 a1:X):W (V (V X)):=
if(a1==(0:X)) then(
 O ([([]:V X)]:V (V X)))
else(
 Om rec_ a0 a1 bigN (0:X) ([]:V (V X)))
def M3:Z→X→X→W (V (V X))
| 0,_,_=>U
| n+1,a0,a1=>QR (M3 n) a0 a1
def Ol(a0 a1:X):W (V (V X)):=M3 bigN a0 a1
def Gn(a0:V X3)(a1:V X):Z→X→W Y
| 0,_=>U
| n+1,v1=>
 if(decide (v1<(a1.length:X))) then(
 (ix a1 v1).bind fun x3=>
 (B8 x3 (a0.length:X)).bind fun r4=>
 if r4 then(
  if(decide ((0:X)<v1)) then(
  (ix a1 (zM .i64 (v1 - (1:X)))).bind fun x7=>
  if(decide (x3≤x7)) then(
   O E)
  else(
   Gn a0 a1 n (zM .i64 (v1+(1:X)))))
  else(
  Gn a0 a1 n (zM .i64 (v1+(1:X)))))
 else(
  O E))
 else(
 O F)
def LW(a0:V X3)(a1:V X):W Y:=
Gn a0 a1 bigN (0:X)
def HH(a0:V X3)(a1:V X):Z→X→(V X3)→W (V X3)
| 0,_,_=>U
| n+1,v3,v4=>
 if(decide (v3<(a1.length:X))) then(
 (ix a1 v3).bind fun x6=>
 (ix a0 x6).bind fun x7=>
 if A4 v4.length ([x7]:V X3).length 40 then(
  HH a0 a1 n (zM .i64 (v3+(1:X))) (v4++([x7]:V X3)))
 else U)
 else(
 O v4)
def Lx(a0:V X3)(a1:V X):W (V X3):=
(LW a0 a1).bind fun r1=>
if r1 then(
 HH a0 a1 bigN (0:X) ([]:V X3))
else(
 O ([]:V X3))
def L0(a0:X1)(a1:V X3):W Y:=
(G1 a0 a1).bind fun r1=>
O r1.2.2
def Ly(a0:X1)(a1:V X3)(a2:V X):W Y:=
(BR a0 a1).bind fun r1=>
if r1 then(
 (LW a1 a2).bind fun r3=>
 if r3 then(
 (Lx a1 a2).bind fun r5=>
 (L0 a0 r5).bind fun r6=>
 O r6)
 else(
 O E))
else(
 O E)
def Dm(a1:V X3)(y3 v4:X)(r6:(V (V X)))(a0:X1)(MB:X→W (V X)):Z→X→W (V X)
| 0,_=>U
| n+1,v7=>
 if(decide (v7<(r6.length:X))) then(
 (ix r6 v7).bind fun x9=>
 (Ly a0 a1 x9).bind fun r10=>
 if r10 then(
  Dm a1 y3 v4 r6 a0 MB n (zM .i64 (v7+(1:X))))
 else(
  O x9))
 else(
 MB (zM .i64 (v4+(1:X))))
def DJ(a1:V X3)(a0:X1)(y3:X):Z→X→W (V X)
| 0,_=>U
| n+1,v4=>
 if(decide (v4<y3)) then(
 (Ol (a1.length:X) v4).bind fun r6=>
 Dm a1 y3 v4 r6 a0 (DJ a1 a0 y3 n) bigN (0:X))
 else(
 O ([]:V X))
def Jq(a0:X1)(a1:V X3):W (V X):=
(BR a0 a1).bind fun r1=>
if r1 then(
 DJ a1 a0 (zM .i64 ((a1.length:X)+(1:X))) bigN (0:X))
else(
 O ([]:V X))
def HF(a1:V X3)(r3:(V X))(a0:X1):Z→X→(V (V zA))→W (V zA)
| 0,_,_=>U
| n+1,v4,v5=>
 if(decide (v4<(r3.length:X))) then(
 (ix r3 v4).bind fun x7=>
 (ix a1 x7).bind fun x8=>
 (ix a0.Fleet x8.Ship).bind fun x9=>
 if A4 v5.length ([x9.Name]:V (V zA)).length 16 then(
  HF a1 r3 a0 n (zM .i64 (v4+(1:X))) (v5++([x9.Name]:V (V zA))))
 else U)
 else(
 if((v5.length:X)==(0:X)) then(
  O ([110,111,110,101]:V zA))
 else(
  (CP v5 ([43]:V zA)).bind fun r12=>
  O r12))
def Lt(a0:X1)(a1:V X3):W (V zA):=
(BR a0 a1).bind fun r1=>
if r1 then(
 (Jq a0 a1).bind fun r3=>
 HF a1 r3 a0 bigN (0:X) ([]:V (V zA)))
else(
 O ([]:V zA))
def Fe(a0:Xo):Z→(V zA)→X→W (V zA)
| 0,_,_=>U
| n+1,v4,v5=>
 if(decide (v5<(a0.Starts.length:X))) then(
 (ix a0.Starts v5).bind fun x7=>
 if(decide (x7<(0:X))) then(
  if AP v4.length ([32,45]:V zA).length then(
  Fe a0 n (v4++([32,45]:V zA)) (zM .i64 (v5+(1:X))))
  else U)
 else(
  (ix a0.Cleared v5).bind fun x10=>
  if x10 then(
  (CB x7).bind fun r12=>
  if AP ([32]:V zA).length r12.length then(
   if AP (([32]:V zA)++r12).length ([33]:V zA).length then(
   if AP v4.length ((([32]:V zA)++r12)++([33]:V zA)).length then(
    Fe a0 n (v4++((([32]:V zA)++r12)++([33]:V zA))) (zM .i64 (v5+(1:X))))
   else U)
   else U)
  else U)
  else(
  (CB x7).bind fun r16=>
  if AP ([32]:V zA).length r16.length then(
   if AP v4.length (([32]:V zA)++r16).length then(
   Fe a0 n (v4++(([32]:V zA)++r16)) (zM .i64 (v5+(1:X))))
   else U)
  else U)))
 else(
 O v4)
def L5(a0:Xo):W (V zA):=
(Ji a0).bind fun r1=>
if r1 then(
 (CB a0.Now).bind fun r3=>
 Fe a0 bigN r3 (0:X))
else(
 O ([]:V zA))
def HD(a2:V X)(a1:V X3)(a0:X1):Z→X→(V X0)→W ((V X0) × Y)
| 0,_,_=>U
| n+1,v5,v6=>
 if(decide (v5<(a1.length:X))) then(
 (ix a1 v5).bind fun x8=>
 (Dl a0 x8).bind fun r9=>
 (ix a2 v5).bind fun x10=>
 (B8 x10 (r9.length:X)).bind fun r11=>
 if r11 then(
  (ix r9 x10).bind fun x13=>
  if A4 v6.length ([x13]:V X0).length 48 then(
  HD a2 a1 a0 n (zM .i64 (v5+(1:X))) (v6++([x13]:V X0)))
  else U)
 else(
  O (([]:V X0),E)))
 else(
 O (v6,F))
def Ls(a1:V X3)(a2:V X)(a0:X1)(v3:Y):W ((V X0) × Y):=
if v3 then(
 O (([]:V X0),E))
else(
 HD a2 a1 a0 bigN (0:X) ([]:V X0))
def Lr(a0:X1)(a1:V X3)(a2:V X):W ((V X0) × Y):=
(BR a0 a1).bind fun r1=>
if r1 then(
 Ls a1 a2 a0 ((a2.length:X) !=(a1.length:X)))
else(
 Ls a1 a2 a0 F)
def L2(a0:X6):W ((V X0) × Y × X6):=
(G1 a0.Harbour a0.Calls).bind fun r1=>
if r1.2.2 then(
 (Lr a0.Harbour a0.Calls r1.1).bind fun r3=>
 O (r3.1,r3.2,a0))
else(
 O (([]:V X0),E,a0))
def LN(a0:V X2):W (V X2):=
(B2 (0:X) (a0.length:X) 40).bind fun n1=>
if A4 (zD n1 (⟨(0:X),(0:X),E,(0:X),(0:X)⟩:X2)).length a0.length 40 then(
 O ((zD n1 (⟨(0:X),(0:X),E,(0:X),(0:X)⟩:X2))++a0))
else U
def Hb(a0:V X0):Z→X→(V (V X2))→W (V (V X2))
| 0,_,_=>U
| n+1,v1,v2=>
 if(decide (v1<(a0.length:X))) then(
 (ix a0 v1).bind fun x4=>
 (LN x4.Passages).bind fun r5=>
 if A4 v2.length ([r5]:V (V X2)).length 24 then(
  Hb a0 n (zM .i64 (v1+(1:X))) (v2++([r5]:V (V X2))))
 else U)
 else(
 O v2)
def L1(a0:V X0):W (V (V X2)):=
Hb a0 bigN (0:X) ([]:V (V X2))
def LH(a0:Xr)(a1:X4)(a2:V X8)(a3:V X2):W X:=
(Gv a1 a2 a3).bind fun r1=>
if r1.2 then(
 (Hm a0).bind fun r3=>
 if r3 then(
 (E3 (0:X) a0.Moves r1.1).bind fun r5=>
 O r5.2.1)
 else(
 O (-1:X)))
else(
 O (-1:X))
def G9(a1:V X2)(a0:X4):Z→X→W Y
| 0,_=>U
| n+1,v3=>
 if(decide (v3<(a1.length:X))) then(
 (ix a1 v3).bind fun x5=>
 (ix a1 (0:X)).bind fun x6=>
 if(x5.Ship !=x6.Ship) then(
  O E)
 else(
  (B8 x5.Segment (a0.Segments.length:X)).bind fun r9=>
  if r9 then(
  if(v3==(0:X)) then(
   G9 a1 a0 n (zM .i64 (v3+(1:X))))
  else(
   (ix a1 (zM .i64 (v3 - (1:X)))).bind fun x12=>
   (Gc x12 a0).bind fun r13=>
   (Gc x5 a0).bind fun r14=>
   if(r14.1 !=r13.2) then(
   O E)
   else(
   if(decide (x5.Start<x12.End)) then(
    O E)
   else(
    G9 a1 a0 n (zM .i64 (v3+(1:X)))))))
  else(
  O E)))
 else(
 O F)
def L9(a0:X4)(a1:V X2):W Y:=
(D1 a0).bind fun r1=>
if r1 then(
 G9 a1 a0 bigN (0:X))
else(
 O E)
def HB(a1:V X8)(a2:V X2)(a0:X4):Z→X→W (Xd × Y)
| 0,_=>U
| n+1,v5=>
 if(decide (v5<(a2.length:X))) then(
 (ix a2 v5).bind fun x7=>
 (Jo a0 a1 x7).bind fun r9=>
 if r9 then(
  HB a1 a2 a0 n (zM .i64 (v5+(1:X))))
 else(
  O ((⟨(0:X),(0:X),(0:X),(0:X)⟩:Xd),E)))
 else(
 (ix a2 (0:X)).bind fun x11=>
 (ix a2 (zM .i64 ((a2.length:X) - (1:X)))).bind fun x12=>
 (HR a0 x11 x12).bind fun r13=>
 O (r13,F))
def Lp(a1:V X8)(a2:V X2)(a0:X4)(v3:Y):W (Xd × Y):=
if v3 then(
 O ((⟨(0:X),(0:X),(0:X),(0:X)⟩:Xd),E))
else(
 HB a1 a2 a0 bigN (0:X))
def Lo(a0:X4)(a1:V X8)(a2:V X2):W (Xd × Y):=
if((a2.length:X)==(0:X)) then(
 Lp a1 a2 a0 F)
else(
 (L9 a0 a2).bind fun r2=>
 Lp a1 a2 a0 (!r2))
def Gd(a2:V X8)(a3:V (V X2))(a0:Xr)(a1:X4):Z→X→(V Xd)→W X
| 0,_,_=>U
| n+1,v1,v2=>
 if(decide (v1<(a3.length:X))) then(
 (ix a3 v1).bind fun x4=>
 if((x4.length:X)==(0:X)) then(
  Gd a2 a3 a0 a1 n (zM .i64 (v1+(1:X))) v2)
 else(
  (Lo a1 a2 x4).bind fun r6=>
  if r6.2 then(
  if A4 v2.length ([r6.1]:V Xd).length 32 then(
   Gd a2 a3 a0 a1 n (zM .i64 (v1+(1:X))) (v2++([r6.1]:V Xd)))
  else U)
  else(
  O (-1:X))))
 else(
 (Hm a0).bind fun r9=>
 if r9 then(
  if(decide ((12:X)<(v2.length:X))) then(
  O (-1:X))
  else(
  (E3 a0.Rest a0.Moves v2).bind fun r12=>
  O r12.2.1))
 else(
  O (-1:X)))
def Lq(a0:Xr)(a1:X4)(a2:V X8)(a3:V (V X2)):W X:=
Gd a2 a3 a0 a1 bigN (0:X) ([]:V Xd)
def Hk(r3:(V (V X2)))(a0:X1):Z→X→(V X2)→W (V zA)
| 0,_,_=>U
| n+1,v4,v5=>
 if(decide (v4<(r3.length:X))) then(
 (ix r3 v4).bind fun x7=>
 if A4 v5.length x7.length 40 then(
  Hk r3 a0 n (zM .i64 (v4+(1:X))) (v5++x7))
 else U)
 else(
 (LH a0.Crew a0.Chart a0.Fleet v5).bind fun r9=>
 (Lq a0.Crew a0.Chart a0.Fleet r3).bind fun r10=>
 (Fx ([(⟨F,([116,117,103,115]:V zA),0⟩:Xj),(⟨E,[],r9⟩:Xj),(⟨F,([112,105,108,111,116,115]:V zA),0⟩:Xj),(⟨E,[],r10⟩:Xj)]:V Xj)).bind fun r11=>
 O r11)
def Jh(a0:X1)(a1:V X0):W (V zA):=
(G8 a0).bind fun r1=>
if r1 then(
 (L1 a1).bind fun r3=>
 Hk r3 a0 bigN (0:X) ([]:V X2))
else(
 O ([]:V zA))
def Lj(a2:V X)(a3:X)(a0:X1)(a1:X3)(v4:Y):W (X0 × Y):=
if v4 then(
 O ((⟨(0:X),(0:X),(0:X),([]:V X2)⟩:X0),E))
else(
 (Gi a0 a1 a2).bind fun r6=>
 if r6.2 then(
 (Fs a0 a1 r6.1 a2 a3).bind fun r9=>
 if r9.2 then(
  O (r9.1,F))
 else(
  O ((⟨(0:X),(0:X),(0:X),([]:V X2)⟩:X0),E)))
 else(
 O ((⟨(0:X),(0:X),(0:X),([]:V X2)⟩:X0),E)))
def Li(a0:X1)(a1:X3)(a2:V X)(a3:X):W (X0 × Y):=
(Jb a0 a1).bind fun r1=>
if r1 then(
 (Bm a3 a1.Ready a1.Due).bind fun r3=>
 Lj a2 a3 a0 a1 (!r3))
else(
 Lj a2 a3 a0 a1 F)
def I0(a0 a1:V X2):Z→X→W Y
| 0,_=>U
| n+1,v2=>
 if(decide (v2<(a0.length:X))) then(
 (ix a0 v2).bind fun x4=>
 (ix a1 v2).bind fun x5=>
 if((x4.Ship==x5.Ship)&&((x4.Segment==x5.Segment)&&((x4.Toward==x5.Toward)&&((x4.Start==x5.Start)&&((x4.End==x5.End)&&F))))) then(
  I0 a0 a1 n (zM .i64 (v2+(1:X))))
 else(
  O E))
 else(
 O F)
def Ma(a0 a1:V X2):W Y:=
if((a0.length:X) !=(a1.length:X)) then(
 O E)
else(
 I0 a0 a1 bigN (0:X))
def Lv(a0 a1:X0):W Y:=
if(a0.Start==a1.Start) then(
 if(a0.Arrival==a1.Arrival) then(
 if(a0.Cost==a1.Cost) then(
  (Ma a0.Passages a1.Passages).bind fun r4=>
  O r4)
 else(
  O E))
 else(
 O E))
else(
 O E)
def Hu(a2:X0)(a0:X1)(a1:X3):Z→X→(V X)→W Y
| 0,_,_=>U
| n+1,v1,v2=>
 if(decide (v1<(a2.Passages.length:X))) then(
 (ix a2.Passages v1).bind fun x4=>
 if A4 v2.length ([x4.Segment]:V X).length 8 then(
  Hu a2 a0 a1 n (zM .i64 (v1+(1:X))) (v2++([x4.Segment]:V X)))
 else U)
 else(
 (Li a0 a1 v2 a2.Start).bind fun r6=>
 if r6.2 then(
  (Lv r6.1 a2).bind fun r9=>
  O r9)
 else(
  O E))
def Lc(a0:X1)(a1:X3)(a2:X0):W Y:=
Hu a2 a0 a1 bigN (0:X) ([]:V X)
def Hv(a2:V X0)(a1:V X3)(a0:X1):Z→X→W Y
| 0,_=>U
| n+1,v4=>
 if(decide (v4<(a1.length:X))) then(
 (ix a1 v4).bind fun x6=>
 (ix a2 v4).bind fun x7=>
 (Lc a0 x6 x7).bind fun r9=>
 if r9 then(
  (bnd (a2.length:X) v4 (0:X) a2.length).bind fun p11=>
  (Fq a0 ((a2.drop p11.1).take (p11.2 - p11.1)) x7).bind fun r12=>
  if r12 then(
  Hv a2 a1 a0 n (zM .i64 (v4+(1:X))))
  else(
  O E))
 else(
  O E))
 else(
 O F)
def Ld(a0:X1)(a1:V X3)(a2:V X0):W Y:=
(BR a0 a1).bind fun r1=>
if r1 then(
 if((a2.length:X) !=(a1.length:X)) then(
 O E)
 else(
 Hv a2 a1 a0 bigN (0:X)))
else(
 O E)
def HC(a1:V X3)(a2:V X0)(a0:X1):Z→X→(V (V zA))→W (V (V zA))
| 0,_,_=>U
| n+1,v3,v4=>
 if(decide (v3<(a2.length:X))) then(
 (ix a2 v3).bind fun x6=>
 (ix a1 v3).bind fun x7=>
 (ix a0.Fleet x7.Ship).bind fun x8=>
 (Fx ([(⟨F,x8.Name,0⟩:Xj),(⟨F,([115,116,97,114,116]:V zA),0⟩:Xj),(⟨E,[],x6.Start⟩:Xj),(⟨F,([97,114,114,105,118,101]:V zA),0⟩:Xj),(⟨E,[],x6.Arrival⟩:Xj),(⟨F,([119,97,105,116]:V zA),0⟩:Xj),(⟨E,[],x6.Cost⟩:Xj)]:V Xj)).bind fun r9=>
 if A4 v4.length ([r9]:V (V zA)).length 16 then(
  HC a1 a2 a0 n (zM .i64 (v3+(1:X))) (v4++([r9]:V (V zA))))
 else U)
 else(
 O v4)
def Jp(a0:X1)(a1:V X3)(a2:V X0):W (V (V zA)):=
(Ld a0 a1 a2).bind fun r1=>
if r1 then(
 HC a1 a2 a0 bigN (0:X) ([]:V (V zA)))
else(
 O ([]:V (V zA)))
def Cc(a0:X6)(a1:V zA):W ((V zA) × X6):=
if(a1==([98,111,117,110,100]:V zA)) then(
 (KX a0.Harbour a0.Calls).bind fun r2=>
 (EH r2).bind fun r3=>
 O (r3,a0))
else(
 if(a1==([114,101,102,117,115,101]:V zA)) then(
 (Lt a0.Harbour a0.Calls).bind fun r5=>
 (EH r5).bind fun r6=>
 O (r6,a0))
 else(
 if(a1==([100,101,115,107]:V zA)) then(
  (L5 a0.Desk).bind fun r9=>
  (EH r9).bind fun r10=>
  O (r10,a0))
 else(
  (L2 a0).bind fun r11=>
  if r11.2.1 then(
  if(a1==([99,114,101,119]:V zA)) then(
   (Jh r11.2.2.Harbour r11.1).bind fun r14=>
   (EH r14).bind fun r15=>
   O (r15,r11.2.2))
  else(
   (Jp r11.2.2.Harbour r11.2.2.Calls r11.1).bind fun r16=>
   (CP r16 ([59]:V zA)).bind fun r17=>
   (EH r17).bind fun r18=>
   O (r18,r11.2.2)))
  else(
  O (([110,111,110,101]:V zA),r11.2.2)))))
def Hq(a0:V X9):Z→X→(V (V zA))→W (V zA)
| 0,_,_=>U
| n+1,v4,v5=>
 if(decide (v4<(a0.length:X))) then(
 (ix a0 v4).bind fun x7=>
 (CB x7.From).bind fun r9=>
 if AP r9.length ([45]:V zA).length then(
  (CB x7.To).bind fun r11=>
  if AP (r9++([45]:V zA)).length r11.length then(
  if A4 v5.length ([((r9++([45]:V zA))++r11)]:V (V zA)).length 16 then(
   Hq a0 n (zM .i64 (v4+(1:X))) (v5++([((r9++([45]:V zA))++r11)]:V (V zA))))
  else U)
  else U)
 else U)
 else(
 (CP v5 ([32]:V zA)).bind fun r14=>
 O r14)
def L8(a0:V X9):W (V zA):=
(Jv a0).bind fun r1=>
if r1 then(
 if((a0.length:X)==(0:X)) then(
 O ([110,111,110,101]:V zA))
 else(
 Hq a0 bigN (0:X) ([]:V (V zA))))
else(
 O ([]:V zA))
def HK(a1:X4)(a0:Xb)(a2:X8):Z→X→(V (V zA))→W (V (V zA))
| 0,_,_=>U
| n+1,v7,v8=>
 if(decide (v7<(a1.Segments.length:X))) then(
 (ix a1.Segments v7).bind fun x10=>
 (ix a1.Points x10.A).bind fun x11=>
 if AP x11.Name.length ([45]:V zA).length then(
  (ix a1.Points x10.B).bind fun x13=>
  if AP (x11.Name++([45]:V zA)).length x13.Name.length then(
  (Jt a0 a1 v7 a2).bind fun r15=>
  (L8 r15).bind fun r16=>
  (Fx ([(⟨F,((x11.Name++([45]:V zA))++x13.Name),0⟩:Xj),(⟨F,r16,0⟩:Xj)]:V Xj)).bind fun r17=>
  if A4 v8.length ([r17]:V (V zA)).length 16 then(
   HK a1 a0 a2 n (zM .i64 (v7+(1:X))) (v8++([r17]:V (V zA))))
  else U)
  else U)
 else U)
 else(
 O v8)
def LC(a0:Xb)(a1:X4)(a2:X8):W (V (V zA)):=
(DI a0).bind fun r1=>
if r1 then(
 (D1 a1).bind fun r3=>
 if r3 then(
 (Do a2).bind fun r5=>
 if r5 then(
  HK a1 a0 a2 bigN (0:X) ([]:V (V zA)))
 else(
  O ([]:V (V zA))))
 else(
 O ([]:V (V zA))))
else(
 O ([]:V (V zA)))
def Jg(a0:X6)(a1:V zA):W ((V zA) × X6):=
(Dn a0.Harbour.Fleet a1).bind fun r1=>
if(decide (r1<(0:X))) then(
 O (([110,111,110,101]:V zA),a0))
else(
 (ix a0.Harbour.Fleet r1).bind fun x3=>
 (LC a0.Harbour.Forecast a0.Harbour.Chart x3).bind fun r4=>
 (CP r4 ([59]:V zA)).bind fun r5=>
 (EH r5).bind fun r6=>
 O (r6,a0))
def Ju(a1:X)(a0:Xb)(v4:Y):W (X × X × Y):=
if v4 then(
 O ((0:X),(0:X),E))
else(
 (Jk a0 a1).bind fun r6=>
 (ix a0.Surges r6).bind fun x7=>
 O (x7.Low,x7.High,F))
def Od(a0:Xb)(a1:X):W (X × X × Y):=
(DI a0).bind fun r1=>
if r1 then(
 (Cd a1).bind fun r3=>
 Ju a1 a0 (!r3))
else(
 Ju a1 a0 F)
def O5(a0:Xb)(a1:X):W X:=
(DI a0).bind fun r1=>
if r1 then(
 (Cd a1).bind fun r3=>
 if r3 then(
 (Ff a0 a1).bind fun r5=>
 O r5)
 else(
 O (0:X)))
else(
 O (0:X))
def L7(a0:Xb)(a1:X):W X:=
(LG a0.Tide a1).bind fun r1=>
(Jk a0 a1).bind fun r2=>
(ix a0.Surges r2).bind fun x3=>
O (zM .i64 (r1+x3.High))
def O4(a0:Xb)(a1:X):W X:=
(DI a0).bind fun r1=>
if r1 then(
 (Cd a1).bind fun r3=>
 if r3 then(
 (L7 a0 a1).bind fun r5=>
 O r5)
 else(
 O (0:X)))
else(
 O (0:X))
def G4(a0:X6)(a1:V zA):W ((V zA) × X6):=
(Fi a1).bind fun r1=>
if r1.2 then(
 (Od a0.Harbour.Forecast r1.1).bind fun r3=>
 if r3.2.2 then(
 (O5 a0.Harbour.Forecast r1.1).bind fun r5=>
 (CB r5).bind fun r6=>
 if AP r6.length ([46,46]:V zA).length then(
  (O4 a0.Harbour.Forecast r1.1).bind fun r9=>
  (CB r9).bind fun r10=>
  if AP (r6++([46,46]:V zA)).length r10.length then(
  O (((r6++([46,46]:V zA))++r10),a0))
  else U)
 else U)
 else(
 O (([110,111,110,101]:V zA),a0)))
else(
 O (([117,110,107,110,111,119,110,32,99,111,109,109,97,110,100]:V zA),a0))
def Hi(r5:(V X))(a0:X6):Z→X→(V (V zA))→W ((V zA) × X6)
| 0,_,_=>U
| n+1,v6,v7=>
 if(decide (v6<(r5.length:X))) then(
 (ix r5 v6).bind fun x9=>
 (ix a0.Harbour.Chart.Points x9).bind fun x10=>
 if A4 v7.length ([x10.Name]:V (V zA)).length 16 then(
  Hi r5 a0 n (zM .i64 (v6+(1:X))) (v7++([x10.Name]:V (V zA))))
 else U)
 else(
 (CP v7 ([62]:V zA)).bind fun r12=>
 O (r12,a0))
def Fc(a0:X6)(a1 a2:V zA):W ((V zA) × X6):=
(BF a0.Harbour.Chart a1).bind fun r1=>
(BF a0.Harbour.Chart a2).bind fun r2=>
(Ja a0.Harbour.Chart r1 r2).bind fun r3=>
if r3.2 then(
 (E4 a0.Harbour.Chart r1 r3.1).bind fun r5=>
 Hi r5 a0 bigN (0:X) ([]:V (V zA)))
else(
 O (([110,111,110,101]:V zA),a0))
def NY(a0:X6)(r1:(V (V zA)))(v46:Y):W ((V zA) × X6):=
if v46 then(
 (ix r1 (1:X)).bind fun x48=>
 (ix r1 (2:X)).bind fun x49=>
 (Fc a0 x48 x49).bind fun r50=>
 O (r50.1,r50.2))
else(
 O (([117,110,107,110,111,119,110,32,99,111,109,109,97,110,100]:V zA),a0))
def NX(a0:X6)(r1:(V (V zA)))(v40:Y):W ((V zA) × X6):=
if v40 then(
 (ix r1 (1:X)).bind fun x42=>
 (G4 a0 x42).bind fun r43=>
 O (r43.1,r43.2))
else(
 if((r1.length:X)==(3:X)) then(
 (ix r1 (0:X)).bind fun x45=>
 NY a0 r1 (x45==([114,111,117,116,101]:V zA)))
 else(
 NY a0 r1 E))
def NW(a0:X6)(r1:(V (V zA)))(v34:Y):W ((V zA) × X6):=
if v34 then(
 (ix r1 (1:X)).bind fun x36=>
 (Jg a0 x36).bind fun r37=>
 O (r37.1,r37.2))
else(
 if((r1.length:X)==(2:X)) then(
 (ix r1 (0:X)).bind fun x39=>
 NX a0 r1 (x39==([108,101,118,101,108]:V zA)))
 else(
 NX a0 r1 E))
def G5(a0:X6)(r1:(V (V zA)))(v28:Y):W ((V zA) × X6):=
if v28 then(
 (ix r1 (0:X)).bind fun x30=>
 (Cc a0 x30).bind fun r31=>
 O (r31.1,r31.2))
else(
 if((r1.length:X)==(2:X)) then(
 (ix r1 (0:X)).bind fun x33=>
 NW a0 r1 (x33==([115,117,114,101]:V zA)))
 else(
 NW a0 r1 E))
def Jf(a0:X6)(r1:(V (V zA)))(v19:Y):W ((V zA) × X6):=
if v19 then(
 (QI a0 r1).bind fun r21=>
 O (r21.1,r21.2))
else(
 if((r1.length:X)==(1:X)) then(
 (ix r1 (0:X)).bind fun x23=>
 if(x23==([112,108,97,110]:V zA)) then(
  G5 a0 r1 F)
 else(
  if(x23==([98,111,117,110,100]:V zA)) then(
  G5 a0 r1 F)
  else(
  if(x23==([114,101,102,117,115,101]:V zA)) then(
   G5 a0 r1 F)
  else(
   if(x23==([99,114,101,119]:V zA)) then(
   G5 a0 r1 F)
   else(
   G5 a0 r1 (x23==([100,101,115,107]:V zA)))))))
 else(
 G5 a0 r1 E))
def Je(x2:V zA)(a0:X6)(r1:(V (V zA)))(v11:Y):W ((V zA) × X6):=
if v11 then(
 (QK a0 r1).bind fun r13=>
 O (r13.1,r13.2))
else(
 if(x2==([99,97,108,108]:V zA)) then(
 (QG a0 r1).bind fun r15=>
 O (r15.1,r15.2))
 else(
 if(x2==([97,110,110,111,117,110,99,101]:V zA)) then(
  Jf a0 r1 F)
 else(
  if(x2==([99,108,101,97,114]:V zA)) then(
  Jf a0 r1 F)
  else(
  if(x2==([99,97,110,99,101,108]:V zA)) then(
   Jf a0 r1 F)
  else(
   Jf a0 r1 (x2==([116,105,99,107]:V zA)))))))
def L4(a1 x2:V zA)(a0:X6)(r1:(V (V zA)))(v5:Y):W ((V zA) × X6):=
if v5 then(
 (QH a0 a1 r1).bind fun r7=>
 O (r7.1,r7.2))
else(
 if(x2==([109,101,97,110]:V zA)) then(
 Je x2 a0 r1 F)
 else(
 if(x2==([119,97,118,101]:V zA)) then(
  Je x2 a0 r1 F)
 else(
  if(x2==([115,117,114,103,101]:V zA)) then(
  Je x2 a0 r1 F)
  else(
  Je x2 a0 r1 (x2==([103,97,112]:V zA))))))
def QJ(a0:X6)(a1:V zA):W ((V zA) × X6):=
(HJ a1 ([32]:V zA)).bind fun r1=>
(ix r1 (0:X)).bind fun x2=>
if(x2==([112,111,105,110,116]:V zA)) then(
 L4 a1 x2 a0 r1 F)
else(
 if(x2==([99,104,97,110,110,101,108]:V zA)) then(
 L4 a1 x2 a0 r1 F)
 else(
 L4 a1 x2 a0 r1 (x2==([115,104,105,112]:V zA))))
def Oa(a1:V zA)(r1:X6)(v4:Y):W (X6 × (V zA)):=
if v4 then(
 O (r1,([]:V zA)))
else(
 (QJ r1 a1).bind fun r6=>
 O (r6.2,r6.1))
def BO(a0:X6)(a1:V zA):W (X6 × (V zA)):=
(Gm a0).bind fun r1=>
if(a1==([]:V zA)) then(
 Oa a1 r1 F)
else(
 (ix a1 (0:X)).bind fun b3=>
 Oa a1 r1 ((b3.toNat:X)==(35:X)))
def LB(a0:V zA):W (V (V zA)):=
(HJ a0 ([10]:V zA)).bind fun r1=>
(ix r1 (zM .i64 ((r1.length:X) - (1:X)))).bind fun x2=>
if(x2==([]:V zA)) then(
 (bnd (r1.length:X) (zM .i64 ((r1.length:X) - (1:X))) (0:X) r1.length).bind fun p4=>
 O ((r1.drop p4.1).take (p4.2 - p4.1)))
else(
 O r1)
def Ge(r1:(V (V zA))):Z→(V zA)→X→X→(V Xf)→(V Xc)→(V Xa)→(V X7)→(V X8)→X→Y→X→X→X→(V X)→(V X3)→X→(V X)→(V Y)→W ((V zA) × X)
| 0,_,_,_,_,_,_,_,_,_,_,_,_,_,_,_,_,_,_=>U
| n+1,v4,v5,v6,v7,v8,v9,v10,v11,v12,v13,v14,v15,v16,v17,v18,v19,v20,v21=>
 if(decide (v5<(r1.length:X))) then(
 (ix r1 v5).bind fun x23=>
 (BO (⟨(⟨(⟨(⟨v6,v7⟩:Xq),v8⟩:Xb),(⟨v9,v10⟩:X4),v11,(⟨v12,v13⟩:Xm),(⟨v14,v15,v16,v17⟩:Xr)⟩:X1),v18,(⟨v19,v20,v21⟩:Xo)⟩:X6) x23).bind fun r24=>
 if(r24.2==([]:V zA)) then(
  Ge r1 n v4 (zM .i64 (v5+(1:X))) r24.1.Harbour.Forecast.Tide.Mean r24.1.Harbour.Forecast.Tide.Parts r24.1.Harbour.Forecast.Surges r24.1.Harbour.Chart.Points r24.1.Harbour.Chart.Segments r24.1.Harbour.Fleet r24.1.Harbour.Regime.Gap r24.1.Harbour.Regime.NoMeet r24.1.Harbour.Crew.Tugs r24.1.Harbour.Crew.Pilots r24.1.Harbour.Crew.Rest r24.1.Harbour.Crew.Moves r24.1.Calls r24.1.Desk.Now r24.1.Desk.Starts r24.1.Desk.Cleared)
 else(
  if AP r24.2.length ([10]:V zA).length then(
  if AP v4.length (r24.2++([10]:V zA)).length then(
   Ge r1 n (v4++(r24.2++([10]:V zA))) (zM .i64 (v5+(1:X))) r24.1.Harbour.Forecast.Tide.Mean r24.1.Harbour.Forecast.Tide.Parts r24.1.Harbour.Forecast.Surges r24.1.Harbour.Chart.Points r24.1.Harbour.Chart.Segments r24.1.Harbour.Fleet r24.1.Harbour.Regime.Gap r24.1.Harbour.Regime.NoMeet r24.1.Harbour.Crew.Tugs r24.1.Harbour.Crew.Pilots r24.1.Harbour.Crew.Rest r24.1.Harbour.Crew.Moves r24.1.Calls r24.1.Desk.Now r24.1.Desk.Starts r24.1.Desk.Cleared)
  else U)
  else U))
 else(
 O (v4,(r1.length:X)))
def Jr(a0:V zA):W ((V zA) × X):=
(LB a0).bind fun r1=>
if(decide ((40:X)<(r1.length:X))) then(
 O (([]:V zA),(-1:X)))
else(
 (Jm).bind fun r3=>
 Ge r1 bigN ([]:V zA) (0:X) r3.Harbour.Forecast.Tide.Mean r3.Harbour.Forecast.Tide.Parts r3.Harbour.Forecast.Surges r3.Harbour.Chart.Points r3.Harbour.Chart.Segments r3.Harbour.Fleet r3.Harbour.Regime.Gap r3.Harbour.Regime.NoMeet r3.Harbour.Crew.Tugs r3.Harbour.Crew.Pilots r3.Harbour.Crew.Rest r3.Harbour.Crew.Moves r3.Calls r3.Desk.Now r3.Desk.Starts r3.Desk.Cleared)
def Gw(r2:(V (V zA))):Z→(V zA)→X→X→(V Xf)→(V Xc)→(V Xa)→(V X7)→(V X8)→X→Y→X→X→X→(V X)→(V X3)→X→(V X)→(V Y)→W Y
| 0,_,_,_,_,_,_,_,_,_,_,_,_,_,_,_,_,_,_=>U
| n+1,v4,v5,v6,v7,v8,v9,v10,v11,v12,v13,v14,v15,v16,v17,v18,v19,v20,v21=>
 if(decide (v5<(r2.length:X))) then(
 (ix r2 v5).bind fun x23=>
 (BO (⟨(⟨(⟨(⟨v6,v7⟩:Xq),v8⟩:Xb),(⟨v9,v10⟩:X4),v11,(⟨v12,v13⟩:Xm),(⟨v14,v15,v16,v17⟩:Xr)⟩:X1),v18,(⟨v19,v20,v21⟩:Xo)⟩:X6) x23).bind fun r24=>
 if(r24.2==([]:V zA)) then(
  Gw r2 n v4 (zM .i64 (v5+(1:X))) r24.1.Harbour.Forecast.Tide.Mean r24.1.Harbour.Forecast.Tide.Parts r24.1.Harbour.Forecast.Surges r24.1.Harbour.Chart.Points r24.1.Harbour.Chart.Segments r24.1.Harbour.Fleet r24.1.Harbour.Regime.Gap r24.1.Harbour.Regime.NoMeet r24.1.Harbour.Crew.Tugs r24.1.Harbour.Crew.Pilots r24.1.Harbour.Crew.Rest r24.1.Harbour.Crew.Moves r24.1.Calls r24.1.Desk.Now r24.1.Desk.Starts r24.1.Desk.Cleared)
 else(
  if AP v4.length r24.2.length then(
  if AP (v4++r24.2).length ([10]:V zA).length then(
   Gw r2 n ((v4++r24.2)++([10]:V zA)) (zM .i64 (v5+(1:X))) r24.1.Harbour.Forecast.Tide.Mean r24.1.Harbour.Forecast.Tide.Parts r24.1.Harbour.Forecast.Surges r24.1.Harbour.Chart.Points r24.1.Harbour.Chart.Segments r24.1.Harbour.Fleet r24.1.Harbour.Regime.Gap r24.1.Harbour.Regime.NoMeet r24.1.Harbour.Crew.Tugs r24.1.Harbour.Crew.Pilots r24.1.Harbour.Crew.Rest r24.1.Harbour.Crew.Moves r24.1.Calls r24.1.Desk.Now r24.1.Desk.Starts r24.1.Desk.Cleared)
  else U)
  else U))
 else(
 (CP r2 ([10]:V zA)).bind fun r28=>
 (Jr r28).bind fun r29=>
 if(v4==([]:V zA)) then(
  O E)
 else(
  if(r29.1==v4) then(
  if(decide ((zM .i64 ((r2.length:X) - (1:X)))≤r29.2)) then(
   O (decide (r29.2≤(r2.length:X))))
  else(
   O E))
  else(
  O E)))
def Ot(a0:V X):W Y:=
if(decide ((1048576:X)<(a0.length:X))) then(
 O F)
else(
 (Mb a0).bind fun r2=>
 (Jm).bind fun r3=>
 Gw r2 bigN ([]:V zA) (0:X) r3.Harbour.Forecast.Tide.Mean r3.Harbour.Forecast.Tide.Parts r3.Harbour.Forecast.Surges r3.Harbour.Chart.Points r3.Harbour.Chart.Segments r3.Harbour.Fleet r3.Harbour.Regime.Gap r3.Harbour.Regime.NoMeet r3.Harbour.Crew.Tugs r3.Harbour.Crew.Pilots r3.Harbour.Crew.Rest r3.Harbour.Crew.Moves r3.Calls r3.Desk.Now r3.Desk.Starts r3.Desk.Cleared)
class Ct (f:Z) (T:outParam Prop):Prop where
 c:T
theorem A8{f:Z}{T:Prop}(I:Ct f T):T:=I.c
section
variable {P : Program} {k : V Fr} {Q : Xn → St → Prop} {σ : St} {its : V AItem} {d f : Z} {args : V Opd} {xs : V DV} {rs : V R1} {T : Prop} [I : Ct f T]
theorem fQ(hf:T→FC P f xs rs)(h:go P (.ops its::k) Q .normal (O (σ.inst d rs)))(h1:σ.toIVs args=O xs:=by exact rfl)(h3:σ.fresh d=F:=by first | exact rfl | (simp only[St.fresh,zK,zL,BL]; simp[AV.cells,V1.cells,AC.uses]))(h4:Nat.ble (rs.flatMap R1.cells).length 64=F:=by exact rfl) :
  go P (.ops ((U,.call d f args)::its)::k) Q .normal (O σ):=Ao (hf I.c) h h1 h3 h4
theorem ig{N:V Z}{ds:V AT}(hf:T→FC P f xs rs)(h:go P (.dops ds::k) Q .normal (O (σ.inst d rs)))(h1:(σ.less N).toIVs args=O xs:=by exact rfl)(h3:σ.fresh d=F:=by first | exact rfl | (simp only[St.fresh,zK,zL,BL]; simp[AV.cells,V1.cells,AC.uses]))(h4:Nat.ble (rs.flatMap R1.cells).length 64=F:=by exact rfl) :
  go P (.dops ((O N,U,.call d f args)::ds)::k) Q .normal (O σ):=AX (hf I.c) h h1 h3 h4
theorem fR(hf:T→FC P f xs rs)(h:go P (.ops its::k) Q .normal (O (σ.inst d rs)))(h1:σ.toDVs args=O xs:=by exact rfl)(h2:CD rs:=by first | exact Cm rfl | exact Ea rfl ⟨Eb,⟨⟩⟩ | exact Ea rfl ⟨Eb,rfl,⟨⟩⟩ | exact Ea rfl ⟨Eb,rfl,rfl,⟨⟩⟩ | exact Ea rfl ⟨rfl,rfl,rfl,Eb,rfl,⟨⟩⟩)(h3:σ.fresh d=F:=by first | exact rfl | (simp only[St.fresh,zK,zL,BL]; simp[AV.cells,V1.cells,AC.uses]))(h4:Nat.ble (rs.flatMap R1.cells).length 64=F:=by exact rfl) :
  go P (.ops ((U,.call d f args)::its)::k) Q .normal (O σ):=Ec (hf I.c) h1 h2 h3 (zC h4) h
theorem ii{N:V Z}{ds:V AT}(hf:T→FC P f xs rs)(h:go P (.dops ds::k) Q .normal (O (σ.inst d rs)))(h1:(σ.less N).toDVs args=O xs:=by exact rfl)(h2:CD rs:=by first | exact Cm rfl | exact Ea rfl ⟨Eb,⟨⟩⟩ | exact Ea rfl ⟨Eb,rfl,⟨⟩⟩)(h3:σ.fresh d=F:=by first | exact rfl | (simp only[St.fresh,zK,zL,BL]; simp[AV.cells,V1.cells,AC.uses]))(h4:Nat.ble (rs.flatMap R1.cells).length 64=F:=by exact rfl) :
  go P (.dops ((O N,U,.call d f args)::ds)::k) Q .normal (O σ):=FB (hf I.c) h1 h2 h3 (zC h4) h
end
theorem AA(es:V (V D)){P:Program}{k:V Fr}{Q:Xn→St→Prop}{σ:St}{its:V AItem}{d sz:Z}{zs:V D}{len:Z}{ps:V (Z × Opd)}(H:go P (.ops its::k) Q .normal (O {(σ.set d (.v (.sc (.own (d*64))))) with rows:=put σ.rows (d*64) (sz,es) }))(hm:σ.made (.bslice d sz zs len ps)=O (.row d sz es):=by exact rfl)(hf:σ.fresh d=F:=by first | exact rfl | (simp only[St.fresh,zK,zL,BL]; simp[AV.cells,V1.cells,AC.uses])) :
  go P (.ops ((U,.bslice d sz zs len ps)::its)::k) Q .normal (O σ):=DL hm hf H
theorem Dv{α:Type}(row:α→V D)(z:α){P:Program}{k:V Fr}{Q:Xn→St→Prop}{σ:St}{its:V AItem}{d:Z}{L C:Opd}{l c:X}{bytes n sz:Z}{zs:V D}(hb:B2 l c bytes=O n)
  (H:go P (.ops its::k) Q .normal (O {(σ.set d (.v (.sc (.own (d*64))))) with rows:=put σ.rows (d*64) (sz,zB row (zD n z)) })) (hl:BX (σ.val L)=O l:=by exact rfl) (hc:BX (σ.val C)=O c:=by exact rfl) (hz:zs.length=sz:=by exact rfl) (he:row z=zs:=by exact rfl) (hf:σ.fresh d=F:=by exact rfl):go P (.ops ((U,.mksl d sz bytes zs L C)::its)::k) Q .normal (O σ):=QZ hl hc hb hz (S8 he) hf H
theorem N2{α:Type}(row:α→V D)(y:α){P:Program}{k:V Fr}{Q:Xn→St→Prop}{env bx rows}{id sz off n:Z}{i:X}{xs:V α}{x:α}{yv:V1}{dd:V D}(hx:ix xs i=O x)(H:go P k Q .normal (O ⟨env,bx,put rows id (sz,zB row (xs.set i.toNat y))⟩))(hd:yv.toDs=O dd:=by exact rfl)(hf:A1 rows id=O (sz,zB row xs):=by exact rfl)
  (hn:dd.length=n:=by exact rfl) (ho:Nat.ble (off+n) (row x).length=F:=by exact rfl) (hy:FO (row x) off dd=row y:=by exact rfl) :
  go P k Q .normal (St.storeV ⟨env,bx,rows⟩ n (.v (.sc (.pe id i.toNat off))) (.v yv)):=Dq hd hf (Am hx) hn ho hy H
theorem gc{G:Prop}(k:G:=by
 first | intro S hS | intro hS
 conv at hS=>rhs; reduce
 try simp only[Int.reduceOfNat,Int.reduceNegSucc,Su,UInt8.reduceOfNat] at hS
 subst hS;first | refine AY (Aw ?_) | refine Aw ?_ | skip
 repeat' (first | refine BZ ?_ | refine B0 ?_ | refine Ai ?_ | refine Ae ?_ | (obtain⟨_,hc,h⟩:=ob h; first | refine fQ (by intro k; apply k; exact hc) ?_ | refine ig (by intro k; apply k; exact hc) ?_ | refine fR (by intro k; apply k; exact hc) ?_ | refine ii (by intro k; apply k; exact hc) ?_ | refine s0 hc ?_ | refine s1 hc ?_) | simp only[*,Nat.reduceBEq,Nat.reduceMul,Nat.reduceAdd,Nat.reduceDiv,Int.reduceBEq,J] | (first | refine s0 ?_ | refine s0 _ ?_ | refine s0 ‹_› ?_ | refine s0 _ ‹_› ?_ | refine s0 _ _ ‹_› ?_ | refine s1 ?_ | refine s1 _ ?_ | refine s1 ‹_› ?_ | refine s1 _ ‹_› ?_ | refine s1 _ _ ‹_› ?_ | refine s2 ?_ | refine s2 _ ?_ | refine s2 ‹_› ?_ | refine s2 _ ‹_› ?_ | refine s2 _ _ ‹_› ?_ | refine s3 ?_ | refine s3 _ ?_ | refine s3 ‹_› ?_ | refine s3 _ ‹_› ?_ | refine s3 _ _ ‹_› ?_) | ((first | show go _ (.code (.loop _)::_) _ _ _ | show go _ (.code (K9 _)::_) _ _ _); (first | refine ih h ?_ (by kernel_rfl) | refine k0 h ?_ (by kernel_rfl) | refine k0 ‹_› h ?_ (by kernel_rfl) | refine k0 ‹_› ‹_› h ?_ (by kernel_rfl) | refine k0 ‹_› ‹_› ‹_› h ?_ (by kernel_rfl) | refine k1 h ?_ (by kernel_rfl) | refine k1 ‹_› h ?_ (by kernel_rfl) | refine k1 ‹_› ‹_› h ?_ (by kernel_rfl) | refine k1 ‹_› ‹_› ‹_› h ?_ (by kernel_rfl) | refine k2 h ?_ (by kernel_rfl) | refine k2 ‹_› h ?_ (by kernel_rfl) | refine k2 ‹_› ‹_› h ?_ (by kernel_rfl) | refine k2 ‹_› ‹_› ‹_› h ?_ (by kernel_rfl) | refine k3 h ?_ (by kernel_rfl) | refine k3 ‹_› h ?_ (by kernel_rfl) | refine k3 ‹_› ‹_› h ?_ (by kernel_rfl) | refine k3 ‹_› ‹_› ‹_› h ?_ (by kernel_rfl)))<;>try simp only[*,Nat.reduceBEq,Nat.reduceMul,Nat.reduceAdd,Nat.reduceDiv,Int.reduceBEq,J,pL,aM,List.map_nil] | (obtain⟨_,_,h⟩:=ob h) | (obtain⟨_,h⟩:=AN h) | (obtain⟨_,h⟩:=FN h) | (obtain⟨_,h⟩ | ⟨_,h⟩:=ic h) | (cases h; first | exact t0 | trivial | (repeat' constructor; done)))
 done):G:=k
end Go.Vi
