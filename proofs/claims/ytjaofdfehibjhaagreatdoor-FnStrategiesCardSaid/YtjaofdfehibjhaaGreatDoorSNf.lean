/-
Plain definitions of functions. No condition.
-/
import Derived.Test.YtjaofdfehibjhaaGreatDoorSVi39
import Derived.Test.YtjaofdfehibjhaaGreatDoorSLa
namespace Go.Vi
set_option linter.all false
open Nat renaming le_of_ble_eq_true → U
open List renaming map → V, replicate → Y, not_mem_nil → Z, mem_cons → I
open Int renaming toNat → W, tdiv → C, tmod → zA
open And renaming intro → X
open IntKind renaming wrap → zB
open Bool renaming true → T, false → F
open Option renaming some → E, none → G
open _root_ renaming List → H, Option → L, Int → N, Bool → O, Nat → P, UInt8 → Q
def A1f(k:IntKind)(x:N)(n:P):N:=k.wrap (x.fdiv (2 ^ min n k.bits))
theorem C8l{k:IntKind}{x:N}:A59 .shr (.v (.sc (.dat (.int k x)))) (.v (.sc (.dat (.int .u64 8))))=E (.v (.sc (.dat (.int k (A1f k x 8))))):=by simp[A59,N6,A1f]
theorem C8k{k:IntKind}{x:N}:N6 .shr k x 8=E (.int k (A1f k x 8)):=by simp[N6,A1f]
theorem C4z{k:IntKind}{x:N}:A59 .shr (.v (.sc (.dat (.int k x)))) (.v (.sc (.dat (.int .u64 16))))=E (.v (.sc (.dat (.int k (A1f k x 16))))):=by simp[A59,N6,A1f]
theorem C4q{k:IntKind}{x:N}:N6 .shr k x 16=E (.int k (A1f k x 16)):=by simp[N6,A1f]
theorem C4n{k:IntKind}{x:N}:A59 .shr (.v (.sc (.dat (.int k x)))) (.v (.sc (.dat (.int .u64 32))))=E (.v (.sc (.dat (.int k (A1f k x 32))))):=by simp[A59,N6,A1f]
theorem C4i{k:IntKind}{x:N}:N6 .shr k x 32=E (.int k (A1f k x 32)):=by simp[N6,A1f]
theorem C4s{k:IntKind}{x:N}:A59 .shr (.v (.sc (.dat (.int k x)))) (.v (.sc (.dat (.int .u64 33))))=E (.v (.sc (.dat (.int k (A1f k x 33))))):=by simp[A59,N6,A1f]
theorem C4k{k:IntKind}{x:N}:N6 .shr k x 33=E (.int k (A1f k x 33)):=by simp[N6,A1f]
theorem C4l{k:IntKind}{x:N}:A59 .shr (.v (.sc (.dat (.int k x)))) (.v (.sc (.dat (.int .u64 45))))=E (.v (.sc (.dat (.int k (A1f k x 45))))):=by simp[A59,N6,A1f]
theorem C4j{k:IntKind}{x:N}:N6 .shr k x 45=E (.int k (A1f k x 45)):=by simp[N6,A1f]
structure Xq where
 isS:O
 s:H Q
 n:N
 deriving DecidableEq
def D2e(x:Xq):D:= .ifc (bif x.isS then 9 else 3) (bif x.isS then .str x.s else .int .i64 x.n)
theorem F9u{t:TypeId}{zc:AC}{x:Xq}:B2z t zc (.v (.sc (.dat (D2e x))))=B2z t zc (.v (.sc (.dat (.ifc (bif x.isS then 9 else 3) (bif x.isS then .str x.s else .int .i64 x.n))))):=rfl
def rA(x:Xq):H D:= [D2e x]
theorem F86(x:Xq):rA x= [D2e x]:=rfl
instance:Row rA 1:=⟨fun _=>rfl,U rfl⟩
structure Xe where
 Amp:N
 Period:N
 Phase:N
 deriving DecidableEq
def Xe.row(x:Xe):H D:= [.int .i64 x.Amp,.int .i64 x.Period,.int .i64 x.Phase]
theorem Xe.row_eq(x:Xe):Xe.row x= [.int .i64 x.Amp,.int .i64 x.Period,.int .i64 x.Phase]:=rfl
instance:Row Xe.row 3:=⟨fun _=>rfl,U rfl⟩
instance:FlatRow Xe.row:=⟨fun x d hd=>by simp only[Xe.row_eq,I,Z,or_false] at hd; rcases hd with rfl | rfl | rfl<;>rfl⟩
structure Xn where
 Mean:N
 Parts:H Xe
 deriving DecidableEq
def Xn.row(x:Xn):H D:= [.int .i64 x.Mean,.sl (V Xe.row x.Parts)]
theorem Xn.row_eq(x:Xn):Xn.row x= [.int .i64 x.Mean,.sl (V Xe.row x.Parts)]:=rfl
instance:Row Xn.row 2:=⟨fun _=>rfl,U rfl⟩
structure X6 where
 From:N
 Low:N
 High:N
 deriving DecidableEq
def X6.row(x:X6):H D:= [.int .i64 x.From,.int .i64 x.Low,.int .i64 x.High]
theorem X6.row_eq(x:X6):X6.row x= [.int .i64 x.From,.int .i64 x.Low,.int .i64 x.High]:=rfl
instance:Row X6.row 3:=⟨fun _=>rfl,U rfl⟩
instance:FlatRow X6.row:=⟨fun x d hd=>by simp only[X6.row_eq,I,Z,or_false] at hd; rcases hd with rfl | rfl | rfl<;>rfl⟩
structure X8 where
 Tide:Xn
 Surges:H X6
 deriving DecidableEq
def X8.row(x:X8):H D:= [.int .i64 x.Tide.Mean,.sl (V Xe.row x.Tide.Parts),.sl (V X6.row x.Surges)]
theorem X8.row_eq(x:X8):X8.row x= [.int .i64 x.Tide.Mean,.sl (V Xe.row x.Tide.Parts),.sl (V X6.row x.Surges)]:=rfl
instance:Row X8.row 3:=⟨fun _=>rfl,U rfl⟩
structure Xd where
 Name:H Q
 Wait:O
 deriving DecidableEq
def Xd.row(x:Xd):H D:= [.str x.Name,.bool x.Wait]
theorem Xd.row_eq(x:Xd):Xd.row x= [.str x.Name,.bool x.Wait]:=rfl
instance:Row Xd.row 2:=⟨fun _=>rfl,U rfl⟩
instance:FlatRow Xd.row:=⟨fun x d hd=>by simp only[Xd.row_eq,I,Z,or_false] at hd; rcases hd with rfl | rfl<;>rfl⟩
structure X3 where
 A:N
 B:N
 Depth:N
 Minutes:N
 Meet:O
 deriving DecidableEq
def X3.row(x:X3):H D:= [.int .i64 x.A,.int .i64 x.B,.int .i64 x.Depth,.int .i64 x.Minutes,.bool x.Meet]
theorem X3.row_eq(x:X3):X3.row x= [.int .i64 x.A,.int .i64 x.B,.int .i64 x.Depth,.int .i64 x.Minutes,.bool x.Meet]:=rfl
instance:Row X3.row 5:=⟨fun _=>rfl,U rfl⟩
instance:FlatRow X3.row:=⟨fun x d hd=>by simp only[X3.row_eq,I,Z,or_false] at hd; rcases hd with rfl | rfl | rfl | rfl | rfl<;>rfl⟩
structure X9 where
 Points:H Xd
 Segments:H X3
 deriving DecidableEq
def X9.row(x:X9):H D:= [.sl (V Xd.row x.Points),.sl (V X3.row x.Segments)]
theorem X9.row_eq(x:X9):X9.row x= [.sl (V Xd.row x.Points),.sl (V X3.row x.Segments)]:=rfl
instance:Row X9.row 2:=⟨fun _=>rfl,U rfl⟩
structure Xc where
 Name:H Q
 Length:N
 Draught:N
 Line:N
 Tugs:N
 Slow:O
 deriving DecidableEq
def Xc.row(x:Xc):H D:= [.str x.Name,.int .i64 x.Length,.int .i64 x.Draught,.int .i64 x.Line,.int .i64 x.Tugs,.bool x.Slow]
theorem Xc.row_eq(x:Xc):Xc.row x= [.str x.Name,.int .i64 x.Length,.int .i64 x.Draught,.int .i64 x.Line,.int .i64 x.Tugs,.bool x.Slow]:=rfl
instance:Row Xc.row 6:=⟨fun _=>rfl,U rfl⟩
instance:FlatRow Xc.row:=⟨fun x d hd=>by simp only[Xc.row_eq,I,Z,or_false] at hd; rcases hd with rfl | rfl | rfl | rfl | rfl | rfl<;>rfl⟩
structure Xm where
 Gap:N
 NoMeet:O
 deriving DecidableEq
def Xm.row(x:Xm):H D:= [.int .i64 x.Gap,.bool x.NoMeet]
theorem Xm.row_eq(x:Xm):Xm.row x= [.int .i64 x.Gap,.bool x.NoMeet]:=rfl
instance:Row Xm.row 2:=⟨fun _=>rfl,U rfl⟩
instance:FlatRow Xm.row:=⟨fun x d hd=>by simp only[Xm.row_eq,I,Z,or_false] at hd; rcases hd with rfl | rfl<;>rfl⟩
structure Xp where
 Tugs:N
 Pilots:N
 Rest:N
 Moves:H N
 deriving DecidableEq
def Xp.row(x:Xp):H D:= [.int .i64 x.Tugs,.int .i64 x.Pilots,.int .i64 x.Rest,.sl (V rI x.Moves)]
theorem Xp.row_eq(x:Xp):Xp.row x= [.int .i64 x.Tugs,.int .i64 x.Pilots,.int .i64 x.Rest,.sl (V rI x.Moves)]:=rfl
instance:Row Xp.row 4:=⟨fun _=>rfl,U rfl⟩
structure X4 where
 Forecast:X8
 Chart:X9
 Fleet:H Xc
 Regime:Xm
 Crew:Xp
 deriving DecidableEq
def X4.row(x:X4):H D:= [.int .i64 x.Forecast.Tide.Mean,.sl (V Xe.row x.Forecast.Tide.Parts),.sl (V X6.row x.Forecast.Surges),.sl (V Xd.row x.Chart.Points),.sl (V X3.row x.Chart.Segments),.sl (V Xc.row x.Fleet),.int .i64 x.Regime.Gap,.bool x.Regime.NoMeet,.int .i64 x.Crew.Tugs,.int .i64 x.Crew.Pilots,.int .i64 x.Crew.Rest,.sl (V rI x.Crew.Moves)]
theorem X4.row_eq(x:X4):X4.row x= [.int .i64 x.Forecast.Tide.Mean,.sl (V Xe.row x.Forecast.Tide.Parts),.sl (V X6.row x.Forecast.Surges),.sl (V Xd.row x.Chart.Points),.sl (V X3.row x.Chart.Segments),.sl (V Xc.row x.Fleet),.int .i64 x.Regime.Gap,.bool x.Regime.NoMeet,.int .i64 x.Crew.Tugs,.int .i64 x.Crew.Pilots,.int .i64 x.Crew.Rest,.sl (V rI x.Crew.Moves)]:=rfl
instance:Row X4.row 12:=⟨fun _=>rfl,U rfl⟩
structure Xa where
 Ship:N
 From:N
 To:N
 Ready:N
 Due:N
 deriving DecidableEq
def Xa.row(x:Xa):H D:= [.int .i64 x.Ship,.int .i64 x.From,.int .i64 x.To,.int .i64 x.Ready,.int .i64 x.Due]
theorem Xa.row_eq(x:Xa):Xa.row x= [.int .i64 x.Ship,.int .i64 x.From,.int .i64 x.To,.int .i64 x.Ready,.int .i64 x.Due]:=rfl
instance:Row Xa.row 5:=⟨fun _=>rfl,U rfl⟩
instance:FlatRow Xa.row:=⟨fun x d hd=>by simp only[Xa.row_eq,I,Z,or_false] at hd; rcases hd with rfl | rfl | rfl | rfl | rfl<;>rfl⟩
structure X1 where
 b:H N
 i:N
 h:N
 deriving DecidableEq
def X1.row(x:X1):H D:= [.sl (V r8 x.b),.int .i64 x.i,.int .i64 x.h]
theorem X1.row_eq(x:X1):X1.row x= [.sl (V r8 x.b),.int .i64 x.i,.int .i64 x.h]:=rfl
instance:Row X1.row 3:=⟨fun _=>rfl,U rfl⟩
structure X5 where
 Ship:N
 Segment:N
 Toward:O
 Start:N
 End:N
 deriving DecidableEq
def X5.row(x:X5):H D:= [.int .i64 x.Ship,.int .i64 x.Segment,.bool x.Toward,.int .i64 x.Start,.int .i64 x.End]
theorem X5.row_eq(x:X5):X5.row x= [.int .i64 x.Ship,.int .i64 x.Segment,.bool x.Toward,.int .i64 x.Start,.int .i64 x.End]:=rfl
instance:Row X5.row 5:=⟨fun _=>rfl,U rfl⟩
instance:FlatRow X5.row:=⟨fun x d hd=>by simp only[X5.row_eq,I,Z,or_false] at hd; rcases hd with rfl | rfl | rfl | rfl | rfl<;>rfl⟩
structure X0 where
 Start:N
 Arrival:N
 Cost:N
 Passages:H X5
 deriving DecidableEq
def X0.row(x:X0):H D:= [.int .i64 x.Start,.int .i64 x.Arrival,.int .i64 x.Cost,.sl (V X5.row x.Passages)]
theorem X0.row_eq(x:X0):X0.row x= [.int .i64 x.Start,.int .i64 x.Arrival,.int .i64 x.Cost,.sl (V X5.row x.Passages)]:=rfl
instance:Row X0.row 4:=⟨fun _=>rfl,U rfl⟩
structure Xi where
 Low:N
 High:N
 Plan:H X0
 deriving DecidableEq
def Xi.row(x:Xi):H D:= [.int .i64 x.Low,.int .i64 x.High,.sl (V X0.row x.Plan)]
theorem Xi.row_eq(x:Xi):Xi.row x= [.int .i64 x.Low,.int .i64 x.High,.sl (V X0.row x.Plan)]:=rfl
instance:Row Xi.row 3:=⟨fun _=>rfl,U rfl⟩
structure Xh where
 Minute:N
 Branches:H Xi
 deriving DecidableEq
def Xh.row(x:Xh):H D:= [.int .i64 x.Minute,.sl (V Xi.row x.Branches)]
theorem Xh.row_eq(x:Xh):Xh.row x= [.int .i64 x.Minute,.sl (V Xi.row x.Branches)]:=rfl
instance:Row Xh.row 2:=⟨fun _=>rfl,U rfl⟩
structure X7 where
 i0:O
 i1:O
 i2:O
 i3:O
 i4:O
 i5:O
 i6:O
 i7:O
 deriving DecidableEq
def X7.row(x:X7):H D:= [.bool x.i0,.bool x.i1,.bool x.i2,.bool x.i3,.bool x.i4,.bool x.i5,.bool x.i6,.bool x.i7]
theorem X7.row_eq(x:X7):X7.row x= [.bool x.i0,.bool x.i1,.bool x.i2,.bool x.i3,.bool x.i4,.bool x.i5,.bool x.i6,.bool x.i7]:=rfl
instance:Row X7.row 8:=⟨fun _=>rfl,U rfl⟩
def X7.set(x:X7)(n:P)(v:O):X7:=⟨bif n==0 then v else x.i0,bif n==1 then v else x.i1,bif n==2 then v else x.i2,bif n==3 then v else x.i3,bif n==4 then v else x.i4,bif n==5 then v else x.i5,bif n==6 then v else x.i6,bif n==7 then v else x.i7⟩
theorem X7.set_eq(x:X7){n:P}{v:O}(h:n<8):A31 (V AC.dat (X7.row x)) n [.dat (.bool v)]=V AC.dat (X7.row (X7.set x n v)):=by
 match n,h with
 | 0,_=>rfl
 | 1,_=>rfl
 | 2,_=>rfl
 | 3,_=>rfl
 | 4,_=>rfl
 | 5,_=>rfl
 | 6,_=>rfl
 | 7,_=>rfl
instance:FlatRow X7.row:=⟨fun x d hd=>by simp only[X7.row_eq,I,Z,or_false] at hd; rcases hd with rfl | rfl | rfl | rfl | rfl | rfl | rfl | rfl<;>rfl⟩
structure Xb where
 From:N
 To:N
 deriving DecidableEq
def Xb.row(x:Xb):H D:= [.int .i64 x.From,.int .i64 x.To]
theorem Xb.row_eq(x:Xb):Xb.row x= [.int .i64 x.From,.int .i64 x.To]:=rfl
instance:Row Xb.row 2:=⟨fun _=>rfl,U rfl⟩
instance:FlatRow Xb.row:=⟨fun x d hd=>by simp only[Xb.row_eq,I,Z,or_false] at hd; rcases hd with rfl | rfl<;>rfl⟩
structure Xl where
 waits:H O
 minutes:H N
 sure:H (H Xb)
 deriving DecidableEq
def Xl.row(x:Xl):H D:= [.sl (V rB x.waits),.sl (V rI x.minutes),.sl (V (rL Xb.row) x.sure)]
theorem Xl.row_eq(x:Xl):Xl.row x= [.sl (V rB x.waits),.sl (V rI x.minutes),.sl (V (rL Xb.row) x.sure)]:=rfl
instance:Row Xl.row 3:=⟨fun _=>rfl,U rfl⟩
structure Xk where
 i0:N
 i1:N
 deriving DecidableEq
def Xk.row(x:Xk):H D:= [.int .i64 x.i0,.int .i64 x.i1]
theorem Xk.row_eq(x:Xk):Xk.row x= [.int .i64 x.i0,.int .i64 x.i1]:=rfl
instance:Row Xk.row 2:=⟨fun _=>rfl,U rfl⟩
instance:FlatRow Xk.row:=⟨fun x d hd=>by simp only[Xk.row_eq,I,Z,or_false] at hd; rcases hd with rfl | rfl<;>rfl⟩
structure Xf where
 h:X4
 choices:H (H X0)
 plan:H X0
 choice:H N
 best:H N
 least:Xk
 found:O
abbrev U7(F_w0:FuncId)(caps_w0:H D)(x:Xf):H XC:= [.d (.int .i64 x.h.Forecast.Tide.Mean),.d (.sl (V Xe.row x.h.Forecast.Tide.Parts)),.d (.sl (V X6.row x.h.Forecast.Surges)),.d (.sl (V Xd.row x.h.Chart.Points)),.d (.sl (V X3.row x.h.Chart.Segments)),.d (.sl (V Xc.row x.h.Fleet)),.d (.int .i64 x.h.Regime.Gap),.d (.bool x.h.Regime.NoMeet),.d (.int .i64 x.h.Crew.Tugs),.d (.int .i64 x.h.Crew.Pilots),.d (.int .i64 x.h.Crew.Rest),.d (.sl (V rI x.h.Crew.Moves)),.d (.sl (V (rL X0.row) x.choices)),.d (.clo F_w0 caps_w0),.r 0,.r 1,.r 2,.d (.int .i64 x.least.i0),.d (.int .i64 x.least.i1),.d (.bool x.found)]
abbrev U6(x:Xf):I6:= [(4,V X0.row x.plan),(1,V rI x.choice),(1,V rI x.best)]
structure Xg where
 From:N
 To:N
 A:N
 B:N
 deriving DecidableEq
def Xg.row(x:Xg):H D:= [.int .i64 x.From,.int .i64 x.To,.int .i64 x.A,.int .i64 x.B]
theorem Xg.row_eq(x:Xg):Xg.row x= [.int .i64 x.From,.int .i64 x.To,.int .i64 x.A,.int .i64 x.B]:=rfl
instance:Row Xg.row 4:=⟨fun _=>rfl,U rfl⟩
instance:FlatRow Xg.row:=⟨fun x d hd=>by simp only[Xg.row_eq,I,Z,or_false] at hd; rcases hd with rfl | rfl | rfl | rfl<;>rfl⟩
structure Xj where
 sets:H N
 most:N
 groups:H N
 who:H N
 deriving DecidableEq
def Xj.row(x:Xj):H D:= [.sl (V rU x.sets),.int .i64 x.most,.sl (V rU x.groups),.sl (V rI x.who)]
theorem Xj.row_eq(x:Xj):Xj.row x= [.sl (V rU x.sets),.int .i64 x.most,.sl (V rU x.groups),.sl (V rI x.who)]:=rfl
instance:Row Xj.row 4:=⟨fun _=>rfl,U rfl⟩
abbrev K9(x:Xj):H XC:= [.d (.sl (V rU x.sets)),.d (.int .i64 x.most),.r 0,.r 1]
abbrev L0(x:Xj):I6:= [(1,V rU x.groups),(1,V rI x.who)]
def F4a:=X @E3r (X @C8l (X @C8k (X @C4z (X @C4q (X @C4n (X @C4i (X @C4s (X @C4k (X @C4l (X @C4j (X @F9u (X @F86 (X @Xe.row_eq (X @Xn.row_eq (X @X6.row_eq (X @X8.row_eq (X @Xd.row_eq (X @X3.row_eq (X @X9.row_eq (X @Xc.row_eq (X @Xm.row_eq (X @Xp.row_eq (X @X4.row_eq (X @Xa.row_eq (X @X1.row_eq (X @X5.row_eq (X @X0.row_eq (X @Xi.row_eq (X @Xh.row_eq (X @X7.row_eq (X @Xb.row_eq (X @Xl.row_eq (X @Xk.row_eq (X @Xg.row_eq (@Xj.row_eq)))))))))))))))))))))))))))))))))))
def J:=X E9y (X E73 (X F0p (X F06 F4a)))
/- spec_l01New -/
def A22(a0:H N)(v1:N):L X1:=
E (⟨a0,(0:N),v1⟩:X1)
def A1b(a0:H N):P→N→N→L X1
| 0,_,_=>G
| n+1,v1,v2=>
 if(decide (v2<(a0.length:N))) then(
 if(decide (v2<(4000:N))) then(
  (ix a0 v2).bind fun x5=>
  A1b a0 n (K6 .and .i64 (zB .i64 ((zB .i64 ((zB .i64 (v1*(79:N)))+(zB .i64 x5)))+(7:N))) (1073741823:N)) (zB .i64 (v2+(1:N))))
 else(
  A22 a0 v1))
 else(
 A22 a0 v1)
def A6s(a0:H N):L X1:=
A1b a0 bigN (zB .i64 ((1976:N)+(a0.length:N))) (0:N)
/- spec_l01Byte -/
def Y4(a0:X1):L (N × X1):=
if(decide (a0.i<(a0.b.length:N))) then(
 (ix a0.b a0.i).bind fun x2=>
 E ((K6 .and .i64 (zB .i64 ((K6 .and .i64 (K6 .xor .i64 (A1f .i64 (zB .i64 ((zB .i64 (a0.h*(6364136223846793005:N)))+(1442695040888963407:N))) 33) (A1f .i64 (zB .i64 ((zB .i64 (a0.h*(6364136223846793005:N)))+(1442695040888963407:N))) 45)) (255:N))+(zB .i64 x2))) (255:N)),(⟨a0.b,(zB .i64 (a0.i+(1:N))),(zB .i64 ((zB .i64 (a0.h*(6364136223846793005:N)))+(1442695040888963407:N)))⟩:X1)))
else(
 E ((K6 .and .i64 (K6 .xor .i64 (A1f .i64 (zB .i64 ((zB .i64 (a0.h*(6364136223846793005:N)))+(1442695040888963407:N))) 33) (A1f .i64 (zB .i64 ((zB .i64 (a0.h*(6364136223846793005:N)))+(1442695040888963407:N))) 45)) (255:N)),(⟨a0.b,a0.i,(zB .i64 ((zB .i64 (a0.h*(6364136223846793005:N)))+(1442695040888963407:N)))⟩:X1)))
/- spec_l01Below -/
def A4(a0:X1)(a1:N):L (N × X1):=
if(decide (a1≤(0:N))) then(
 E ((0:N),a0))
else(
 if(decide (a1≤(256:N))) then(
 (Y4 a0).bind fun r3=>
 if a1==0 then G else
 E ((zB .i64 (zA r3.1 a1)),r3.2))
 else(
 (Y4 a0).bind fun r5=>
 (Y4 r5.2).bind fun r6=>
 (Y4 r6.2).bind fun r7=>
 (Y4 r7.2).bind fun r9=>
 if a1==0 then G else
 E ((zB .i64 (zA (zB .i64 ((zB .i64 ((zB .i64 ((zB .i64 (r5.1*(16777216:N)))+(zB .i64 (r6.1*(65536:N)))))+(zB .i64 (r7.1*(256:N)))))+r9.1)) a1)),r9.2)))
/- spec_l01Pick -/
def A56(a0:X1)(a1:H N):L (N × X1):=
(A4 a0 (a1.length:N)).bind fun r1=>
(ix a1 r1.1).bind fun x2=>
E (x2,r1.2)
/- spec_l02Part -/
def Q5(a0:X1):L (Xe × X1):=
(A4 a0 (300:N)).bind fun r1=>
(A56 r1.2 ([(744:N),(720:N),(1440:N),(372:N),(240:N)]:H N)).bind fun r2=>
(A4 r2.2 r2.1).bind fun r3=>
E ((⟨r1.1,r2.1,r3.1⟩:Xe),r3.2)
/- spec_l02Draw -/
def A0p(r1:N × X1):P→N→(H N)→N→N→(H Xe)→L (Xn × X1)
| 0,_,_,_,_,_=>G
| n+1,v3,v4,v5,v6,v7=>
 if(decide ((0:N)<v3)) then(
 (Q5 (⟨v4,v5,v6⟩:X1)).bind fun r9=>
 if B9 v7.length ([r9.1]:H Xe).length 24 then(
  A0p r1 n (zB .i64 (v3 - (1:N))) r9.2.b r9.2.i r9.2.h (v7++([r9.1]:H Xe)))
 else G)
 else(
 E ((⟨r1.1,v7⟩:Xn),(⟨v4,v5,v6⟩:X1)))
def A6b(a0:X1):L (Xn × X1):=
(A4 a0 (300:N)).bind fun r1=>
(A4 r1.2 (2:N)).bind fun r2=>
A0p r1 bigN (zB .i64 ((1:N)+r2.1)) r2.2.b r2.2.i r2.2.h ([]:H Xe)
/- spec_l03Draw -/
def S0(r1:Xn × X1):P→N→N→(H N)→N→N→(H X6)→L (X8 × X1)
| 0,_,_,_,_,_,_=>G
| n+1,v3,v4,v5,v6,v7,v8=>
 if(decide ((0:N)<v4)) then(
 (A4 (⟨v5,v6,v7⟩:X1) (60:N)).bind fun r10=>
 (A4 r10.2 (60:N)).bind fun r11=>
 if B9 v8.length ([(⟨v3,(zB .i64 (r10.1 - (40:N))),(zB .i64 ((zB .i64 (r10.1 - (40:N)))+r11.1))⟩:X6)]:H X6).length 24 then(
  (A4 r11.2 (700:N)).bind fun r13=>
  S0 r1 n (zB .i64 ((zB .i64 (v3+(100:N)))+r13.1)) (zB .i64 (v4 - (1:N))) r13.2.b r13.2.i r13.2.h (v8++([(⟨v3,(zB .i64 (r10.1 - (40:N))),(zB .i64 ((zB .i64 (r10.1 - (40:N)))+r11.1))⟩:X6)]:H X6)))
 else G)
 else(
 E ((⟨r1.1,v8⟩:X8),(⟨v5,v6,v7⟩:X1)))
def A3t(a0:X1):L (X8 × X1):=
(A6b a0).bind fun r1=>
(A4 r1.2 (3:N)).bind fun r2=>
S0 r1 bigN (0:N) (zB .i64 ((1:N)+r2.1)) r2.2.b r2.2.i r2.2.h ([]:H X6)
/- spec_l01Once -/
def I3(a0:X1)(a1:N):L (O × X1):=
(A4 a0 a1).bind fun r1=>
E ((r1.1==(0:N)),r1.2)
/- spec_l05Draw -/
def A2f(v15:H N)(v16 v17:N)(v18:H Xd)(v19:H X3):L (X9 × X1):=
(I3 (⟨v15,v16,v17⟩:X1) (3:N)).bind fun r20=>
if r20.1 then(
 if B9 v18.length ([(⟨([100,111,99,107]:H Q),T⟩:Xd)]:H Xd).length 24 then(
 (A4 r20.2 (300:N)).bind fun r23=>
 if B9 v19.length ([(⟨(2:N),(4:N),(zB .i64 ((800:N)+r23.1)),(15:N),F⟩:X3)]:H X3).length 40 then(
  E ((⟨(v18++([(⟨([100,111,99,107]:H Q),T⟩:Xd)]:H Xd)),(v19++([(⟨(2:N),(4:N),(zB .i64 ((800:N)+r23.1)),(15:N),F⟩:X3)]:H X3))⟩:X9),r23.2))
 else G)
 else G)
else(
 E ((⟨v18,v19⟩:X9),r20.2))
def A50(a0:X1):L (X9 × X1):=
(I3 a0 (2:N)).bind fun r1=>
(A4 r1.2 (300:N)).bind fun r2=>
(A4 r2.2 (40:N)).bind fun r3=>
(A4 r3.2 (300:N)).bind fun r4=>
(A4 r4.2 (30:N)).bind fun r5=>
(I3 r5.2 (2:N)).bind fun r6=>
(A4 r6.2 (200:N)).bind fun r7=>
(A4 r7.2 (20:N)).bind fun r9=>
(I3 r9.2 (3:N)).bind fun r10=>
if r10.1 then(
 (A4 r10.2 (300:N)).bind fun r12=>
 (A4 r12.2 (30:N)).bind fun r13=>
 if B9 ([(⟨(0:N),(1:N),(zB .i64 ((900:N)+r2.1)),(zB .i64 ((10:N)+r3.1)),F⟩:X3),(⟨(1:N),(2:N),(zB .i64 ((800:N)+r4.1)),(zB .i64 ((10:N)+r5.1)),r6.1⟩:X3),(⟨(2:N),(3:N),(zB .i64 ((900:N)+r7.1)),(zB .i64 ((5:N)+r9.1)),F⟩:X3)]:H X3).length ([(⟨(3:N),(1:N),(zB .i64 ((700:N)+r12.1)),(zB .i64 ((20:N)+r13.1)),T⟩:X3)]:H X3).length 40 then(
 A2f r13.2.b r13.2.i r13.2.h ([(⟨([115,101,97]:H Q),T⟩:Xd),(⟨([98,97,114]:H Q),F⟩:Xd),(⟨([114,111,97,100]:H Q),r1.1⟩:Xd),(⟨([113,117,97,121]:H Q),T⟩:Xd)]:H Xd) (([(⟨(0:N),(1:N),(zB .i64 ((900:N)+r2.1)),(zB .i64 ((10:N)+r3.1)),F⟩:X3),(⟨(1:N),(2:N),(zB .i64 ((800:N)+r4.1)),(zB .i64 ((10:N)+r5.1)),r6.1⟩:X3),(⟨(2:N),(3:N),(zB .i64 ((900:N)+r7.1)),(zB .i64 ((5:N)+r9.1)),F⟩:X3)]:H X3)++([(⟨(3:N),(1:N),(zB .i64 ((700:N)+r12.1)),(zB .i64 ((20:N)+r13.1)),T⟩:X3)]:H X3)))
 else G)
else(
 A2f r10.2.b r10.2.i r10.2.h ([(⟨([115,101,97]:H Q),T⟩:Xd),(⟨([98,97,114]:H Q),F⟩:Xd),(⟨([114,111,97,100]:H Q),r1.1⟩:Xd),(⟨([113,117,97,121]:H Q),T⟩:Xd)]:H Xd) ([(⟨(0:N),(1:N),(zB .i64 ((900:N)+r2.1)),(zB .i64 ((10:N)+r3.1)),F⟩:X3),(⟨(1:N),(2:N),(zB .i64 ((800:N)+r4.1)),(zB .i64 ((10:N)+r5.1)),r6.1⟩:X3),(⟨(2:N),(3:N),(zB .i64 ((900:N)+r7.1)),(zB .i64 ((5:N)+r9.1)),F⟩:X3)]:H X3))
/- spec_FormatInt -/
def A47(rec_:N→L (H Q)):P→N→(H Q)→L (H Q)
| 0,_,_=>G
| n+1,v6,v7=>
 if(decide ((9:N)<v6)) then(
 if B1w ([(IntKind.u8.wrap (zB .i64 ((48:N)+(zB .i64 (zA v6 (10:N))))))]:H N).length v7.length then(
  A47 rec_ n (zB .i64 (C v6 (10:N))) ((V C7y ([(IntKind.u8.wrap (zB .i64 ((48:N)+(zB .i64 (zA v6 (10:N))))))]:H N))++v7))
 else G)
 else(
 if B1w ([(IntKind.u8.wrap (zB .i64 ((48:N)+v6)))]:H N).length v7.length then(
  E ((V C7y ([(IntKind.u8.wrap (zB .i64 ((48:N)+v6)))]:H N))++v7))
 else G)
def A7p(rec_:N→L (H Q))(a0:N):L (H Q):=
if(decide (a0<(0:N))) then(
 if((zB .i64 (C a0 (10:N)))==(0:N)) then(
 if B1w ([45]:H Q).length ([(IntKind.u8.wrap (zB .i64 ((48:N) - a0)))]:H N).length then(
  E (([45]:H Q)++(V C7y ([(IntKind.u8.wrap (zB .i64 ((48:N) - a0)))]:H N))))
 else G)
 else(
 (rec_ (zB .i64 (C a0 (10:N)))).bind fun r4=>
 if B1w r4.length ([(IntKind.u8.wrap (zB .i64 ((48:N) - (zB .i64 (zA a0 (10:N))))))]:H N).length then(
  E (r4++(V C7y ([(IntKind.u8.wrap (zB .i64 ((48:N) - (zB .i64 (zA a0 (10:N))))))]:H N))))
 else G))
else(
 A47 rec_ bigN a0 ([]:H Q))
def A2o:P→N→L (H Q)
| 0,_=>G
| n+1,a0=>A7p (A2o n) a0
def A8v(a0:N):L (H Q):=A2o bigN a0
/- spec_l06Ship -/
def A3y(a0:X1)(a1:N):L (Xc × X1):=
(A8v a1).bind fun r1=>
if B1w ([115]:H Q).length r1.length then(
 (A4 a0 (200:N)).bind fun r3=>
 (A4 r3.2 (500:N)).bind fun r4=>
 (A4 r4.2 (4:N)).bind fun r5=>
 (A4 r5.2 (3:N)).bind fun r6=>
 (I3 r6.2 (4:N)).bind fun r7=>
 E ((⟨(([115]:H Q)++r1),(zB .i64 ((40:N)+r3.1)),(zB .i64 ((600:N)+r4.1)),r5.1,r6.1,r7.1⟩:Xc),r7.2))
else G
/- spec_l06Fleet -/
def Z3:P→N→(H N)→N→N→(H Xc)→L ((H Xc) × X1)
| 0,_,_,_,_,_=>G
| n+1,v2,v3,v4,v5,v6=>
 if(decide ((0:N)<v2)) then(
 (A3y (⟨v3,v4,v5⟩:X1) (v6.length:N)).bind fun r9=>
 if B9 v6.length ([r9.1]:H Xc).length 56 then(
  Z3 n (zB .i64 (v2 - (1:N))) r9.2.b r9.2.i r9.2.h (v6++([r9.1]:H Xc)))
 else G)
 else(
 E (v6,(⟨v3,v4,v5⟩:X1)))
def A5d(a0:X1)(a1:N):L ((H Xc) × X1):=
(A4 a0 a1).bind fun r1=>
Z3 bigN (zB .i64 ((1:N)+r1.1)) r1.2.b r1.2.i r1.2.h ([]:H Xc)
/- spec_l09Regime -/
def A37(a0:X1):L (Xm × X1):=
(A4 a0 (30:N)).bind fun r1=>
(I3 r1.2 (4:N)).bind fun r2=>
E ((⟨r1.1,r2.1⟩:Xm),r2.2)
/- spec_StayingMoves -/
def A4v:L (H N):=
(mkS (64:N) (64:N) 8).bind fun n1=>
E (Y n1 (0:N))
/- spec_l13Moves -/
def T1(r1:(H N)):P→N→(H N)→N→N→(H N)→L ((H N) × X1)
| 0,_,_,_,_,_=>G
| n+1,v2,v3,v4,v5,v6=>
 if(decide (v2<(r1.length:N))) then(
 if((zB .i64 (zA v2 (9:N))) !=(0:N)) then(
  (A4 (⟨v3,v4,v5⟩:X1) (5:N)).bind fun r9=>
  (ix v6 v2).bind fun x10=>
  T1 r1 n (zB .i64 (v2+(1:N))) r9.2.b r9.2.i r9.2.h (v6.set (W v2) (zB .i64 ((5:N)*r9.1))))
 else(
  T1 r1 n (zB .i64 (v2+(1:N))) v3 v4 v5 v6))
 else(
 E (v6,(⟨v3,v4,v5⟩:X1)))
def A5b(a0:X1):L ((H N) × X1):=
(A4v).bind fun r1=>
T1 r1 bigN (0:N) a0.b a0.i a0.h r1
/- spec_l14Crew -/
def A53(a0:X1):L (Xp × X1):=
(A4 a0 (4:N)).bind fun r1=>
(A4 r1.2 (3:N)).bind fun r2=>
(A4 r2.2 (60:N)).bind fun r3=>
(A5b r3.2).bind fun r4=>
E ((⟨(zB .i64 ((1:N)+r1.1)),(zB .i64 ((1:N)+r2.1)),r3.1,r4.1⟩:Xp),r4.2)
/- spec_l15Harbour -/
def T7(r3:(H Xc) × X1)(r5:Xp × X1)(r1:X8 × X1)(r2:X9 × X1)(r4:Xm × X1)(y7:N):P→N→(H Xc)→L (X4 × X1)
| 0,_,_=>G
| n+1,v6,v8=>
 if(decide (v6<(r3.1.length:N))) then(
 (ix v8 v6).bind fun x10=>
 T7 r3 r5 r1 r2 r4 y7 n (zB .i64 (v6+(1:N))) (v8.set (W v6) (⟨x10.Name,x10.Length,x10.Draught,x10.Line,(if(1:N)<x10.Tugs then(1:N) else x10.Tugs),x10.Slow⟩:Xc)))
 else(
 E ((⟨(⟨(⟨y7,r1.1.Tide.Parts⟩:Xn),r1.1.Surges⟩:X8),r2.1,v8,r4.1,r5.1⟩:X4),r5.2))
def A3n(a0:X1):L (X4 × X1):=
(A3t a0).bind fun r1=>
(A50 r1.2).bind fun r2=>
(A5d r2.2 (3:N)).bind fun r3=>
(A37 r3.2).bind fun r4=>
(A53 r4.2).bind fun r5=>
T7 r3 r5 r1 r2 r4 (zB .i64 (r1.1.Tide.Mean+(150:N))) bigN (0:N) r3.1
/- spec_l15Call -/
def A30(r2:O × X1)(a1 v4:N)(v5 v6:N):L (Xa × X1):=
(A4 r2.2 (400:N)).bind fun r7=>
E ((⟨a1,v4,v5,v6,(zB .i64 ((zB .i64 (v6+(60:N)))+r7.1))⟩:Xa),r7.2)
def A3x(a0:X1)(a1:N):L (Xa × X1):=
(A4 a0 (30:N)).bind fun r1=>
(I3 r1.2 (3:N)).bind fun r2=>
if r2.1 then(
 A30 r2 a1 (3:N) (0:N) (zB .i64 ((15:N)*r1.1)))
else(
 A30 r2 a1 (0:N) (3:N) (zB .i64 ((15:N)*r1.1)))
/- spec_l16Case -/
def V6(v2:N)(r1:X4 × X1)(v6:H Xa)(A4q:N→(H N)→N→N→(H Xa)→L (X4 × (H Xa) × X1))(v10:O)(v11:H N)(v12 v13:N):L (X4 × (H Xa) × X1):=
if v10 then(
 (A3x (⟨v11,v12,v13⟩:X1) v2).bind fun r15=>
 if B9 v6.length ([r15.1]:H Xa).length 40 then(
 A4q (zB .i64 (v2+(1:N))) r15.2.b r15.2.i r15.2.h (v6++([r15.1]:H Xa)))
 else G)
else(
 A4q (zB .i64 (v2+(1:N))) v11 v12 v13 v6)
def J2(r1:X4 × X1):P→N→(H N)→N→N→(H Xa)→L (X4 × (H Xa) × X1)
| 0,_,_,_,_,_=>G
| n+1,v2,v3,v4,v5,v6=>
 if(decide (v2<(r1.1.Fleet.length:N))) then(
 if(v2==(0:N)) then(
  V6 v2 r1 v6 (J2 r1 n) T v3 v4 v5)
 else(
  (I3 (⟨v3,v4,v5⟩:X1) (4:N)).bind fun r9=>
  V6 v2 r1 v6 (J2 r1 n) (!r9.1) r9.2.b r9.2.i r9.2.h))
 else(
 E (r1.1,v6,(⟨v3,v4,v5⟩:X1)))
def A7x(a0:X1):L (X4 × (H Xa) × X1):=
(A3n a0).bind fun r1=>
J2 r1 bigN (0:N) r1.2.b r1.2.i r1.2.h ([]:H Xa)
/- spec_l03Surge -/
def T5(a1:N)(a0:X8):P→N→N→N→N→L X6
| 0,_,_,_,_=>G
| n+1,v2,v3,v4,v5=>
 if(decide (v2<(a0.Surges.length:N))) then(
 (ix a0.Surges v2).bind fun x7=>
 if(decide (x7.From≤a1)) then(
  T5 a1 a0 n (zB .i64 (v2+(1:N))) x7.From x7.Low x7.High)
 else(
  T5 a1 a0 n (zB .i64 (v2+(1:N))) v3 v4 v5))
 else(
 E (⟨v3,v4,v5⟩:X6))
def A46(a0:X8)(a1:N):L X6:=
(ix a0.Surges (0:N)).bind fun x1=>
T5 a1 a0 bigN (0:N) x1.From x1.Low x1.High
/- spec_l19Case -/
def A4m(r2:N × X1)(r1:X4 × (H Xa) × X1)(v4:H Xa)(v19:H N)(v20 v21:N)(v22:H N):L (X4 × (H Xa) × N × (H N) × X1):=
E (r1.1,v4,r2.1,v22,(⟨v19,v20,v21⟩:X1))
def A0i(r2:N × X1)(r1:X4 × (H Xa) × X1)(r9:X6)(v4:H Xa)(v12:O)(v13:H N)(v14 v15:N):L (X4 × (H Xa) × N × (H N) × X1):=
if v12 then(
 (A4 (⟨v13,v14,v15⟩:X1) (zB .i64 (r9.High - r9.Low))).bind fun r17=>
 if B9 ([]:H N).length ([(zB .i64 ((zB .i64 (r9.Low+(1:N)))+r17.1))]:H N).length 8 then(
 A4m r2 r1 v4 r17.2.b r17.2.i r17.2.h ([(zB .i64 ((zB .i64 (r9.Low+(1:N)))+r17.1))]:H N))
 else G)
else(
 A4m r2 r1 v4 v13 v14 v15 ([]:H N))
def A0j(r2:N × X1)(r1:X4 × (H Xa) × X1):P→N→(H Xa)→L (X4 × (H Xa) × N × (H N) × X1)
| 0,_,_=>G
| n+1,v3,v4=>
 if(decide (v3<(r1.2.1.length:N))) then(
 (ix v4 v3).bind fun x6=>
 (ix (v4.set (W v3) (⟨x6.Ship,x6.From,x6.To,(zB .i64 (x6.Ready+r2.1)),x6.Due⟩:Xa)) v3).bind fun x7=>
 A0j r2 r1 n (zB .i64 (v3+(1:N))) ((v4.set (W v3) (⟨x6.Ship,x6.From,x6.To,(zB .i64 (x6.Ready+r2.1)),x6.Due⟩:Xa)).set (W v3) (⟨x7.Ship,x7.From,x7.To,x7.Ready,(zB .i64 (x7.Due+r2.1))⟩:Xa)))
 else(
 (A46 r1.1.Forecast r2.1).bind fun r9=>
 if(decide (r9.Low<r9.High)) then(
  (I3 r2.2 (3:N)).bind fun r11=>
  A0i r2 r1 r9 v4 (!r11.1) r11.2.b r11.2.i r11.2.h)
 else(
  A0i r2 r1 r9 v4 F r2.2.b r2.2.i r2.2.h))
def A7v(a0:X1):L (X4 × (H Xa) × N × (H N) × X1):=
(A7x a0).bind fun r1=>
(A4 r1.2.2 (120:N)).bind fun r2=>
A0j r2 r1 bigN (0:N) r1.2.1
/- spec_MakeWait -/
def A5o(a0:H N):L (X4 × (H Xa) × N × (H N)):=
(A6s a0).bind fun r1=>
(A7v r1).bind fun r2=>
E (r2.1,r2.2.1,r2.2.2.1,r2.2.2.2.1)
/- impl_within -/
def E3(a0 a1 a2:N):L O:=
if(decide (a1≤a0)) then(
 E (decide (a0≤a2)))
else(
 E F)
/- impl_isPeriod -/
def A2y(a0:N):L O:=
(E3 a0 (4:N) (2880:N)).bind fun r1=>
if r1 then(
 E ((zB .i64 (zA a0 (4:N)))==(0:N)))
else(
 E F)
/- impl_PartOk -/
def A62(a0:Xe):L O:=
(E3 a0.Amp (0:N) (1000:N)).bind fun r1=>
if r1 then(
 (A2y a0.Period).bind fun r3=>
 if r3 then(
 (E3 a0.Phase (0:N) (zB .i64 (a0.Period - (1:N)))).bind fun r5=>
 E r5)
 else(
 E F))
else(
 E F)
/- impl_TideOk -/
def A09(a0:Xn):P→N→L O
| 0,_=>G
| n+1,v4=>
 if(decide (v4<(a0.Parts.length:N))) then(
 (ix a0.Parts v4).bind fun x6=>
 (A62 x6).bind fun r7=>
 if r7 then(
  A09 a0 n (zB .i64 (v4+(1:N))))
 else(
  E F))
 else(
 E T)
def A61(a0:Xn):L O:=
(E3 a0.Mean (-1000:N) (1000:N)).bind fun r1=>
if r1 then(
 if(decide ((4:N)<(a0.Parts.length:N))) then(
 E F)
 else(
 A09 a0 bigN (0:N)))
else(
 E F)
/- impl_isMinute -/
def G9(a0:N):L O:=
(E3 a0 (0:N) (2880:N)).bind fun r1=>
E r1
/- impl_SurgeOk -/
def A57(a0:X6):L O:=
(G9 a0.From).bind fun r1=>
if r1 then(
 if(decide ((-500:N)≤a0.Low)) then(
 if(decide (a0.Low≤a0.High)) then(
  E (decide (a0.High≤(500:N))))
 else(
  E F))
 else(
 E F))
else(
 E F)
/- impl_ForecastOk -/
def P0(a0:X8):P→N→L O
| 0,_=>G
| n+1,v7=>
 if(decide (v7<(a0.Surges.length:N))) then(
 (ix a0.Surges v7).bind fun x9=>
 (A57 x9).bind fun r10=>
 if r10 then(
  if(decide ((0:N)<v7)) then(
  (ix a0.Surges (zB .i64 (v7 - (1:N)))).bind fun x13=>
  if(decide (x9.From≤x13.From)) then(
   E F)
  else(
   P0 a0 n (zB .i64 (v7+(1:N)))))
  else(
  P0 a0 n (zB .i64 (v7+(1:N)))))
 else(
  E F))
 else(
 E T)
def I4(a0:X8):L O:=
(A61 a0.Tide).bind fun r1=>
if r1 then(
 (E3 (a0.Surges.length:N) (1:N) (6:N)).bind fun r3=>
 if r3 then(
 (ix a0.Surges (0:N)).bind fun x5=>
 if(x5.From !=(0:N)) then(
  E F)
 else(
  P0 a0 bigN (0:N)))
 else(
 E F))
else(
 E F)
/- impl_Forecast_surge -/
def E8(a1:N)(a0:X8):P→N→N→L N
| 0,_,_=>G
| n+1,v1,v2=>
 if(decide (v2<(a0.Surges.length:N))) then(
 (ix a0.Surges v2).bind fun x4=>
 if(decide (x4.From≤a1)) then(
  E8 a1 a0 n v2 (zB .i64 (v2+(1:N))))
 else(
  E8 a1 a0 n v1 (zB .i64 (v2+(1:N)))))
 else(
 E v1)
def C5(a0:X8)(a1:N):L N:=
E8 a1 a0 bigN (0:N) (0:N)
/- impl_SurgeAt -/
def A4b(a1:N)(a0:X8)(v4:O):L (N × N × O):=
if v4 then(
 E ((0:N),(0:N),F))
else(
 (C5 a0 a1).bind fun r6=>
 (ix a0.Surges r6).bind fun x7=>
 E (x7.Low,x7.High,T))
def S8(a0:X8)(a1:N):L (N × N × O):=
(I4 a0).bind fun r1=>
if r1 then(
 (G9 a1).bind fun r3=>
 A4b a1 a0 (!r3))
else(
 A4b a1 a0 T)
/- impl_IsName -/
def A5g(a0:H Q)(v3:N)(M1:N→L O):L O:=
M1 (zB .i64 (v3+(1:N)))
def A5f(a0:H Q)(v3:N)(M1:N→L O)(v7:O):L O:=
if v7 then(
 A5g a0 v3 M1)
else(
 if(v3==(0:N)) then(
 E F)
 else(
 (ix a0 v3).bind fun b10=>
 if(decide ((b10.toNat:N)<(48:N))) then(
  E F)
 else(
  if(decide ((57:N)<(b10.toNat:N))) then(
  E F)
  else(
  A5g a0 v3 M1))))
def Q8(a0:H Q):P→N→L O
| 0,_=>G
| n+1,v3=>
 if(decide (v3<(a0.length:N))) then(
 (ix a0 v3).bind fun b5=>
 if(decide ((97:N)≤(b5.toNat:N))) then(
  A5f a0 v3 (Q8 a0 n) (decide ((b5.toNat:N)≤(122:N))))
 else(
  A5f a0 v3 (Q8 a0 n) F))
 else(
 E T)
def A42(a0:H Q):L O:=
(E3 (a0.length:N) (1:N) (8:N)).bind fun r1=>
if r1 then(
 Q8 a0 bigN (0:N))
else(
 E F)
/- impl_PointNamed -/
def U3(a1:H Q)(a0:X9):P→N→L N
| 0,_=>G
| n+1,v1=>
 if(decide (v1<(a0.Points.length:N))) then(
 (ix a0.Points v1).bind fun x3=>
 if(x3.Name==a1) then(
  E v1)
 else(
  U3 a1 a0 n (zB .i64 (v1+(1:N)))))
 else(
 E (-1:N))
def A3c(a0:X9)(a1:H Q):L N:=
U3 a1 a0 bigN (0:N)
/- impl_isIndex -/
def D9(a0 a1:N):L O:=
if(decide ((0:N)≤a0)) then(
 E (decide (a0<a1)))
else(
 E F)
/- impl_Segment_joins -/
def A1a(a0:X3)(a1 a2:N):L O:=
if(a0.A==a1) then(
 if(a0.B==a2) then(
 E T)
 else(
 if(a0.A==a2) then(
  E (a0.B==a1))
 else(
  E F)))
else(
 if(a0.A==a2) then(
 E (a0.B==a1))
 else(
 E F))
/- impl_ChartOk -/
def A0m(a0:X9)(v11:N)(x13:X3)(y24:H X3)(y25:N)(A4k:N→L O):P→N→L O
| 0,_=>G
| n+1,v26=>
 if(decide (v26<y25)) then(
 (ix y24 v26).bind fun x28=>
 (A1a x28 x13.A x13.B).bind fun r29=>
 if r29 then(
  E F)
 else(
  A0m a0 v11 x13 y24 y25 A4k n (zB .i64 (v26+(1:N)))))
 else(
 A4k (zB .i64 (v11+(1:N))))
def M3(a0:X9):P→N→L O
| 0,_=>G
| n+1,v11=>
 if(decide (v11<(a0.Segments.length:N))) then(
 (ix a0.Segments v11).bind fun x13=>
 (D9 x13.A (a0.Points.length:N)).bind fun r14=>
 if r14 then(
  (D9 x13.B (a0.Points.length:N)).bind fun r16=>
  if r16 then(
  if(x13.A==x13.B) then(
   E F)
  else(
   (E3 x13.Depth (0:N) (3000:N)).bind fun r19=>
   if r19 then(
   (E3 x13.Minutes (1:N) (240:N)).bind fun r21=>
   if r21 then(
    (bnd (a0.Segments.length:N) v11 (0:N) a0.Segments.length).bind fun p23=>
    A0m a0 v11 x13 ((a0.Segments.drop p23.1).take (p23.2 - p23.1)) (((a0.Segments.drop p23.1).take (p23.2 - p23.1)).length:N) (M3 a0 n) bigN (0:N))
   else(
    E F))
   else(
   E F)))
  else(
  E F))
 else(
  E F))
 else(
 E T)
def A0f(a0:X9):P→N→L O
| 0,_=>G
| n+1,v3=>
 if(decide (v3<(a0.Points.length:N))) then(
 (ix a0.Points v3).bind fun x5=>
 (A42 x5.Name).bind fun r6=>
 if r6 then(
  (A3c a0 x5.Name).bind fun r9=>
  if(r9 !=v3) then(
  E F)
  else(
  A0f a0 n (zB .i64 (v3+(1:N)))))
 else(
  E F))
 else(
 M3 a0 bigN (0:N))
def N8(a0:X9):L O:=
if(decide ((8:N)<(a0.Points.length:N))) then(
 E F)
else(
 if(decide ((10:N)<(a0.Segments.length:N))) then(
 E F)
 else(
 A0f a0 bigN (0:N)))
/- impl_ShipOk -/
def Y1(a0:Xc):L O:=
(A42 a0.Name).bind fun r1=>
if r1 then(
 (E3 a0.Length (10:N) (400:N)).bind fun r3=>
 if r3 then(
 (E3 a0.Draught (100:N) (2000:N)).bind fun r5=>
 if r5 then(
  (D9 a0.Line (4:N)).bind fun r7=>
  if r7 then(
  (E3 a0.Tugs (0:N) (4:N)).bind fun r9=>
  E r9)
  else(
  E F))
 else(
  E F))
 else(
 E F))
else(
 E F)
/- impl_ShipNamed -/
def V8(a1:H Q)(a0:H Xc):P→N→L N
| 0,_=>G
| n+1,v1=>
 if(decide (v1<(a0.length:N))) then(
 (ix a0 v1).bind fun x3=>
 if(x3.Name==a1) then(
  E v1)
 else(
  V8 a1 a0 n (zB .i64 (v1+(1:N)))))
 else(
 E (-1:N))
def A35(a0:H Xc)(a1:H Q):L N:=
V8 a1 a0 bigN (0:N)
/- impl_FleetOk -/
def A0k(a0:H Xc):P→N→L O
| 0,_=>G
| n+1,v2=>
 if(decide (v2<(a0.length:N))) then(
 (ix a0 v2).bind fun x4=>
 (Y1 x4).bind fun r5=>
 if r5 then(
  (A35 a0 x4.Name).bind fun r7=>
  if(r7 !=v2) then(
  E F)
  else(
  A0k a0 n (zB .i64 (v2+(1:N)))))
 else(
  E F))
 else(
 E T)
def A3u(a0:H Xc):L O:=
if(decide ((6:N)<(a0.length:N))) then(
 E F)
else(
 A0k a0 bigN (0:N))
/- impl_RegimeOk -/
def A7g(a0:Xm):L O:=
(E3 a0.Gap (0:N) (60:N)).bind fun r1=>
E r1
/- impl_movesOk -/
def Y0(a0:H N):P→N→L O
| 0,_=>G
| n+1,v2=>
 if(decide (v2<(a0.length:N))) then(
 (ix a0 v2).bind fun x4=>
 (E3 x4 (0:N) (240:N)).bind fun r5=>
 if r5 then(
  Y0 a0 n (zB .i64 (v2+(1:N))))
 else(
  E F))
 else(
 E T)
def A0u(a0:H N):L O:=
if((a0.length:N) !=(64:N)) then(
 E F)
else(
 Y0 a0 bigN (0:N))
/- impl_CrewOk -/
def A6v(a0:Xp):L O:=
(E3 a0.Tugs (0:N) (12:N)).bind fun r1=>
if r1 then(
 (E3 a0.Pilots (0:N) (12:N)).bind fun r3=>
 if r3 then(
 (G9 a0.Rest).bind fun r5=>
 if r5 then(
  (A0u a0.Moves).bind fun r7=>
  E r7)
 else(
  E F))
 else(
 E F))
else(
 E F)
/- impl_HarbourOk -/
def W4(a0:X4):L O:=
(I4 a0.Forecast).bind fun r1=>
if r1 then(
 (N8 a0.Chart).bind fun r3=>
 if r3 then(
 (A3u a0.Fleet).bind fun r5=>
 if r5 then(
  (A7g a0.Regime).bind fun r7=>
  if r7 then(
  (A6v a0.Crew).bind fun r9=>
  E r9)
  else(
  E F))
 else(
  E F))
 else(
 E F))
else(
 E F)
/- impl_callOk -/
def A41(a0:X4)(a1:Xa):L O:=
(D9 a1.Ship (a0.Fleet.length:N)).bind fun r1=>
if r1 then(
 (D9 a1.From (a0.Chart.Points.length:N)).bind fun r3=>
 if r3 then(
 (D9 a1.To (a0.Chart.Points.length:N)).bind fun r5=>
 if r5 then(
  if(a1.From !=a1.To) then(
  (G9 a1.Ready).bind fun r9=>
  if r9 then(
   (E3 a1.Due a1.Ready (2880:N)).bind fun r11=>
   E r11)
  else(
   E F))
  else(
  E F))
 else(
  E F))
 else(
 E F))
else(
 E F)
/- impl_CallsOk -/
def A0n(a1:H Xa)(v4:N)(a0:X4)(x6:Xa)(y10:H Xa)(y11:N)(A4d:N→L O):P→N→L O
| 0,_=>G
| n+1,v12=>
 if(decide (v12<y11)) then(
 (ix y10 v12).bind fun x14=>
 if(x14.Ship==x6.Ship) then(
  E F)
 else(
  A0n a1 v4 a0 x6 y10 y11 A4d n (zB .i64 (v12+(1:N)))))
 else(
 A4d (zB .i64 (v4+(1:N))))
def R8(a1:H Xa)(a0:X4):P→N→L O
| 0,_=>G
| n+1,v4=>
 if(decide (v4<(a1.length:N))) then(
 (ix a1 v4).bind fun x6=>
 (A41 a0 x6).bind fun r7=>
 if r7 then(
  (bnd (a1.length:N) v4 (0:N) a1.length).bind fun p9=>
  A0n a1 v4 a0 x6 ((a1.drop p9.1).take (p9.2 - p9.1)) (((a1.drop p9.1).take (p9.2 - p9.1)).length:N) (R8 a1 a0 n) bigN (0:N))
 else(
  E F))
 else(
 E T)
def O0(a0:X4)(a1:H Xa):L O:=
(W4 a0).bind fun r1=>
if r1 then(
 if(decide ((6:N)<(a1.length:N))) then(
 E F)
 else(
 R8 a1 a0 bigN (0:N)))
else(
 E F)
/- impl_cutsOk -/
def Z8(a0:H N)(a1 a2:N):P→N→L O
| 0,_=>G
| n+1,v2=>
 if(decide (v2<(a0.length:N))) then(
 (ix a0 v2).bind fun x4=>
 if(decide (x4≤a1)) then(
  E F)
 else(
  if(decide (a2<x4)) then(
  E F)
  else(
  if(decide ((0:N)<v2)) then(
   (ix a0 (zB .i64 (v2 - (1:N)))).bind fun x8=>
   if(decide (x4≤x8)) then(
   E F)
   else(
   Z8 a0 a1 a2 n (zB .i64 (v2+(1:N)))))
  else(
   Z8 a0 a1 a2 n (zB .i64 (v2+(1:N)))))))
 else(
 E T)
def A6u(a0:H N)(a1 a2:N):L O:=
if(decide ((3:N)<(a0.length:N))) then(
 E F)
else(
 Z8 a0 a1 a2 bigN (0:N))
/- impl_clone_int -/
def D5(a0:H N):L (H N):=
(mkS (0:N) (a0.length:N) 8).bind fun n1=>
if B9 (Y n1 (0:N)).length a0.length 8 then(
 E ((Y n1 (0:N))++a0))
else G
/- impl_clone_Part -/
def A3j(a0:H Xe):L (H Xe):=
(mkS (0:N) (a0.length:N) 24).bind fun n1=>
if B9 (Y n1 (⟨(0:N),(0:N),(0:N)⟩:Xe)).length a0.length 24 then(
 E ((Y n1 (⟨(0:N),(0:N),(0:N)⟩:Xe))++a0))
else G
/- impl_copyTide -/
def A20(a0:Xn):L Xn:=
(A3j a0.Parts).bind fun r1=>
E (⟨a0.Mean,r1⟩:Xn)
/- impl_clone_Surge -/
def L7(a0:H X6):L (H X6):=
(mkS (0:N) (a0.length:N) 24).bind fun n1=>
if B9 (Y n1 (⟨(0:N),(0:N),(0:N)⟩:X6)).length a0.length 24 then(
 E ((Y n1 (⟨(0:N),(0:N),(0:N)⟩:X6))++a0))
else G
/- impl_ReviseBand -/
def A0a(a1 a2:N)(a3 r6:N)(a0:X8)(x7:X6)(r9:Xn)(v14:H X6):L (X8 × O):=
(ix v14 (zB .i64 ((v14.length:N) - (1:N)))).bind fun x15=>
(bnd (a0.Surges.length:N) (a0.Surges.length:N) (zB .i64 (r6+(1:N))) a0.Surges.length).bind fun p16=>
if B9 (v14.set (W (zB .i64 ((v14.length:N) - (1:N)))) (⟨a1,(if x7.Low<a2 then a2 else x7.Low),(if a3<x7.High then a3 else x7.High)⟩:X6)).length ((a0.Surges.drop p16.1).take (p16.2 - p16.1)).length 24 then(
 (I4 (⟨r9,((v14.set (W (zB .i64 ((v14.length:N) - (1:N)))) (⟨a1,(if x7.Low<a2 then a2 else x7.Low),(if a3<x7.High then a3 else x7.High)⟩:X6))++((a0.Surges.drop p16.1).take (p16.2 - p16.1)))⟩:X8)).bind fun r18=>
 if r18 then(
 E ((⟨r9,((v14.set (W (zB .i64 ((v14.length:N) - (1:N)))) (⟨a1,(if x7.Low<a2 then a2 else x7.Low),(if a3<x7.High then a3 else x7.High)⟩:X6))++((a0.Surges.drop p16.1).take (p16.2 - p16.1)))⟩:X8),T))
 else(
 E ((⟨(⟨(0:N),([]:H Xe)⟩:Xn),([]:H X6)⟩:X8),F)))
else G
def A1y(a1 a2 a3:N)(a0:X8)(v4:O):L (X8 × O):=
if v4 then(
 E ((⟨(⟨(0:N),([]:H Xe)⟩:Xn),([]:H X6)⟩:X8),F))
else(
 (C5 a0 a1).bind fun r6=>
 (ix a0.Surges r6).bind fun x7=>
 (A20 a0.Tide).bind fun r9=>
 (bnd (a0.Surges.length:N) (zB .i64 (r6+(1:N))) (0:N) a0.Surges.length).bind fun p10=>
 (L7 ((a0.Surges.drop p10.1).take (p10.2 - p10.1))).bind fun r11=>
 if(x7.From !=a1) then(
 if B9 r11.length ([(⟨(0:N),(0:N),(0:N)⟩:X6)]:H X6).length 24 then(
  A0a a1 a2 a3 r6 a0 x7 r9 (r11++([(⟨(0:N),(0:N),(0:N)⟩:X6)]:H X6)))
 else G)
 else(
 A0a a1 a2 a3 r6 a0 x7 r9 r11))
def A3d(a0:X8)(a1 a2 a3:N):L (X8 × O):=
(I4 a0).bind fun r1=>
if r1 then(
 (G9 a1).bind fun r3=>
 A1y a1 a2 a3 a0 (!r3))
else(
 A1y a1 a2 a3 a0 T)
/- impl_copyForecast -/
def A4t(a0:X8):L X8:=
(A20 a0.Tide).bind fun r1=>
(L7 a0.Surges).bind fun r2=>
E (⟨r1,r2⟩:X8)
/- impl_clone_Point -/
def A2w(a0:H Xd):L (H Xd):=
(mkS (0:N) (a0.length:N) 24).bind fun n1=>
if B9 (Y n1 (⟨([]:H Q),F⟩:Xd)).length a0.length 24 then(
 E ((Y n1 (⟨([]:H Q),F⟩:Xd))++a0))
else G
/- impl_clone_Segment -/
def A03(a0:H X3):L (H X3):=
(mkS (0:N) (a0.length:N) 40).bind fun n1=>
if B9 (Y n1 (⟨(0:N),(0:N),(0:N),(0:N),F⟩:X3)).length a0.length 40 then(
 E ((Y n1 (⟨(0:N),(0:N),(0:N),(0:N),F⟩:X3))++a0))
else G
/- impl_clone_Ship -/
def A3i(a0:H Xc):L (H Xc):=
(mkS (0:N) (a0.length:N) 56).bind fun n1=>
if B9 (Y n1 (⟨([]:H Q),(0:N),(0:N),(0:N),(0:N),F⟩:Xc)).length a0.length 56 then(
 E ((Y n1 (⟨([]:H Q),(0:N),(0:N),(0:N),(0:N),F⟩:Xc))++a0))
else G
/- impl_copyHarbour -/
def A2m(a0:X4):L X4:=
(A4t a0.Forecast).bind fun r1=>
(A2w a0.Chart.Points).bind fun r2=>
(A03 a0.Chart.Segments).bind fun r3=>
(A3i a0.Fleet).bind fun r4=>
(D5 a0.Crew.Moves).bind fun r5=>
E (⟨r1,(⟨r2,r3⟩:X9),r4,a0.Regime,(⟨a0.Crew.Tugs,a0.Crew.Pilots,a0.Crew.Rest,r5⟩:Xp)⟩:X4)
/- impl_AfterReading -/
def A0s(a0:X4)(r1:X8 × O)(v4:O):L (X4 × O):=
if v4 then(
 E ((⟨(⟨(⟨(0:N),([]:H Xe)⟩:Xn),([]:H X6)⟩:X8),(⟨([]:H Xd),([]:H X3)⟩:X9),([]:H Xc),(⟨(0:N),F⟩:Xm),(⟨(0:N),(0:N),(0:N),([]:H N)⟩:Xp)⟩:X4),F))
else(
 (A2m a0).bind fun r6=>
 E ((⟨r1.1,r6.Chart,r6.Fleet,r6.Regime,r6.Crew⟩:X4),T))
def O9(a0:X4)(a1 a2 a3:N):L (X4 × O):=
(A3d a0.Forecast a1 a2 a3).bind fun r1=>
if r1.2 then(
 (W4 a0).bind fun r3=>
 A0s a0 r1 (!r3))
else(
 A0s a0 r1 T)
/- impl_CallOk -/
def A4y(a0:X4)(a1:Xa):L O:=
(W4 a0).bind fun r1=>
if r1 then(
 (A41 a0 a1).bind fun r3=>
 E r3)
else(
 E F)
/- impl_Segment_end -/
def A0q(a0:X3)(a1:N):L N:=
if(a1==a0.A) then(
 E a0.B)
else(
 if(a1==a0.B) then(
 E a0.A)
 else(
 E (-1:N)))
/- impl_Chart_routesFrom -/
def L2(rec_:X9→N→N→(H N)→X7→(H (H N))→L (H (H N)))(a1 a2:N)(a3:H N)(v6 r11:N)(a0:X9)(y7:X7)(v8:H (H N))(U8:N→(H (H N))→L (H (H N)))(v16:O):L (H (H N)):=
if v16 then(
 (D5 a3).bind fun r18=>
 if B9 r18.length ([v6]:H N).length 8 then(
 (rec_ a0 r11 a2 (r18++([v6]:H N)) y7 v8).bind fun r20=>
 U8 (zB .i64 (v6+(1:N))) r20)
 else G)
else(
 U8 (zB .i64 (v6+(1:N))) v8)
def F1(rec_:X9→N→N→(H N)→X7→(H (H N))→L (H (H N)))(a1 a2:N)(a3:H N)(a0:X9)(y7:X7):P→N→(H (H N))→L (H (H N))
| 0,_,_=>G
| n+1,v6,v8=>
 if(decide (v6<(a0.Segments.length:N))) then(
 (ix a0.Segments v6).bind fun x10=>
 (A0q x10 a1).bind fun r11=>
 if(decide ((0:N)≤r11)) then(
  if decide ((0:N)≤r11)&&decide (r11<(8:N)) then(
  (ix ([y7.i0,y7.i1,y7.i2,y7.i3,y7.i4,y7.i5,y7.i6,y7.i7]:H O) r11).bind fun x14=>
  L2 rec_ a1 a2 a3 v6 r11 a0 y7 v8 (F1 rec_ a1 a2 a3 a0 y7 n) (!x14))
  else G)
 else(
  L2 rec_ a1 a2 a3 v6 r11 a0 y7 v8 (F1 rec_ a1 a2 a3 a0 y7 n) F))
 else(
 E v8)
def A0y(rec_:X9→N→N→(H N)→X7→(H (H N))→L (H (H N)))(a0:X9)(a1 a2:N)(a3:H N)(a4:X7)(a5:H (H N)):L (H (H N)):=
if(a1==a2) then(
 (D5 a3).bind fun r2=>
 if B9 a5.length ([r2]:H (H N)).length 24 then(
 E (a5++([r2]:H (H N))))
 else G)
else(
 if decide ((0:N)≤a1)&&decide (a1<(8:N)) then(
 F1 rec_ a1 a2 a3 a0 (⟨((X7.set a4 (W a1) T)).i0,((X7.set a4 (W a1) T)).i1,((X7.set a4 (W a1) T)).i2,((X7.set a4 (W a1) T)).i3,((X7.set a4 (W a1) T)).i4,((X7.set a4 (W a1) T)).i5,((X7.set a4 (W a1) T)).i6,((X7.set a4 (W a1) T)).i7⟩:X7) bigN (0:N) a5)
 else G)
def H8:P→X9→N→N→(H N)→X7→(H (H N))→L (H (H N))
| 0,_,_,_,_,_,_=>G
| n+1,a0,a1,a2,a3,a4,a5=>A0y (H8 n) a0 a1 a2 a3 a4 a5
def A4x(a0:X9)(a1 a2:N)(a3:H N)(a4:X7)(a5:H (H N)):L (H (H N)):=H8 bigN a0 a1 a2 a3 a4 a5
/- impl_RoutesBetween -/
def A1g(a0:X9)(a1 a2:N):L (H (H N)):=
(N8 a0).bind fun r1=>
if r1 then(
 (D9 a1 (a0.Points.length:N)).bind fun r3=>
 if r3 then(
 (D9 a2 (a0.Points.length:N)).bind fun r5=>
 if r5 then(
  (A4x a0 a1 a2 ([]:H N) (⟨F,F,F,F,F,F,F,F⟩:X7) ([]:H (H N))).bind fun r7=>
  E r7)
 else(
  E ([]:H (H N))))
 else(
 E ([]:H (H N))))
else(
 E ([]:H (H N)))
/- impl_RouteMinutes -/
def J1(a1:H N)(a0:X9):P→N→N→L N
| 0,_,_=>G
| n+1,v3,v4=>
 if(decide (v4<(a1.length:N))) then(
 (ix a1 v4).bind fun x6=>
 (D9 x6 (a0.Segments.length:N)).bind fun r7=>
 if r7 then(
  (ix a0.Segments x6).bind fun x9=>
  J1 a1 a0 n (zB .i64 (v3+x9.Minutes)) (zB .i64 (v4+(1:N))))
 else(
  E (-1:N)))
 else(
 E v3)
def M6(a0:X9)(a1:H N):L N:=
(N8 a0).bind fun r1=>
if r1 then(
 J1 a1 a0 bigN (0:N) (0:N))
else(
 E (-1:N))
/- impl_BestRoute -/
def Q9(r1:(H (H N)))(a0:X9):P→(H N)→N→L ((H N) × O)
| 0,_,_=>G
| n+1,v4,v5=>
 if(decide (v5<(r1.length:N))) then(
 (ix r1 v5).bind fun x7=>
 (M6 a0 x7).bind fun r9=>
 (M6 a0 v4).bind fun r10=>
 if(decide (r9<r10)) then(
  Q9 r1 a0 n x7 (zB .i64 (v5+(1:N))))
 else(
  Q9 r1 a0 n v4 (zB .i64 (v5+(1:N)))))
 else(
 E (v4,T))
def A4f(a0:X9)(a1 a2:N):L ((H N) × O):=
(A1g a0 a1 a2).bind fun r1=>
if((r1.length:N)==(0:N)) then(
 E (([]:H N),F))
else(
 (ix r1 (0:N)).bind fun x3=>
 Q9 r1 a0 bigN x3 (0:N))
/- impl_Chart_points -/
def Q3(r14:N)(a2:H N)(v6:N)(a0:X9)(v7:X7)(v8:H N)(A24:N→N→X7→(H N)→L ((H N) × O))(v19:O):L ((H N) × O):=
if v19 then(
 E (([]:H N),F))
else(
 if decide ((0:N)≤r14)&&decide (r14<(8:N)) then(
 if B9 v8.length ([r14]:H N).length 8 then(
  A24 r14 (zB .i64 (v6+(1:N))) (⟨((X7.set v7 (W r14) T)).i0,((X7.set v7 (W r14) T)).i1,((X7.set v7 (W r14) T)).i2,((X7.set v7 (W r14) T)).i3,((X7.set v7 (W r14) T)).i4,((X7.set v7 (W r14) T)).i5,((X7.set v7 (W r14) T)).i6,((X7.set v7 (W r14) T)).i7⟩:X7) (v8++([r14]:H N)))
 else G)
 else G)
def J0(a2:H N)(a0:X9):P→N→N→X7→(H N)→L ((H N) × O)
| 0,_,_,_,_=>G
| n+1,v5,v6,v7,v8=>
 if(decide (v6<(a2.length:N))) then(
 (ix a2 v6).bind fun x10=>
 (D9 x10 (a0.Segments.length:N)).bind fun r11=>
 if r11 then(
  (ix a0.Segments x10).bind fun x13=>
  (A0q x13 v5).bind fun r14=>
  if(decide (r14<(0:N))) then(
  Q3 r14 a2 v6 a0 v7 v8 (J0 a2 a0 n) T)
  else(
  if decide ((0:N)≤r14)&&decide (r14<(8:N)) then(
   (ix ([v7.i0,v7.i1,v7.i2,v7.i3,v7.i4,v7.i5,v7.i6,v7.i7]:H O) r14).bind fun x17=>
   Q3 r14 a2 v6 a0 v7 v8 (J0 a2 a0 n) x17)
  else G))
 else(
  E (([]:H N),F)))
 else(
 E (v8,T))
def U5(a0:X9)(a1:N)(a2:H N):L ((H N) × O):=
(D9 a1 (a0.Points.length:N)).bind fun r1=>
if r1 then(
 if decide ((0:N)≤a1)&&decide (a1<(8:N)) then(
 J0 a2 a0 bigN a1 (0:N) (⟨((X7.set (⟨F,F,F,F,F,F,F,F⟩:X7) (W a1) T)).i0,((X7.set (⟨F,F,F,F,F,F,F,F⟩:X7) (W a1) T)).i1,((X7.set (⟨F,F,F,F,F,F,F,F⟩:X7) (W a1) T)).i2,((X7.set (⟨F,F,F,F,F,F,F,F⟩:X7) (W a1) T)).i3,((X7.set (⟨F,F,F,F,F,F,F,F⟩:X7) (W a1) T)).i4,((X7.set (⟨F,F,F,F,F,F,F,F⟩:X7) (W a1) T)).i5,((X7.set (⟨F,F,F,F,F,F,F,F⟩:X7) (W a1) T)).i6,((X7.set (⟨F,F,F,F,F,F,F,F⟩:X7) (W a1) T)).i7⟩:X7) ([a1]:H N))
 else G)
else(
 E (([]:H N),F))
/- impl_RoutePoints -/
def O4(a0:X9)(a1:N)(a2:H N):L (H N):=
(N8 a0).bind fun r1=>
if r1 then(
 (U5 a0 a1 a2).bind fun r3=>
 E r3.1)
else(
 E ([]:H N))
/- impl_RouteOk -/
def A2g(a0:X9)(a1:N)(a2:H N):L O:=
(N8 a0).bind fun r1=>
if r1 then(
 (U5 a0 a1 a2).bind fun r3=>
 E r3.2)
else(
 E F)
/- impl_Ship_minutes -/
def M7(a0:Xc)(a1:X3):L N:=
if a0.Slow then(
 E (zB .i64 ((2:N)*a1.Minutes)))
else(
 E a1.Minutes)
/- impl_onSegment -/
def A2b(a0:X9)(a1:N)(a2:Xc):L O:=
(N8 a0).bind fun r1=>
if r1 then(
 (Y1 a2).bind fun r3=>
 if r3 then(
 (D9 a1 (a0.Segments.length:N)).bind fun r5=>
 E r5)
 else(
 E F))
else(
 E F)
/- impl_Ship_squat -/
def A5w(a0:Xc):L N:=
if a0.Slow then(
 E (zB .i64 (C a0.Draught (50:N))))
else(
 E (zB .i64 (C a0.Draught (20:N))))
/- impl_Ship_need -/
def A6p(a0:Xc):L N:=
(A5w a0).bind fun r1=>
E (zB .i64 ((zB .i64 (a0.Draught+r1))+(50:N)))
/- impl_LevelFor -/
def A44(a0:X9)(a1:N)(a2:Xc):L N:=
(A2b a0 a1 a2).bind fun r1=>
if r1 then(
 (A6p a2).bind fun r3=>
 (ix a0.Segments a1).bind fun x4=>
 E (zB .i64 (r3 - x4.Depth)))
else(
 E (0:N))
/- impl_windowsOf -/
def W9(a0:N→L O)(v2:N)(L3:O→N→(H Xb)→L (H Xb))(v11:O)(v12:H Xb):L (H Xb):=
L3 v11 (zB .i64 (v2+(1:N))) v12
def A0r(a0:N→L O)(v2:N)(L3:O→N→(H Xb)→L (H Xb))(v9:H Xb):L (H Xb):=
(ix v9 (zB .i64 ((v9.length:N) - (1:N)))).bind fun x10=>
W9 a0 v2 L3 T (v9.set (W (zB .i64 ((v9.length:N) - (1:N)))) (⟨x10.From,v2⟩:Xb))
def I5(a0:N→L O):P→O→N→(H Xb)→L (H Xb)
| 0,_,_,_=>G
| n+1,v1,v2,v3=>
 if(decide (v2≤(2880:N))) then(
 (a0 v2).bind fun r5=>
 if r5 then(
  if v1 then(
  A0r a0 v2 (I5 a0 n) v3)
  else(
  if B9 v3.length ([(⟨v2,(0:N)⟩:Xb)]:H Xb).length 16 then(
   A0r a0 v2 (I5 a0 n) (v3++([(⟨v2,(0:N)⟩:Xb)]:H Xb)))
  else G))
 else(
  W9 a0 v2 (I5 a0 n) F v3))
 else(
 E v3)
def A6i(a0:N→L O):L (H Xb):=
I5 a0 bigN F (0:N) ([]:H Xb)
/- impl_Wave -/
def A8h(a0 a1:N):L N:=
(A2y a1).bind fun r1=>
if r1 then(
 if a1==0 then G else
 if a1==0 then G else
 if(decide ((zB .i64 (C a1 (2:N)))≤(zB .i64 (zA (zB .i64 ((zB .i64 (zA a0 a1))+a1)) a1)))) then(
 if(zB .i64 ((zB .i64 (C a1 (2:N)))*(zB .i64 (C a1 (2:N)))))==0 then G else
 E (zB .i64 (0 - (zB .i64 (C (zB .i64 ((zB .i64 ((40000:N)*(zB .i64 ((zB .i64 (zA (zB .i64 ((zB .i64 (zA a0 a1))+a1)) a1)) - (zB .i64 (C a1 (2:N)))))))*(zB .i64 ((zB .i64 (C a1 (2:N))) - (zB .i64 ((zB .i64 (zA (zB .i64 ((zB .i64 (zA a0 a1))+a1)) a1)) - (zB .i64 (C a1 (2:N))))))))) (zB .i64 ((zB .i64 (C a1 (2:N)))*(zB .i64 (C a1 (2:N))))))))))
 else(
 if(zB .i64 ((zB .i64 (C a1 (2:N)))*(zB .i64 (C a1 (2:N)))))==0 then G else
 E (zB .i64 (C (zB .i64 ((zB .i64 ((40000:N)*(zB .i64 (zA (zB .i64 ((zB .i64 (zA a0 a1))+a1)) a1))))*(zB .i64 ((zB .i64 (C a1 (2:N))) - (zB .i64 (zA (zB .i64 ((zB .i64 (zA a0 a1))+a1)) a1)))))) (zB .i64 ((zB .i64 (C a1 (2:N)))*(zB .i64 (C a1 (2:N)))))))))
else(
 E (0:N))
/- impl_Tide_level -/
def U4(a1:N)(a0:Xn):P→N→N→L N
| 0,_,_=>G
| n+1,v1,v2=>
 if(decide (v2<(a0.Parts.length:N))) then(
 (ix a0.Parts v2).bind fun x4=>
 (A8h (zB .i64 (a1+x4.Phase)) x4.Period).bind fun r5=>
 U4 a1 a0 n (zB .i64 (v1+(zB .i64 (C (zB .i64 (x4.Amp*r5)) (10000:N))))) (zB .i64 (v2+(1:N))))
 else(
 E v1)
def A5v(a0:Xn)(a1:N):L N:=
U4 a1 a0 bigN a0.Mean (0:N)
/- impl_Forecast_low -/
def P1(a0:X8)(a1:N):L N:=
(A5v a0.Tide a1).bind fun r1=>
(C5 a0 a1).bind fun r2=>
(ix a0.Surges r2).bind fun x3=>
E (zB .i64 (r1+x3.Low))
/- impl_LowWindows_1 -/
def A15(a0:N)(c0:X8)(c1:N):L O:=
(P1 c0 a0).bind fun r1=>
E (decide (c1≤r1))
/- impl_LowWindows -/
def A5t(a0:X8)(a1:N):L (H Xb):=
(I4 a0).bind fun r1=>
if r1 then(
 (A6i (fun z0=>A15 z0 a0 a1)).bind fun r3=>
 E r3)
else(
 E ([]:H Xb))
/- impl_MinutesOn -/
def A6h(a0:X9)(a1:N)(a2:Xc):L N:=
(N8 a0).bind fun r1=>
if r1 then(
 (Y1 a2).bind fun r3=>
 if r3 then(
 (D9 a1 (a0.Segments.length:N)).bind fun r5=>
 if r5 then(
  (ix a0.Segments a1).bind fun x7=>
  (M7 a2 x7).bind fun r9=>
  E r9)
 else(
  E (0:N)))
 else(
 E (0:N)))
else(
 E (0:N))
/- impl_WindowsOk -/
def R5(a0:H Xb):P→N→L O
| 0,_=>G
| n+1,v1=>
 if(decide (v1<(a0.length:N))) then(
 (ix a0 v1).bind fun x3=>
 if(decide (x3.From<(0:N))) then(
  E F)
 else(
  if(decide (x3.To<x3.From)) then(
  E F)
  else(
  if(decide ((2880:N)<x3.To)) then(
   E F)
  else(
   if(decide ((0:N)<v1)) then(
   (ix a0 (zB .i64 (v1 - (1:N)))).bind fun x8=>
   if(decide (x3.From≤(zB .i64 (x8.To+(1:N))))) then(
    E F)
   else(
    R5 a0 n (zB .i64 (v1+(1:N)))))
   else(
   R5 a0 n (zB .i64 (v1+(1:N))))))))
 else(
 E T)
def A4n(a0:H Xb):L O:=
R5 a0 bigN (0:N)
/- impl_ShrinkWindows -/
def M0(a1:N)(a0:H Xb):P→N→(H Xb)→L (H Xb)
| 0,_,_=>G
| n+1,v5,v6=>
 if(decide (v5<(a0.length:N))) then(
 (ix a0 v5).bind fun x8=>
 if(decide (a1≤(zB .i64 (x8.To - x8.From)))) then(
  if B9 v6.length ([(⟨x8.From,(zB .i64 (x8.To - a1))⟩:Xb)]:H Xb).length 16 then(
  M0 a1 a0 n (zB .i64 (v5+(1:N))) (v6++([(⟨x8.From,(zB .i64 (x8.To - a1))⟩:Xb)]:H Xb)))
  else G)
 else(
  M0 a1 a0 n (zB .i64 (v5+(1:N))) v6))
 else(
 E v6)
def A1k(a0:H Xb)(a1:N):L (H Xb):=
(A4n a0).bind fun r1=>
if r1 then(
 (G9 a1).bind fun r3=>
 if r3 then(
 M0 a1 a0 bigN (0:N) ([]:H Xb))
 else(
 E ([]:H Xb)))
else(
 E ([]:H Xb))
/- impl_SureStarts -/
def A3m(a0:X8)(a1:X9)(a2:N)(a3:Xc):L (H Xb):=
(I4 a0).bind fun r1=>
if r1 then(
 (A2b a1 a2 a3).bind fun r3=>
 if r3 then(
 (A44 a1 a2 a3).bind fun r5=>
 (A5t a0 r5).bind fun r6=>
 (A6h a1 a2 a3).bind fun r7=>
 (A1k r6 r7).bind fun r9=>
 E r9)
 else(
 E ([]:H Xb)))
else(
 E ([]:H Xb))
/- impl_voyageOf -/
def Z6(a4:H N)(a0:X8)(a1:X9)(a2:Xc)(y11:H N)(y12:N):P→N→(H O)→(H N)→(H (H Xb))→L (Xl × O)
| 0,_,_,_,_=>G
| n+1,v13,v14,v15,v16=>
 if(decide (v13<y12)) then(
 (ix y11 v13).bind fun x18=>
 (ix a1.Points x18).bind fun x19=>
 if B9 v14.length ([x19.Wait]:H O).length 1 then(
  (ix a4 v13).bind fun x21=>
  (ix a1.Segments x21).bind fun x22=>
  (M7 a2 x22).bind fun r23=>
  if B9 v15.length ([r23]:H N).length 8 then(
  (A3m a0 a1 x21 a2).bind fun r25=>
  if B9 v16.length ([r25]:H (H Xb)).length 24 then(
   Z6 a4 a0 a1 a2 y11 y12 n (zB .i64 (v13+(1:N))) (v14++([x19.Wait]:H O)) (v15++([r23]:H N)) (v16++([r25]:H (H Xb))))
  else G)
  else G)
 else G)
 else(
 E ((⟨v14,v15,v16⟩:Xl),T))
def Z5(a3:N)(a4:H N)(a0:X8)(a1:X9)(a2:Xc)(v7:O):L (Xl × O):=
if v7 then(
 E ((⟨([]:H O),([]:H N),([]:H (H Xb))⟩:Xl),F))
else(
 (O4 a1 a3 a4).bind fun r9=>
 (bnd (r9.length:N) (a4.length:N) (0:N) r9.length).bind fun p10=>
 Z6 a4 a0 a1 a2 ((r9.drop p10.1).take (p10.2 - p10.1)) (((r9.drop p10.1).take (p10.2 - p10.1)).length:N) bigN (0:N) ([]:H O) ([]:H N) ([]:H (H Xb)))
def A5n(a0:X8)(a1:X9)(a2:Xc)(a3:N)(a4:H N):L (Xl × O):=
(I4 a0).bind fun r1=>
if r1 then(
 (Y1 a2).bind fun r3=>
 if r3 then(
 (A2g a1 a3 a4).bind fun r5=>
 if r5 then(
  Z5 a3 a4 a0 a1 a2 ((a4.length:N)==(0:N)))
 else(
  Z5 a3 a4 a0 a1 a2 T))
 else(
 Z5 a3 a4 a0 a1 a2 T))
else(
 Z5 a3 a4 a0 a1 a2 T)
/- impl_callVoyage -/
def Z9(a2:H N)(a0:X4)(a1:Xa)(v4:O):L (Xl × O):=
if v4 then(
 E ((⟨([]:H O),([]:H N),([]:H (H Xb))⟩:Xl),F))
else(
 (ix a0.Fleet a1.Ship).bind fun x6=>
 (A5n a0.Forecast a0.Chart x6 a1.From a2).bind fun r7=>
 E (r7.1,r7.2))
def T2(a0:X4)(a1:Xa)(a2:H N):L (Xl × O):=
(O4 a0.Chart a1.From a2).bind fun r1=>
if((r1.length:N)==(0:N)) then(
 Z9 a2 a0 a1 T)
else(
 (ix r1 (zB .i64 ((r1.length:N) - (1:N)))).bind fun x3=>
 Z9 a2 a0 a1 (x3 !=a1.To))
/- impl_HasMinute -/
def W2(a1:N)(a0:H Xb):P→N→L O
| 0,_=>G
| n+1,v1=>
 if(decide (v1<(a0.length:N))) then(
 (ix a0 v1).bind fun x3=>
 (E3 a1 x3.From x3.To).bind fun r4=>
 if r4 then(
  E T)
 else(
  W2 a1 a0 n (zB .i64 (v1+(1:N)))))
 else(
 E F)
def A6q(a0:H Xb)(a1:N):L O:=
W2 a1 a0 bigN (0:N)
/- impl_NextMinute -/
def U1(a1:N)(a0:H Xb):P→N→L N
| 0,_=>G
| n+1,v3=>
 if(decide (v3<(a0.length:N))) then(
 (ix a0 v3).bind fun x5=>
 if(decide (a1≤x5.To)) then(
  E (if x5.From<a1 then a1 else x5.From))
 else(
  U1 a1 a0 n (zB .i64 (v3+(1:N)))))
 else(
 E (-1:N))
def A3o(a0:H Xb)(a1:N):L N:=
(A4n a0).bind fun r1=>
if r1 then(
 U1 a1 a0 bigN (0:N))
else(
 E (-1:N))
/- impl_voyage_sail -/
def K7(v4 r10:N)(a0:Xl)(v5:H N)(A3q:N→(H N)→L ((H N) × O))(v14:O):L ((H N) × O):=
if v14 then(
 E (([]:H N),F))
else(
 if B9 v5.length ([r10]:H N).length 8 then(
 A3q (zB .i64 (v4+(1:N))) (v5++([r10]:H N)))
 else G)
def F9(a0:Xl):P→N→(H N)→L ((H N) × O)
| 0,_,_=>G
| n+1,v4,v5=>
 if(decide (v4<(a0.sure.length:N))) then(
 (ix v5 (zB .i64 (v4 - (1:N)))).bind fun x7=>
 (ix a0.minutes (zB .i64 (v4 - (1:N)))).bind fun x8=>
 (ix a0.sure v4).bind fun x9=>
 (A3o x9 (zB .i64 (x7+x8))).bind fun r10=>
 if(decide (r10<(0:N))) then(
  K7 v4 r10 a0 v5 (F9 a0 n) T)
 else(
  if(decide ((zB .i64 (x7+x8))<r10)) then(
  (ix a0.waits v4).bind fun x13=>
  K7 v4 r10 a0 v5 (F9 a0 n) (!x13))
  else(
  K7 v4 r10 a0 v5 (F9 a0 n) F)))
 else(
 E (v5,T))
def A2r(a0:Xl)(a1:N):L ((H N) × O):=
(ix a0.sure (0:N)).bind fun x1=>
(A6q x1 a1).bind fun r2=>
if r2 then(
 F9 a0 bigN (1:N) ([a1]:H N))
else(
 E (([]:H N),F))
/- impl_PassagesOf -/
def T6(a1:N)(a5 a4:H N)(a0:X9)(a2:Xc)(r6:(H N)):P→N→(H X5)→L (H X5)
| 0,_,_=>G
| n+1,v7,v8=>
 if(decide (v7<(a4.length:N))) then(
 (ix a4 v7).bind fun x10=>
 (ix a5 v7).bind fun x11=>
 (G9 x11).bind fun r12=>
 if r12 then(
  (ix a0.Segments x10).bind fun x14=>
  (ix r6 v7).bind fun x15=>
  (M7 a2 x14).bind fun r16=>
  if B9 v8.length ([(⟨a1,x10,(x15==x14.A),x11,(zB .i64 (x11+r16))⟩:X5)]:H X5).length 40 then(
  T6 a1 a5 a4 a0 a2 r6 n (zB .i64 (v7+(1:N))) (v8++([(⟨a1,x10,(x15==x14.A),x11,(zB .i64 (x11+r16))⟩:X5)]:H X5)))
  else G)
 else(
  E ([]:H X5)))
 else(
 E v8)
def A3g(a0:X9)(a1:N)(a2:Xc)(a3:N)(a4 a5:H N):L (H X5):=
(A2g a0 a3 a4).bind fun r1=>
if r1 then(
 (Y1 a2).bind fun r3=>
 if r3 then(
 if((a4.length:N) !=(a5.length:N)) then(
  E ([]:H X5))
 else(
  (O4 a0 a3 a4).bind fun r6=>
  T6 a1 a5 a4 a0 a2 r6 bigN (0:N) ([]:H X5)))
 else(
 E ([]:H X5)))
else(
 E ([]:H X5))
/- impl_ArrivalOf -/
def A4g(a0:X9)(a1:Xc)(a2 a3:H N):L N:=
(M6 a0 a2).bind fun r1=>
if(decide (r1<(0:N))) then(
 E (-1:N))
else(
 (Y1 a1).bind fun r3=>
 if r3 then(
 if((a2.length:N)==(0:N)) then(
  E (-1:N))
 else(
  if((a2.length:N) !=(a3.length:N)) then(
  E (-1:N))
  else(
  (ix a3 (zB .i64 ((a2.length:N) - (1:N)))).bind fun x7=>
  (G9 x7).bind fun r9=>
  if r9 then(
   (ix a2 (zB .i64 ((a2.length:N) - (1:N)))).bind fun x11=>
   (ix a0.Segments x11).bind fun x12=>
   (M7 a1 x12).bind fun r13=>
   E (zB .i64 (x7+r13)))
  else(
   E (-1:N)))))
 else(
 E (-1:N)))
/- impl_option -/
def A1h(a2:Xl)(a4 r5:N)(r4:(H X5)):P→N→N→L (X0 × O)
| 0,_,_=>G
| n+1,v6,v7=>
 if(decide (v6<(a2.minutes.length:N))) then(
 (ix a2.minutes v6).bind fun x9=>
 A1h a2 a4 r5 r4 n (zB .i64 (v6+(1:N))) (zB .i64 (v7 - x9)))
 else(
 E ((⟨a4,r5,v7,r4⟩:X0),(decide (r5≤(2880:N)))))
def A0e(a0:X4)(a1:Xa)(a2:Xl)(a3:H N)(a4:N):L (X0 × O):=
(A2r a2 a4).bind fun r1=>
if r1.2 then(
 (ix a0.Fleet a1.Ship).bind fun x3=>
 (A3g a0.Chart a1.Ship x3 a1.From a3 r1.1).bind fun r4=>
 (A4g a0.Chart x3 a3 r1.1).bind fun r5=>
 A1h a2 a4 r5 r4 bigN (0:N) (zB .i64 (r5 - a1.Ready)))
else(
 E ((⟨(0:N),(0:N),(0:N),([]:H X5)⟩:X0),F))
/- impl_OptionsOf -/
def A0t(r3:(H N) × O)(v7:N)(a0:X4)(a1:Xa)(r4:Xl × O)(A5h:N→(H X0)→L (H X0))(v14:H X0):L (H X0):=
A5h (zB .i64 (v7+(15:N))) v14
def L4(r3:(H N) × O)(a0:X4)(a1:Xa)(r4:Xl × O):P→N→(H X0)→L (H X0)
| 0,_,_=>G
| n+1,v7,v8=>
 if(decide (v7≤a1.Due)) then(
 if(decide ((v8.length:N)<(8:N))) then(
  (A0e a0 a1 r4.1 r3.1 v7).bind fun r11=>
  if r11.2 then(
  if B9 v8.length ([r11.1]:H X0).length 48 then(
   A0t r3 v7 a0 a1 r4 (L4 r3 a0 a1 r4 n) (v8++([r11.1]:H X0)))
  else G)
  else(
  A0t r3 v7 a0 a1 r4 (L4 r3 a0 a1 r4 n) v8))
 else(
  E v8))
 else(
 E v8)
def W0(a0:X4)(a1:Xa):L (H X0):=
(A4y a0 a1).bind fun r1=>
if r1 then(
 (A4f a0.Chart a1.From a1.To).bind fun r3=>
 (T2 a0 a1 r3.1).bind fun r4=>
 if r3.2 then(
 if r4.2 then(
  L4 r3 a0 a1 r4 bigN a1.Ready ([]:H X0))
 else(
  E ([]:H X0)))
 else(
 E ([]:H X0)))
else(
 E ([]:H X0))
/- impl_allOptions -/
def T8(a1:H Xa)(a0:X4):P→N→(H (H X0))→L (H (H X0))
| 0,_,_=>G
| n+1,v1,v2=>
 if(decide (v1<(a1.length:N))) then(
 (ix a1 v1).bind fun x4=>
 (W0 a0 x4).bind fun r5=>
 if B9 v2.length ([r5]:H (H X0)).length 24 then(
  T8 a1 a0 n (zB .i64 (v1+(1:N))) (v2++([r5]:H (H X0))))
 else G)
 else(
 E v2)
def A1s(a0:X4)(a1:H Xa):L (H (H X0)):=
T8 a1 a0 bigN (0:N) ([]:H (H X0))
/- impl_weight_less -/
def A2u(a0 a1:Xk):L O:=
if(decide (a0.i0<a1.i0)) then(
 E T)
else(
 if(a0.i0==a1.i0) then(
 E (decide (a0.i1<a1.i1)))
 else(
 E F))
/- impl_Overlaps -/
def A43(a0 a1:X5):L O:=
E (decide ((if a0.Start<a1.Start then a1.Start else a0.Start)<(if a1.End<a0.End then a1.End else a0.End)))
/- impl_near -/
def A8c(a0 a1 a2:N):L O:=
E (decide ((IntKind.u64.wrap ((IntKind.u64.wrap (if a0<a1 then a1 else a0)) - (IntKind.u64.wrap (if a1<a0 then a1 else a0))))<(IntKind.u64.wrap a2)))
/- impl_conflict -/
def A1q(a2 a3:X5)(v22:O):L N:=
if v22 then(
 E (3:N))
else(
 if(decide (a2.Start<a3.Start)) then(
 if(decide (a3.End<a2.End)) then(
  E (4:N))
 else(
  if(decide (a3.Start<a2.Start)) then(
  if(decide (a2.End<a3.End)) then(
   E (4:N))
  else(
   E (0:N)))
  else(
  E (0:N))))
 else(
 if(decide (a3.Start<a2.Start)) then(
  if(decide (a2.End<a3.End)) then(
  E (4:N))
  else(
  E (0:N)))
 else(
  E (0:N))))
def T3(a1:Xm)(a2 a3:X5)(v15 v16:O):L N:=
if v15 then(
 E (2:N))
else(
 if(a2.Toward==a3.Toward) then(
 (A8c a2.Start a3.Start a1.Gap).bind fun r19=>
 if r19 then(
  A1q a2 a3 T)
 else(
  (A8c a2.End a3.End a1.Gap).bind fun r21=>
  A1q a2 a3 r21))
 else(
 E (0:N)))
def A1o(a0:X9)(a1:Xm)(a2 a3:X5)(v7:O):L N:=
if v7 then(
 E (1:N))
else(
 if(a2.Ship==a3.Ship) then(
 E (0:N))
 else(
 if(a2.Toward==a3.Toward) then(
  T3 a1 a2 a3 F a1.NoMeet)
 else(
  (A43 a2 a3).bind fun r11=>
  if r11 then(
  if a1.NoMeet then(
   T3 a1 a2 a3 T T)
  else(
   (ix a0.Segments a2.Segment).bind fun x14=>
   T3 a1 a2 a3 (!x14.Meet) F))
  else(
  T3 a1 a2 a3 F a1.NoMeet))))
def A1r(a0:X9)(a1:Xm)(a2 a3:X5)(v3:O):L N:=
if v3 then(
 E (0:N))
else(
 if(a2.Ship==a3.Ship) then(
 (A43 a2 a3).bind fun r6=>
 A1o a0 a1 a2 a3 r6)
 else(
 A1o a0 a1 a2 a3 F))
def A5m(a0:X9)(a1:Xm)(a2 a3:X5):L N:=
if(a2.Segment !=a3.Segment) then(
 A1r a0 a1 a2 a3 T)
else(
 (D9 a2.Segment (a0.Segments.length:N)).bind fun r2=>
 A1r a0 a1 a2 a3 (!r2))
/- impl_clashes -/
def A0h(a3 a2:H X5)(v1:N)(a0:X9)(a1:Xm)(x3:X5)(A4i:N→L O):P→N→L O
| 0,_=>G
| n+1,v4=>
 if(decide (v4<(a3.length:N))) then(
 (ix a3 v4).bind fun x6=>
 (A5m a0 a1 x3 x6).bind fun r7=>
 if(r7 !=(0:N)) then(
  E T)
 else(
  A0h a3 a2 v1 a0 a1 x3 A4i n (zB .i64 (v4+(1:N)))))
 else(
 A4i (zB .i64 (v1+(1:N))))
def R9(a3 a2:H X5)(a0:X9)(a1:Xm):P→N→L O
| 0,_=>G
| n+1,v1=>
 if(decide (v1<(a2.length:N))) then(
 (ix a2 v1).bind fun x3=>
 A0h a3 a2 v1 a0 a1 x3 (R9 a3 a2 a0 a1 n) bigN (0:N))
 else(
 E F)
def A76(a0:X9)(a1:Xm)(a2 a3:H X5):L O:=
R9 a3 a2 a0 a1 bigN (0:N)
/- impl_clone_Option -/
def K0(a0:H X0):L (H X0):=
(mkS (0:N) (a0.length:N) 48).bind fun n1=>
if B9 (Y n1 (⟨(0:N),(0:N),(0:N),([]:H X5)⟩:X0)).length a0.length 48 then(
 E ((Y n1 (⟨(0:N),(0:N),(0:N),([]:H X5)⟩:X0))++a0))
else G
/- impl_Passage_ends -/
def A0c(a0:X5)(a1:X9):L (N × N):=
(ix a1.Segments a0.Segment).bind fun x1=>
if a0.Toward then(
 E (x1.A,x1.B))
else(
 E (x1.B,x1.A))
/- impl_duty -/
def A66(a0:X9)(a1 a2:X5):L Xg:=
(A0c a1 a0).bind fun r1=>
(A0c a2 a0).bind fun r2=>
E (⟨a1.Start,a2.End,r1.1,r2.2⟩:Xg)
/- impl_passageOk -/
def A32(a0:X9)(a1:H Xc)(a2:X5):L O:=
(D9 a2.Ship (a1.length:N)).bind fun r1=>
if r1 then(
 (D9 a2.Segment (a0.Segments.length:N)).bind fun r3=>
 if r3 then(
 (G9 a2.Start).bind fun r5=>
 if r5 then(
  if(decide ((2880:N)<a2.End)) then(
  E F)
  else(
  (ix a1 a2.Ship).bind fun x8=>
  (ix a0.Segments a2.Segment).bind fun x9=>
  (M7 x8 x9).bind fun r10=>
  E (a2.End==(zB .i64 (a2.Start+r10)))))
 else(
  E F))
 else(
 E F))
else(
 E F)
/- impl_PassageOk -/
def A34(a0:X9)(a1:H Xc)(a2:X5):L O:=
(N8 a0).bind fun r1=>
if r1 then(
 (A3u a1).bind fun r3=>
 if r3 then(
 (A32 a0 a1 a2).bind fun r5=>
 E r5)
 else(
 E F))
else(
 E F)
/- impl_tugDuties -/
def R4(a1:H Xc)(a2:H X5)(v1:N)(x7:Xc)(a0:X9)(x4:X5)(A2n:N→(H Xg)→L ((H Xg) × O)):P→N→(H Xg)→L ((H Xg) × O)
| 0,_,_=>G
| n+1,v8,v9=>
 if(decide (v8<x7.Tugs)) then(
 (A66 a0 x4 x4).bind fun r11=>
 if B9 v9.length ([r11]:H Xg).length 32 then(
  R4 a1 a2 v1 x7 a0 x4 A2n n (zB .i64 (v8+(1:N))) (v9++([r11]:H Xg)))
 else G)
 else(
 if(decide ((12:N)<(v9.length:N))) then(
  E (([]:H Xg),F))
 else(
  A2n (zB .i64 (v1+(1:N))) v9))
def L9(a1:H Xc)(a2:H X5)(a0:X9):P→N→(H Xg)→L ((H Xg) × O)
| 0,_,_=>G
| n+1,v1,v2=>
 if(decide (v1<(a2.length:N))) then(
 (ix a2 v1).bind fun x4=>
 (A34 a0 a1 x4).bind fun r5=>
 if r5 then(
  (ix a1 x4.Ship).bind fun x7=>
  R4 a1 a2 v1 x7 a0 x4 (L9 a1 a2 a0 n) bigN (0:N) v2)
 else(
  E (([]:H Xg),F)))
 else(
 E (v2,T))
def A6o(a0:X9)(a1:H Xc)(a2:H X5):L ((H Xg) × O):=
L9 a1 a2 a0 bigN (0:N) ([]:H Xg)
/- impl_DutiesOk -/
def Y8(a0:H Xg):P→N→L O
| 0,_=>G
| n+1,v2=>
 if(decide (v2<(a0.length:N))) then(
 (ix a0 v2).bind fun x4=>
 if(decide (x4.From<(0:N))) then(
  E F)
 else(
  if(decide (x4.To≤x4.From)) then(
  E F)
  else(
  if(decide ((2880:N)<x4.To)) then(
   E F)
  else(
   (D9 x4.A (8:N)).bind fun r9=>
   if r9 then(
   (D9 x4.B (8:N)).bind fun r11=>
   if r11 then(
    Y8 a0 n (zB .i64 (v2+(1:N))))
   else(
    E F))
   else(
   E F)))))
 else(
 E T)
def A08(a0:H Xg):L O:=
if(decide ((12:N)<(a0.length:N))) then(
 E F)
else(
 Y8 a0 bigN (0:N))
/- impl_coverable -/
def A2e(a0:N)(a1:H N)(a2:H Xg):L O:=
(A08 a2).bind fun r1=>
if r1 then(
 (G9 a0).bind fun r3=>
 if r3 then(
 (A0u a1).bind fun r5=>
 E r5)
 else(
 E F))
else(
 E F)
/- impl_Gap -/
def A36(a0:N)(a1:H N)(a2 a3:Xg)(v8:O):L (N × O):=
if v8 then(
 E ((0:N),F))
else(
 (ix a1 (zB .i64 ((zB .i64 ((8:N)*a2.B))+a3.A))).bind fun x10=>
 E ((zB .i64 (a0+x10)),T))
def B03(a0:N)(a1:H N)(a2 a3:Xg):L (N × O):=
(G9 a0).bind fun r1=>
if r1 then(
 (A0u a1).bind fun r3=>
 if r3 then(
 (D9 a2.B (8:N)).bind fun r5=>
 if r5 then(
  (D9 a3.A (8:N)).bind fun r7=>
  A36 a0 a1 a2 a3 (!r7))
 else(
  A36 a0 a1 a2 a3 T))
 else(
 A36 a0 a1 a2 a3 T))
else(
 A36 a0 a1 a2 a3 T)
/- impl_CanFollow -/
def A2h(a0:N)(a1:H N)(a2 a3:Xg):L O:=
(B03 a0 a1 a2 a3).bind fun r1=>
if r1.2 then(
 (A08 ([a2]:H Xg)).bind fun r3=>
 if r3 then(
 (A08 ([a3]:H Xg)).bind fun r5=>
 if r5 then(
  E (decide ((zB .i64 (a2.To+r1.1))≤a3.From)))
 else(
  E F))
 else(
 E F))
else(
 E F)
/- impl_partners -/
def Z4(a0:N)(a1:H N)(a2:H Xg)(v2 v6:N)(x5:Xg)(v7:H N)(A3e:N→(H N)→L (H N))(v14:O):L (H N):=
if v14 then(
 (ix v7 v2).bind fun x16=>
 if decide (v6<0) then G else
 A3e (zB .i64 (v6+(1:N))) (v7.set (W v2) (K6 .or .u64 x16 (A1v .u64 (1:N) v6))))
else(
 A3e (zB .i64 (v6+(1:N))) v7)
def H0(a0:N)(a1:H N)(a2:H Xg)(v2:N)(x5:Xg)(N4:N→(H N)→L (H N)):P→N→(H N)→L (H N)
| 0,_,_=>G
| n+1,v6,v7=>
 if(decide (v6<(a2.length:N))) then(
 (ix a2 v6).bind fun x9=>
 if(v2 !=v6) then(
  (A2h a0 a1 x5 x9).bind fun r11=>
  if r11 then(
  Z4 a0 a1 a2 v2 v6 x5 v7 (H0 a0 a1 a2 v2 x5 N4 n) T)
  else(
  (A2h a0 a1 x9 x5).bind fun r13=>
  Z4 a0 a1 a2 v2 v6 x5 v7 (H0 a0 a1 a2 v2 x5 N4 n) r13))
 else(
  Z4 a0 a1 a2 v2 v6 x5 v7 (H0 a0 a1 a2 v2 x5 N4 n) F))
 else(
 N4 (zB .i64 (v2+(1:N))) v7)
def N3(a0:N)(a1:H N)(a2:H Xg):P→N→(H N)→L (H N)
| 0,_,_=>G
| n+1,v2,v3=>
 if(decide (v2<(a2.length:N))) then(
 (ix a2 v2).bind fun x5=>
 H0 a0 a1 a2 v2 x5 (N3 a0 a1 a2 n) bigN (0:N) v3)
 else(
 E v3)
def A5e(a0:N)(a1:H N)(a2:H Xg):L (H N):=
(mkS (a2.length:N) (a2.length:N) 8).bind fun n1=>
N3 a0 a1 a2 bigN (0:N) (Y n1 (0:N))
/- math_bits_Len64 -/
def A0b(v8 v9:N):L N:=
(ix ([0,1,2,2,3,3,3,3,4,4,4,4,4,4,4,4,5,5,5,5,5,5,5,5,5,5,5,5,5,5,5,5,6,6,6,6,6,6,6,6,6,6,6,6,6,6,6,6,6,6,6,6,6,6,6,6,6,6,6,6,6,6,6,6,7,7,7,7,7,7,7,7,7,7,7,7,7,7,7,7,7,7,7,7,7,7,7,7,7,7,7,7,7,7,7,7,7,7,7,7,7,7,7,7,7,7,7,7,7,7,7,7,7,7,7,7,7,7,7,7,7,7,7,7,7,7,7,7,8,8,8,8,8,8,8,8,8,8,8,8,8,8,8,8,8,8,8,8,8,8,8,8,8,8,8,8,8,8,8,8,8,8,8,8,8,8,8,8,8,8,8,8,8,8,8,8,8,8,8,8,8,8,8,8,8,8,8,8,8,8,8,8,8,8,8,8,8,8,8,8,8,8,8,8,8,8,8,8,8,8,8,8,8,8,8,8,8,8,8,8,8,8,8,8,8,8,8,8,8,8,8,8,8,8,8,8,8,8,8,8,8,8,8,8,8,8,8,8,8,8,8,8,8,8,8,8]:H Q) (IntKind.u8.wrap v8)).bind fun b10=>
E (zB .i64 (v9+(zB .i64 (b10.toNat:N))))
def A10(v5 v6:N):L N:=
if(decide ((256:N)≤v5)) then(
 A0b (A1f .u64 v5 8) (zB .i64 (v6+(8:N))))
else(
 A0b v5 v6)
def A14(v2 v3:N):L N:=
if(decide ((65536:N)≤v2)) then(
 A10 (A1f .u64 v2 16) (zB .i64 (v3+(16:N))))
else(
 A10 v2 v3)
def A5x(a0:N):L N:=
if(decide ((4294967296:N)≤a0)) then(
 A14 (A1f .u64 a0 32) (32:N))
else(
 A14 a0 (0:N))
/- math_bits_Len -/
def A25(a0:N):L N:=
(A5x a0).bind fun r1=>
E r1
/- impl_leastPersons -/
def V4(a0:H N)(y5 v6:N)(v17 v18 v21:N)(v19:H O)(C6:N→(H O)→(H N)→L N)(A2z:N→(H N)→L N)(v28:H N):L N:=
if(v21==(0:N)) then(
 C6 (zB .i64 (v6+(1:N))) v19 v28)
else(
 A2z (K6 .and .i64 (zB .i64 (v21 - (1:N))) v18) v28)
def I8(a0:H N)(y5 v6:N)(v17 v18:N)(v19:H O)(C6:N→(H O)→(H N)→L N):P→N→(H N)→L N
| 0,_,_=>G
| n+1,v21,v22=>
 if decide (v17<0) then G else
 (ix v19 (K6 .or .i64 v21 (A1v .i64 (1:N) v17))).bind fun x24=>
 if x24 then(
 (ix v22 v6).bind fun x26=>
 (ix v22 (K6 .andNot .i64 v18 v21)).bind fun x27=>
 V4 a0 y5 v6 v17 v18 v21 v19 C6 (I8 a0 y5 v6 v17 v18 v19 C6 n) (v22.set (W v6) (if(zB .i64 ((1:N)+x27))<x26 then(zB .i64 ((1:N)+x27)) else x26)))
 else(
 V4 a0 y5 v6 v17 v18 v21 v19 C6 (I8 a0 y5 v6 v17 v18 v19 C6 n) v22)
def V3(a0:H N)(y5 v6:N)(v8:H N)(C6:N→(H O)→(H N)→L N)(v17 v18:N)(v19:H O):L N:=
(ix v8 v6).bind fun x20=>
I8 a0 y5 v6 v17 v18 v19 C6 bigN v18 (v8.set (W v6) (a0.length:N))
def G2(a0:H N)(y5:N):P→N→(H O)→(H N)→L N
| 0,_,_,_=>G
| n+1,v6,v7,v8=>
 if(decide (v6<y5)) then(
 (A25 (IntKind.u64.wrap v6)).bind fun r10=>
 if decide ((zB .i64 (r10 - (1:N)))<0) then G else
 (ix v7 (K6 .andNot .i64 v6 (A1v .i64 (1:N) (zB .i64 (r10 - (1:N)))))).bind fun x12=>
 if x12 then(
  (ix a0 (zB .i64 (r10 - (1:N)))).bind fun x14=>
  (ix v7 v6).bind fun x15=>
  V3 a0 y5 v6 v8 (G2 a0 y5 n) (zB .i64 (r10 - (1:N))) (K6 .andNot .i64 v6 (A1v .i64 (1:N) (zB .i64 (r10 - (1:N))))) (v7.set (W v6) ((K6 .andNot .u64 (IntKind.u64.wrap (K6 .andNot .i64 v6 (A1v .i64 (1:N) (zB .i64 (r10 - (1:N)))))) x14)==(0:N))))
 else(
  (ix v7 v6).bind fun x16=>
  V3 a0 y5 v6 v8 (G2 a0 y5 n) (zB .i64 (r10 - (1:N))) (K6 .andNot .i64 v6 (A1v .i64 (1:N) (zB .i64 (r10 - (1:N))))) (v7.set (W v6) F)))
 else(
 (ix v8 (zB .i64 (y5 - (1:N)))).bind fun x30=>
 E x30)
def A1x(a0:H N):L N:=
if decide ((a0.length:N)<0) then G else
(mkS (A1v .i64 (1:N) (a0.length:N)) (A1v .i64 (1:N) (a0.length:N)) 1).bind fun n2=>
(mkS (A1v .i64 (1:N) (a0.length:N)) (A1v .i64 (1:N) (a0.length:N)) 8).bind fun n3=>
(ix (Y n2 F) (0:N)).bind fun x4=>
G2 a0 (A1v .i64 (1:N) (a0.length:N)) bigN (1:N) ((Y n2 F).set (W (0:N)) T) (Y n3 (0:N))
/- impl_coverer_cover -/
def O8(rec_:Xj→L (O × Xj))(a0:Xj)(v2:N)(F7:N→(H N)→N→(H N)→(H N)→L (O × Xj))(v22:H N)(v23:N)(v24 v25:H N):L (O × Xj):=
(ix v24 v2).bind fun x26=>
if(x26==(0:N)) then(
 (bnd (v24.length:N) v2 0 v24.length).bind fun p28=>
 E (F,(⟨v22,v23,(v24.take p28.2),v25⟩:Xj)))
else(
 F7 (zB .i64 (v2+(1:N))) v22 v23 v24 v25)
def T0(rec_:Xj→L (O × Xj))(a0:Xj)(v2:N)(v3:H N)(v4:N)(v6:H N)(F7:N→(H N)→N→(H N)→(H N)→L (O × Xj))(v11:H N):L (O × Xj):=
(ix v11 v2).bind fun x12=>
(ix v3 (a0.who.length:N)).bind fun x13=>
if((K6 .andNot .u64 x12 x13)==(0:N)) then(
 if decide ((a0.who.length:N)<0) then G else
 if B9 v6.length ([v2]:H N).length 8 then(
 (rec_ (⟨v3,v4,(v11.set (W v2) (K6 .or .u64 x12 (A1v .u64 (1:N) (a0.who.length:N)))),(v6++([v2]:H N))⟩:Xj)).bind fun r17=>
 if r17.1 then(
  E (T,r17.2))
 else(
  (bnd (r17.2.who.length:N) (a0.who.length:N) 0 r17.2.who.length).bind fun p19=>
  (ix r17.2.groups v2).bind fun x20=>
  if decide ((a0.who.length:N)<0) then G else
  O8 rec_ a0 v2 F7 r17.2.sets r17.2.most (r17.2.groups.set (W v2) (K6 .andNot .u64 x20 (A1v .u64 (1:N) (a0.who.length:N)))) (r17.2.who.take p19.2)))
 else G)
else(
 O8 rec_ a0 v2 F7 v3 v4 v11 v6)
def G4(rec_:Xj→L (O × Xj))(a0:Xj):P→N→(H N)→N→(H N)→(H N)→L (O × Xj)
| 0,_,_,_,_,_=>G
| n+1,v2,v3,v4,v5,v6=>
 if(decide (v2≤(v5.length:N))) then(
 if(decide (v2<v4)) then(
  if(v2==(v5.length:N)) then(
  if B9 v5.length ([(0:N)]:H N).length 8 then(
   T0 rec_ a0 v2 v3 v4 v6 (G4 rec_ a0 n) (v5++([(0:N)]:H N)))
  else G)
  else(
  T0 rec_ a0 v2 v3 v4 v6 (G4 rec_ a0 n) v5))
 else(
  E (F,(⟨v3,v4,v5,v6⟩:Xj))))
 else(
 E (F,(⟨v3,v4,v5,v6⟩:Xj)))
def A0d(rec_:Xj→L (O × Xj))(a0:Xj):L (O × Xj):=
if((a0.who.length:N)==(a0.sets.length:N)) then(
 E (T,a0))
else(
 G4 rec_ a0 bigN (0:N) a0.sets a0.most a0.groups a0.who)
def G5:P→Xj→L (O × Xj)
| 0,_=>G
| n+1,a0=>A0d (G5 n) a0
def A6j(a0:Xj):L (O × Xj):=G5 bigN a0
/- impl_LeastCover -/
def Z7(a0:N)(a1:H N)(a2:H Xg):L ((H N) × N × O):=
(A2e a0 a1 a2).bind fun r1=>
if r1 then(
 (A5e a0 a1 a2).bind fun r3=>
 (A1x r3).bind fun r4=>
 (A6j (⟨r3,r4,([]:H N),([]:H N)⟩:Xj)).bind fun r5=>
 E (r5.2.who,r5.2.most,T))
else(
 E (([]:H N),(0:N),F))
/- impl_coverFits -/
def A2d(a0:N)(a1:H N)(a2:H Xg)(a3:N):L O:=
if(decide ((a2.length:N)≤a3)) then(
 E T)
else(
 (Z7 a0 a1 a2).bind fun r2=>
 E (decide (r2.2.1≤a3)))
/- impl_crewFits -/
def T4(a1:H X0)(a0:X4):P→N→(H X5)→(H Xg)→L O
| 0,_,_,_=>G
| n+1,v1,v2,v3=>
 if(decide (v1<(a1.length:N))) then(
 (ix a1 v1).bind fun x5=>
 if B9 v2.length x5.Passages.length 40 then(
  if(decide ((0:N)<(x5.Passages.length:N))) then(
  (ix x5.Passages (0:N)).bind fun x8=>
  (ix x5.Passages (zB .i64 ((x5.Passages.length:N) - (1:N)))).bind fun x9=>
  (A66 a0.Chart x8 x9).bind fun r10=>
  if B9 v3.length ([r10]:H Xg).length 32 then(
   T4 a1 a0 n (zB .i64 (v1+(1:N))) (v2++x5.Passages) (v3++([r10]:H Xg)))
  else G)
  else(
  T4 a1 a0 n (zB .i64 (v1+(1:N))) (v2++x5.Passages) v3))
 else G)
 else(
 (A6o a0.Chart a0.Fleet v2).bind fun r12=>
 if r12.2 then(
  (A2d (0:N) a0.Crew.Moves r12.1 a0.Crew.Tugs).bind fun r14=>
  if r14 then(
  (A2d a0.Crew.Rest a0.Crew.Moves v3 a0.Crew.Pilots).bind fun r16=>
  E r16)
  else(
  E F))
 else(
  E F))
def V0(a0:X4)(a1:H X0):L O:=
T4 a1 a0 bigN (0:N) ([]:H X5) ([]:H Xg)
/- impl_fitsTo -/
def A1c(a1:H X0)(a0:X4)(a2:X0):P→N→L O
| 0,_=>G
| n+1,v1=>
 if(decide (v1<(a1.length:N))) then(
 (ix a1 v1).bind fun x3=>
 (A76 a0.Chart a0.Regime x3.Passages a2.Passages).bind fun r4=>
 if r4 then(
  E F)
 else(
  A1c a1 a0 a2 n (zB .i64 (v1+(1:N)))))
 else(
 (K0 a1).bind fun r6=>
 if B9 r6.length ([a2]:H X0).length 48 then(
  (V0 a0 (r6++([a2]:H X0))).bind fun r9=>
  E r9)
 else G)
def A26(a0:X4)(a1:H X0)(a2:X0):L O:=
A1c a1 a0 a2 bigN (0:N)
/- impl_planner_search -/
def K5(w0:(H X0)→L Xk)(rec_:Xf→L Xf)(a0:Xf)(x8:H X0):P→N→X4→(H (H X0))→N→N→O→(H X0)→(H N)→(H N)→L Xf
| 0,_,_,_,_,_,_,_,_,_=>G
| n+1,v9,v10,v11,v12,v13,v14,v15,v16,v17=>
 if(decide (v9<(x8.length:N))) then(
 (ix x8 v9).bind fun x19=>
 (A26 v10 v15 x19).bind fun r20=>
 if r20 then(
  if B9 v15.length ([x19]:H X0).length 48 then(
  if B9 v16.length ([v9]:H N).length 8 then(
   (rec_ (⟨v10,v11,(v15++([x19]:H X0)),(v16++([v9]:H N)),v17,(⟨v12,v13⟩:Xk),v14⟩:Xf)).bind fun r24=>
   (bnd (r24.plan.length:N) (a0.plan.length:N) 0 r24.plan.length).bind fun p25=>
   (bnd (r24.choice.length:N) (a0.plan.length:N) 0 r24.choice.length).bind fun p26=>
   K5 w0 rec_ a0 x8 n (zB .i64 (v9+(1:N))) r24.h r24.choices r24.least.i0 r24.least.i1 r24.found (r24.plan.take p25.2) (r24.choice.take p26.2) r24.best)
  else G)
  else G)
 else(
  K5 w0 rec_ a0 x8 n (zB .i64 (v9+(1:N))) v10 v11 v12 v13 v14 v15 v16 v17))
 else(
 E (⟨v10,v11,v15,v16,v17,(⟨v12,v13⟩:Xk),v14⟩:Xf))
def K3(w0:(H X0)→L Xk)(rec_:Xf→L Xf)(a0:Xf)(r1:Xk)(v5:O):L Xf:=
if((a0.plan.length:N)==(a0.choices.length:N)) then(
 (D5 a0.choice).bind fun r7=>
 E (⟨a0.h,a0.choices,a0.plan,a0.choice,r7,r1,T⟩:Xf))
else(
 (ix a0.choices (a0.plan.length:N)).bind fun x8=>
 K5 w0 rec_ a0 x8 bigN (0:N) a0.h a0.choices a0.least.i0 a0.least.i1 v5 a0.plan a0.choice a0.best)
def Y7(w0:(H X0)→L Xk)(rec_:Xf→L Xf)(a0:Xf):L Xf:=
(w0 a0.plan).bind fun r1=>
if a0.found then(
 (A2u r1 a0.least).bind fun r3=>
 if r3 then(
 K3 w0 rec_ a0 r1 T)
 else(
 E (⟨a0.h,a0.choices,a0.plan,a0.choice,a0.best,a0.least,T⟩:Xf)))
else(
 K3 w0 rec_ a0 r1 F)
def G1(w0:(H X0)→L Xk):P→Xf→L Xf
| 0,_=>G
| n+1,a0=>Y7 w0 (G1 w0 n) a0
def A6c(w0:(H X0)→L Xk)(a0:Xf):L Xf:=G1 w0 bigN a0
/- impl_leastPlan -/
def A4o(a0:X4)(a1:H (H X0))(a2:(H X0)→L Xk):L ((H N) × Xk × O):=
(A6c a2 (⟨a0,a1,([]:H X0),([]:H N),([]:H N),(⟨(0:N),(0:N)⟩:Xk),F⟩:Xf)).bind fun r1=>
E (r1.best,r1.least,r1.found)
/- impl_CostOf -/
def A04(a0:H X0):P→N→N→L N
| 0,_,_=>G
| n+1,v1,v2=>
 if(decide (v2<(a0.length:N))) then(
 (ix a0 v2).bind fun x4=>
 A04 a0 n (zB .i64 (v1+x4.Cost)) (zB .i64 (v2+(1:N))))
 else(
 E v1)
def Y2(a0:H X0):L N:=
A04 a0 bigN (0:N) (0:N)
/- impl_byCost -/
def A6w(a0:H X0):L Xk:=
(Y2 a0).bind fun r1=>
E (⟨r1,(0:N)⟩:Xk)
/- impl_BestPlan -/
def A1j(a0:X4)(a1:H Xa):L ((H N) × N × O):=
(O0 a0 a1).bind fun r1=>
if r1 then(
 (A1s a0 a1).bind fun r3=>
 (A4o a0 r3 (fun z0=>A6w z0)).bind fun r4=>
 E (r4.1,r4.2.1.i0,r4.2.2))
else(
 E (([]:H N),(0:N),F))
/- impl_PlanOf -/
def A06(a2:H N)(a1:H Xa)(a0:X4):P→N→(H X0)→L ((H X0) × O)
| 0,_,_=>G
| n+1,v5,v6=>
 if(decide (v5<(a1.length:N))) then(
 (ix a1 v5).bind fun x8=>
 (W0 a0 x8).bind fun r9=>
 (ix a2 v5).bind fun x10=>
 (D9 x10 (r9.length:N)).bind fun r11=>
 if r11 then(
  (ix r9 x10).bind fun x13=>
  if B9 v6.length ([x13]:H X0).length 48 then(
  A06 a2 a1 a0 n (zB .i64 (v5+(1:N))) (v6++([x13]:H X0)))
  else G)
 else(
  E (([]:H X0),F)))
 else(
 E (v6,T))
def A5a(a1:H Xa)(a2:H N)(a0:X4)(v3:O):L ((H X0) × O):=
if v3 then(
 E (([]:H X0),F))
else(
 A06 a2 a1 a0 bigN (0:N) ([]:H X0))
def A6z(a0:X4)(a1:H Xa)(a2:H N):L ((H X0) × O):=
(O0 a0 a1).bind fun r1=>
if r1 then(
 A5a a1 a2 a0 ((a2.length:N) !=(a1.length:N)))
else(
 A5a a1 a2 a0 T)
/- impl_WaitStrategy -/
def P8(a1:H Xa)(a2 v14:N)(x20 y15 v16:N)(a0:X4)(r21:X4 × O)(v17:H Xi)(r22:(H N) × N × O)(y18:H N)(A21:N→N→(H Xi)→L (Xh × O))(v24:O):L (Xh × O):=
if v24 then(
 E ((⟨(0:N),([]:H Xi)⟩:Xh),F))
else(
 (A6z r21.1 a1 r22.1).bind fun r26=>
 if B9 v17.length ([(⟨v14,(zB .i64 (x20 - (1:N))),r26.1⟩:Xi)]:H Xi).length 40 then(
 A21 x20 (zB .i64 (v16+(1:N))) (v17++([(⟨v14,(zB .i64 (x20 - (1:N))),r26.1⟩:Xi)]:H Xi)))
 else G)
def I9(a1:H Xa)(a2:N)(a0:X4)(y15:N)(y18:H N):P→N→N→(H Xi)→L (Xh × O)
| 0,_,_,_=>G
| n+1,v14,v16,v17=>
 if(decide (v16<y15)) then(
 (ix y18 v16).bind fun x20=>
 (O9 a0 a2 v14 (zB .i64 (x20 - (1:N)))).bind fun r21=>
 (A1j r21.1 a1).bind fun r22=>
 if r21.2 then(
  P8 a1 a2 v14 x20 y15 v16 a0 r21 v17 r22 y18 (I9 a1 a2 a0 y15 y18 n) (!r22.2.2))
 else(
  P8 a1 a2 v14 x20 y15 v16 a0 r21 v17 r22 y18 (I9 a1 a2 a0 y15 y18 n) T))
 else(
 E ((⟨a2,v17⟩:Xh),T))
def P6(a1:H Xa)(a2:N)(a3:H N)(r1:N × N × O)(a0:X4):P→N→L (Xh × O)
| 0,_=>G
| n+1,v8=>
 if(decide (v8<(a1.length:N))) then(
 (ix a1 v8).bind fun x10=>
 if(decide (x10.Ready<a2)) then(
  E ((⟨(0:N),([]:H Xi)⟩:Xh),F))
 else(
  P6 a1 a2 a3 r1 a0 n (zB .i64 (v8+(1:N)))))
 else(
 (D5 a3).bind fun r12=>
 if B9 r12.length ([(zB .i64 (r1.2.1+(1:N)))]:H N).length 8 then(
  I9 a1 a2 a0 ((r12++([(zB .i64 (r1.2.1+(1:N)))]:H N)).length:N) (r12++([(zB .i64 (r1.2.1+(1:N)))]:H N)) bigN r1.1 (0:N) ([]:H Xi))
 else G)
def Q0(a1:H Xa)(a2:N)(a3:H N)(r1:N × N × O)(a0:X4)(v6:O):L (Xh × O):=
if v6 then(
 E ((⟨(0:N),([]:H Xi)⟩:Xh),F))
else(
 P6 a1 a2 a3 r1 a0 bigN (0:N))
def A12(a0:X4)(a1:H Xa)(a2:N)(a3:H N):L (Xh × O):=
(S8 a0.Forecast a2).bind fun r1=>
if r1.2.2 then(
 (O0 a0 a1).bind fun r3=>
 if r3 then(
 (A6u a3 r1.1 r1.2.1).bind fun r5=>
 Q0 a1 a2 a3 r1 a0 (!r5))
 else(
 Q0 a1 a2 a3 r1 a0 T))
else(
 Q0 a1 a2 a3 r1 a0 T)
/- slices_IndexFunc_Branch -/
def J6(a1:Xi→L O)(a0:H Xi):P→N→L N
| 0,_=>G
| n+1,v1=>
 if(decide (v1<(a0.length:N))) then(
 (ix a0 v1).bind fun x3=>
 (a1 x3).bind fun r4=>
 if r4 then(
  E v1)
 else(
  J6 a1 a0 n (zB .i64 (v1+(1:N)))))
 else(
 E (-1:N))
def A0z(a0:H Xi)(a1:Xi→L O):L N:=
J6 a1 a0 bigN (0:N)
/- impl_BranchFor_1 -/
def W6(a0:Xi)(c0:N):L O:=
(E3 c0 a0.Low a0.High).bind fun r1=>
E r1
/- impl_BranchFor -/
def A33(a0:Xh)(a1:N):L N:=
(A0z a0.Branches (fun z0=>W6 z0 a1)).bind fun r1=>
E r1
/- impl_OptionAt -/
def A3h(a2:H N)(a3:N)(a0:X4)(a1:Xa)(v4:O):L (X0 × O):=
if v4 then(
 E ((⟨(0:N),(0:N),(0:N),([]:H X5)⟩:X0),F))
else(
 (T2 a0 a1 a2).bind fun r6=>
 if r6.2 then(
 (A0e a0 a1 r6.1 a2 a3).bind fun r9=>
 if r9.2 then(
  E (r9.1,T))
 else(
  E ((⟨(0:N),(0:N),(0:N),([]:H X5)⟩:X0),F)))
 else(
 E ((⟨(0:N),(0:N),(0:N),([]:H X5)⟩:X0),F)))
def A5k(a0:X4)(a1:Xa)(a2:H N)(a3:N):L (X0 × O):=
(A4y a0 a1).bind fun r1=>
if r1 then(
 (E3 a3 a1.Ready a1.Due).bind fun r3=>
 A3h a2 a3 a0 a1 (!r3))
else(
 A3h a2 a3 a0 a1 T)
/- slices_Equal_Passage -/
def M5(a0 a1:H X5):P→N→L O
| 0,_=>G
| n+1,v2=>
 if(decide (v2<(a0.length:N))) then(
 (ix a0 v2).bind fun x4=>
 (ix a1 v2).bind fun x5=>
 if((x4.Ship==x5.Ship)&&((x4.Segment==x5.Segment)&&((x4.Toward==x5.Toward)&&((x4.Start==x5.Start)&&((x4.End==x5.End)&&T))))) then(
  M5 a0 a1 n (zB .i64 (v2+(1:N))))
 else(
  E F))
 else(
 E T)
def S9(a0 a1:H X5):L O:=
if((a0.length:N) !=(a1.length:N)) then(
 E F)
else(
 M5 a0 a1 bigN (0:N))
/- impl_SameOptions -/
def A2t(a0 a1:X0):L O:=
if(a0.Start==a1.Start) then(
 if(a0.Arrival==a1.Arrival) then(
 if(a0.Cost==a1.Cost) then(
  (S9 a0.Passages a1.Passages).bind fun r4=>
  E r4)
 else(
  E F))
 else(
 E F))
else(
 E F)
/- impl_IsOption -/
def Z1(a2:X0)(a0:X4)(a1:Xa):P→N→(H N)→L O
| 0,_,_=>G
| n+1,v1,v2=>
 if(decide (v1<(a2.Passages.length:N))) then(
 (ix a2.Passages v1).bind fun x4=>
 if B9 v2.length ([x4.Segment]:H N).length 8 then(
  Z1 a2 a0 a1 n (zB .i64 (v1+(1:N))) (v2++([x4.Segment]:H N)))
 else G)
 else(
 (A5k a0 a1 v2 a2.Start).bind fun r6=>
 if r6.2 then(
  (A2t r6.1 a2).bind fun r9=>
  E r9)
 else(
  E F))
def A49(a0:X4)(a1:Xa)(a2:X0):L O:=
Z1 a2 a0 a1 bigN (0:N) ([]:H N)
/- impl_IsPlan -/
def A05(a2:H X0)(a1:H Xa)(a0:X4):P→N→L O
| 0,_=>G
| n+1,v4=>
 if(decide (v4<(a1.length:N))) then(
 (ix a1 v4).bind fun x6=>
 (ix a2 v4).bind fun x7=>
 (A49 a0 x6 x7).bind fun r9=>
 if r9 then(
  (bnd (a2.length:N) v4 (0:N) a2.length).bind fun p11=>
  (A26 a0 ((a2.drop p11.1).take (p11.2 - p11.1)) x7).bind fun r12=>
  if r12 then(
  A05 a2 a1 a0 n (zB .i64 (v4+(1:N))))
  else(
  E F))
 else(
  E F))
 else(
 E T)
def A29(a0:X4)(a1:H Xa)(a2:H X0):L O:=
(O0 a0 a1).bind fun r1=>
if r1 then(
 if((a2.length:N) !=(a1.length:N)) then(
 E F)
 else(
 A05 a2 a1 a0 bigN (0:N)))
else(
 E F)
/- slices_Equal_Part -/
def P7(a0 a1:H Xe):P→N→L O
| 0,_=>G
| n+1,v2=>
 if(decide (v2<(a0.length:N))) then(
 (ix a0 v2).bind fun x4=>
 (ix a1 v2).bind fun x5=>
 if((x4.Amp==x5.Amp)&&((x4.Period==x5.Period)&&((x4.Phase==x5.Phase)&&T))) then(
  P7 a0 a1 n (zB .i64 (v2+(1:N))))
 else(
  E F))
 else(
 E T)
def A1z(a0 a1:H Xe):L O:=
if((a0.length:N) !=(a1.length:N)) then(
 E F)
else(
 P7 a0 a1 bigN (0:N))
/- impl_SameTides -/
def A6l(a0 a1:Xn):L O:=
if(a0.Mean==a1.Mean) then(
 (A1z a0.Parts a1.Parts).bind fun r2=>
 E r2)
else(
 E F)
/- impl_NarrowerBand -/
def Q4(a0 a1:X8)(y9:N)(y11:H X6):P→N→L O
| 0,_=>G
| n+1,v10=>
 if(decide (v10<y9)) then(
 (ix y11 v10).bind fun x13=>
 (C5 a0 x13.From).bind fun r14=>
 (ix a0.Surges r14).bind fun x15=>
 (C5 a1 x13.From).bind fun r16=>
 (ix a1.Surges r16).bind fun x17=>
 if(decide (x15.Low<x17.Low)) then(
  E F)
 else(
  if(decide (x17.High<x15.High)) then(
  E F)
  else(
  Q4 a0 a1 y9 y11 n (zB .i64 (v10+(1:N))))))
 else(
 E T)
def U0(a0 a1:X8):L O:=
(I4 a0).bind fun r1=>
if r1 then(
 (I4 a1).bind fun r3=>
 if r3 then(
 (A6l a0.Tide a1.Tide).bind fun r5=>
 if r5 then(
  (L7 a0.Surges).bind fun r7=>
  if B9 r7.length a1.Surges.length 24 then(
  Q4 a0 a1 ((r7++a1.Surges).length:N) (r7++a1.Surges) bigN (0:N))
  else G)
 else(
  E F))
 else(
 E F))
else(
 E F)
/- impl_SailedBefore -/
def N0(a1:N)(a0:X0):P→N→(H X5)→L (H X5)
| 0,_,_=>G
| n+1,v1,v2=>
 if(decide (v1<(a0.Passages.length:N))) then(
 (ix a0.Passages v1).bind fun x4=>
 if(decide (x4.Start<a1)) then(
  if B9 v2.length ([x4]:H X5).length 40 then(
  N0 a1 a0 n (zB .i64 (v1+(1:N))) (v2++([x4]:H X5)))
  else G)
 else(
  N0 a1 a0 n (zB .i64 (v1+(1:N))) v2))
 else(
 E v2)
def T9(a0:X0)(a1:N):L (H X5):=
N0 a1 a0 bigN (0:N) ([]:H X5)
/- impl_CoversBand -/
def M8(r1:N × N × O)(a1:Xh):P→N→L O
| 0,_=>G
| n+1,v7=>
 if(decide (v7<(a1.Branches.length:N))) then(
 (ix a1.Branches v7).bind fun x9=>
 if(decide (x9.High<x9.Low)) then(
  E F)
 else(
  if(decide ((0:N)<v7)) then(
  (ix a1.Branches (zB .i64 (v7 - (1:N)))).bind fun x12=>
  if((zB .i64 (x12.High+(1:N))) !=x9.Low) then(
   E F)
  else(
   M8 r1 a1 n (zB .i64 (v7+(1:N)))))
  else(
  M8 r1 a1 n (zB .i64 (v7+(1:N))))))
 else(
 (ix a1.Branches (0:N)).bind fun x14=>
 if(decide (x14.Low≤r1.1)) then(
  (ix a1.Branches (zB .i64 ((a1.Branches.length:N) - (1:N)))).bind fun x16=>
  E (decide (r1.2.1≤x16.High)))
 else(
  E F))
def A1n(a0:X4)(a1:Xh):L O:=
(S8 a0.Forecast a1.Minute).bind fun r1=>
if r1.2.2 then(
 (W4 a0).bind fun r3=>
 if r3 then(
 (E3 (a1.Branches.length:N) (1:N) (4:N)).bind fun r5=>
 if r5 then(
  M8 r1 a1 bigN (0:N))
 else(
  E F))
 else(
 E F))
else(
 E F)
/- impl_IsStrategy -/
def U2(a1:H Xa)(x5:Xi)(a2:Xh)(v6:N)(x8:Xi)(a0:X4)(A13:N→L O):P→N→L O
| 0,_=>G
| n+1,v13=>
 if(decide (v13<(x8.Plan.length:N))) then(
 (ix x8.Plan v13).bind fun x15=>
 (T9 x15 a2.Minute).bind fun r16=>
 (ix x5.Plan v13).bind fun x17=>
 (T9 x17 a2.Minute).bind fun r18=>
 (S9 r16 r18).bind fun r19=>
 if r19 then(
  U2 a1 x5 a2 v6 x8 a0 A13 n (zB .i64 (v13+(1:N))))
 else(
  E F))
 else(
 A13 (zB .i64 (v6+(1:N))))
def M9(a1:H Xa)(x5:Xi)(a2:Xh)(a0:X4):P→N→L O
| 0,_=>G
| n+1,v6=>
 if(decide (v6<(a2.Branches.length:N))) then(
 (ix a2.Branches v6).bind fun x8=>
 (O9 a0 a2.Minute x8.Low x8.High).bind fun r9=>
 if r9.2 then(
  (A29 r9.1 a1 x8.Plan).bind fun r11=>
  if r11 then(
  U2 a1 x5 a2 v6 x8 a0 (M9 a1 x5 a2 a0 n) bigN (0:N))
  else(
  E F))
 else(
  E F))
 else(
 E T)
def A3k(a0:X4)(a1:H Xa)(a2:Xh):L O:=
(O0 a0 a1).bind fun r1=>
if r1 then(
 (A1n a0 a2).bind fun r3=>
 if r3 then(
 (ix a2.Branches (0:N)).bind fun x5=>
 M9 a1 x5 a2 a0 bigN (0:N))
 else(
 E F))
else(
 E F)
/- impl_WorstCost -/
def W5(v1:N)(a0:Xh)(v2:N)(x4:Xi)(A2l:N→N→L N)(v7:O):L N:=
if v7 then(
 (Y2 x4.Plan).bind fun r9=>
 A2l r9 (zB .i64 (v2+(1:N))))
else(
 A2l v1 (zB .i64 (v2+(1:N))))
def L6(a0:Xh):P→N→N→L N
| 0,_,_=>G
| n+1,v1,v2=>
 if(decide (v2<(a0.Branches.length:N))) then(
 (ix a0.Branches v2).bind fun x4=>
 if(v2==(0:N)) then(
  W5 v1 a0 v2 x4 (L6 a0 n) T)
 else(
  (Y2 x4.Plan).bind fun r6=>
  W5 v1 a0 v2 x4 (L6 a0 n) (decide (v1<r6))))
 else(
 E v1)
def A6n(a0:Xh):L N:=
L6 a0 bigN (0:N) (0:N)
/- impl_LeastCost -/
def W1(v1:N)(a0:Xh)(v2:N)(x4:Xi)(A2s:N→N→L N)(v7:O):L N:=
if v7 then(
 (Y2 x4.Plan).bind fun r9=>
 A2s r9 (zB .i64 (v2+(1:N))))
else(
 A2s v1 (zB .i64 (v2+(1:N))))
def L5(a0:Xh):P→N→N→L N
| 0,_,_=>G
| n+1,v1,v2=>
 if(decide (v2<(a0.Branches.length:N))) then(
 (ix a0.Branches v2).bind fun x4=>
 if(v2==(0:N)) then(
  W1 v1 a0 v2 x4 (L5 a0 n) T)
 else(
  (Y2 x4.Plan).bind fun r6=>
  W1 v1 a0 v2 x4 (L5 a0 n) (decide (r6<v1))))
 else(
 E v1)
def A6f(a0:Xh):L N:=
L5 a0 bigN (0:N) (0:N)
/- impl_FormatInt -/
def A0l(a0:N):L (H Q):=
(A7y a0).bind fun r1=>
E r1
/- impl_word -/
def A8d(a0:Xq):L (H Q):=
if a0.isS then(
 E a0.s)
else(
 (A0l a0.n).bind fun r2=>
 E r2)
/- impl_Join -/
def A63(a0:H (H Q))(a1:H Q):L (H Q):=
(A77 a0 a1).bind fun r1=>
E r1
/- impl_words -/
def A18(a0:H Xq):P→N→(H (H Q))→L (H Q)
| 0,_,_=>G
| n+1,v1,v2=>
 if(decide (v1<(a0.length:N))) then(
 (ix a0 v1).bind fun x4=>
 (A8d x4).bind fun r5=>
 if B9 v2.length ([r5]:H (H Q)).length 16 then(
  A18 a0 n (zB .i64 (v1+(1:N))) (v2++([r5]:H (H Q))))
 else G)
 else(
 (A63 v2 ([32]:H Q)).bind fun r7=>
 E r7)
def A7n(a0:H Xq):L (H Q):=
A18 a0 bigN (0:N) ([]:H (H Q))
/- impl_StrategyLines -/
def O6(a0:Xh):P→N→(H (H Q))→L (H (H Q))
| 0,_,_=>G
| n+1,v1,v2=>
 if(decide (v1<(a0.Branches.length:N))) then(
 (ix a0.Branches v1).bind fun x4=>
 (A0l x4.Low).bind fun r5=>
 if B1w r5.length ([46,46]:H Q).length then(
  (A0l x4.High).bind fun r7=>
  if B1w (r5++([46,46]:H Q)).length r7.length then(
  (Y2 x4.Plan).bind fun r9=>
  (A7n ([(⟨T,((r5++([46,46]:H Q))++r7),0⟩:Xq),(⟨F,[],r9⟩:Xq)]:H Xq)).bind fun r10=>
  if B9 v2.length ([r10]:H (H Q)).length 16 then(
   O6 a0 n (zB .i64 (v1+(1:N))) (v2++([r10]:H (H Q))))
  else G)
  else G)
 else G)
 else(
 E v2)
def A1e(a0:Xh):L (H (H Q)):=
O6 a0 bigN (0:N) ([]:H (H Q))
/- laws_FnStrategies -/
def P5(r2:X4 × (H Xa) × N × (H N))(r3:Xh × O)(v14:N)(x16:Xi)(A0w:N→L O):P→N→L O
| 0,_=>G
| n+1,v23=>
 if(decide (v23<(x16.Plan.length:N))) then(
 (ix x16.Plan v23).bind fun x25=>
 (T9 x25 r2.2.2.1).bind fun r26=>
 if((r26.length:N) !=(0:N)) then(
  E F)
 else(
  P5 r2 r3 v14 x16 A0w n (zB .i64 (v23+(1:N)))))
 else(
 A0w (zB .i64 (v14+(1:N))))
def J9(r2:X4 × (H Xa) × N × (H N))(r3:Xh × O):P→N→L O
| 0,_=>G
| n+1,v14=>
 if(decide (v14<(r3.1.Branches.length:N))) then(
 (ix r3.1.Branches v14).bind fun x16=>
 (O9 r2.1 r2.2.2.1 x16.Low x16.High).bind fun r17=>
 if r17.2 then(
  (A29 r17.1 r2.2.1 x16.Plan).bind fun r19=>
  if r19 then(
  (U0 r17.1.Forecast r2.1.Forecast).bind fun r21=>
  if r21 then(
   P5 r2 r3 v14 x16 (J9 r2 r3 n) bigN (0:N))
  else(
   E F))
  else(
  E F))
 else(
  E F))
 else(
 (A3k r2.1 r2.2.1 r3.1).bind fun r28=>
 if r28 then(
  (A1n r2.1 r3.1).bind fun r30=>
  if r30 then(
  (A6n r3.1).bind fun r32=>
  (A6f r3.1).bind fun r33=>
  if(decide (r33≤r32)) then(
   (A1e r3.1).bind fun r35=>
   E ((r35.length:N)==(r3.1.Branches.length:N)))
  else(
   E F))
  else(
  E F))
 else(
  E F))
def Q1(r2:X4 × (H Xa) × N × (H N))(r4:N × N × O)(r3:Xh × O):P→N→L O
| 0,_=>G
| n+1,v9=>
 if(decide (v9≤r4.2.1)) then(
 (A33 r3.1 v9).bind fun r11=>
 if(decide (r11<(0:N))) then(
  E F)
 else(
  if(decide ((r3.1.Branches.length:N)≤r11)) then(
  E F)
  else(
  Q1 r2 r4 r3 n (zB .i64 (v9+(1:N))))))
 else(
 J9 r2 r3 bigN (0:N))
def A4w(a0:H N):L O:=
if(decide ((1048576:N)<(a0.length:N))) then(
 E T)
else(
 (A5o a0).bind fun r2=>
 (A12 r2.1 r2.2.1 r2.2.2.1 r2.2.2.2).bind fun r3=>
 (S8 r2.1.Forecast r2.2.2.1).bind fun r4=>
 (O0 r2.1 r2.2.1).bind fun r5=>
 if r5 then(
 if r4.2.2 then(
  if r3.2 then(
  Q1 r2 r4 r3 bigN r4.1)
  else(
  E ((r3.1.Branches.length:N)==(0:N))))
 else(
  E F))
 else(
 E F))
end Go.Vi
