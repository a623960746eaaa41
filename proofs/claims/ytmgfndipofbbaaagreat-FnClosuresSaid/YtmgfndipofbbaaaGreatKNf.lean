/-
Plain definitions of functions. No condition.
-/
import Derived.Test.YtmgfndipofbbaaaGreatKVi40
namespace Go.Vi
set_option linter.all false
open List renaming map → U, not_mem_nil → Y, mem_cons → Z, replicate → I
open Nat renaming le_of_ble_eq_true → V
open And renaming intro → W
open Int renaming toNat → X, tdiv → C, tmod → zA
open IntKind renaming wrap → zB
open Bool renaming true → T, false → F
open Option renaming some → E, none → G
open _root_ renaming List → H, Option → L, Int → N, Bool → O, Nat → P, UInt8 → Q
def A0y(k:IntKind)(x:N)(n:P):N:=k.wrap (x.fdiv (2 ^ min n k.bits))
theorem C7a{k:IntKind}{x:N}:A5q .shr (.v (.sc (.dat (.int k x)))) (.v (.sc (.dat (.int .u64 8))))=E (.v (.sc (.dat (.int k (A0y k x 8))))):=by simp[A5q,N2,A0y]
theorem C70{k:IntKind}{x:N}:N2 .shr k x 8=E (.int k (A0y k x 8)):=by simp[N2,A0y]
theorem C4r{k:IntKind}{x:N}:A5q .shr (.v (.sc (.dat (.int k x)))) (.v (.sc (.dat (.int .u64 16))))=E (.v (.sc (.dat (.int k (A0y k x 16))))):=by simp[A5q,N2,A0y]
theorem C4x{k:IntKind}{x:N}:N2 .shr k x 16=E (.int k (A0y k x 16)):=by simp[N2,A0y]
theorem C4h{k:IntKind}{x:N}:A5q .shr (.v (.sc (.dat (.int k x)))) (.v (.sc (.dat (.int .u64 32))))=E (.v (.sc (.dat (.int k (A0y k x 32))))):=by simp[A5q,N2,A0y]
theorem C4d{k:IntKind}{x:N}:N2 .shr k x 32=E (.int k (A0y k x 32)):=by simp[N2,A0y]
theorem C4f{k:IntKind}{x:N}:A5q .shr (.v (.sc (.dat (.int k x)))) (.v (.sc (.dat (.int .u64 33))))=E (.v (.sc (.dat (.int k (A0y k x 33))))):=by simp[A5q,N2,A0y]
theorem C4q{k:IntKind}{x:N}:N2 .shr k x 33=E (.int k (A0y k x 33)):=by simp[N2,A0y]
theorem C4i{k:IntKind}{x:N}:A5q .shr (.v (.sc (.dat (.int k x)))) (.v (.sc (.dat (.int .u64 45))))=E (.v (.sc (.dat (.int k (A0y k x 45))))):=by simp[A5q,N2,A0y]
theorem C4u{k:IntKind}{x:N}:N2 .shr k x 45=E (.int k (A0y k x 45)):=by simp[N2,A0y]
structure Xi where
 Amp:N
 Period:N
 Phase:N
 deriving DecidableEq
def Xi.row(x:Xi):H D:= [.int .i64 x.Amp,.int .i64 x.Period,.int .i64 x.Phase]
theorem Xi.row_eq(x:Xi):Xi.row x= [.int .i64 x.Amp,.int .i64 x.Period,.int .i64 x.Phase]:=rfl
instance:Row Xi.row 3:=⟨fun _=>rfl,V rfl⟩
instance:FlatRow Xi.row:=⟨fun x d hd=>by simp only[Xi.row_eq,Z,Y,or_false] at hd; rcases hd with rfl | rfl | rfl<;>rfl⟩
structure Xn where
 Mean:N
 Parts:H Xi
 deriving DecidableEq
def Xn.row(x:Xn):H D:= [.int .i64 x.Mean,.sl (U Xi.row x.Parts)]
theorem Xn.row_eq(x:Xn):Xn.row x= [.int .i64 x.Mean,.sl (U Xi.row x.Parts)]:=rfl
instance:Row Xn.row 2:=⟨fun _=>rfl,V rfl⟩
structure Xg where
 From:N
 Low:N
 High:N
 deriving DecidableEq
def Xg.row(x:Xg):H D:= [.int .i64 x.From,.int .i64 x.Low,.int .i64 x.High]
theorem Xg.row_eq(x:Xg):Xg.row x= [.int .i64 x.From,.int .i64 x.Low,.int .i64 x.High]:=rfl
instance:Row Xg.row 3:=⟨fun _=>rfl,V rfl⟩
instance:FlatRow Xg.row:=⟨fun x d hd=>by simp only[Xg.row_eq,Z,Y,or_false] at hd; rcases hd with rfl | rfl | rfl<;>rfl⟩
structure Xf where
 Tide:Xn
 Surges:H Xg
 deriving DecidableEq
def Xf.row(x:Xf):H D:= [.int .i64 x.Tide.Mean,.sl (U Xi.row x.Tide.Parts),.sl (U Xg.row x.Surges)]
theorem Xf.row_eq(x:Xf):Xf.row x= [.int .i64 x.Tide.Mean,.sl (U Xi.row x.Tide.Parts),.sl (U Xg.row x.Surges)]:=rfl
instance:Row Xf.row 3:=⟨fun _=>rfl,V rfl⟩
structure Xc where
 Name:H Q
 Wait:O
 deriving DecidableEq
def Xc.row(x:Xc):H D:= [.str x.Name,.bool x.Wait]
theorem Xc.row_eq(x:Xc):Xc.row x= [.str x.Name,.bool x.Wait]:=rfl
instance:Row Xc.row 2:=⟨fun _=>rfl,V rfl⟩
instance:FlatRow Xc.row:=⟨fun x d hd=>by simp only[Xc.row_eq,Z,Y,or_false] at hd; rcases hd with rfl | rfl<;>rfl⟩
structure X3 where
 A:N
 B:N
 Depth:N
 Minutes:N
 Meet:O
 deriving DecidableEq
def X3.row(x:X3):H D:= [.int .i64 x.A,.int .i64 x.B,.int .i64 x.Depth,.int .i64 x.Minutes,.bool x.Meet]
theorem X3.row_eq(x:X3):X3.row x= [.int .i64 x.A,.int .i64 x.B,.int .i64 x.Depth,.int .i64 x.Minutes,.bool x.Meet]:=rfl
instance:Row X3.row 5:=⟨fun _=>rfl,V rfl⟩
instance:FlatRow X3.row:=⟨fun x d hd=>by simp only[X3.row_eq,Z,Y,or_false] at hd; rcases hd with rfl | rfl | rfl | rfl | rfl<;>rfl⟩
structure X5 where
 Points:H Xc
 Segments:H X3
 deriving DecidableEq
def X5.row(x:X5):H D:= [.sl (U Xc.row x.Points),.sl (U X3.row x.Segments)]
theorem X5.row_eq(x:X5):X5.row x= [.sl (U Xc.row x.Points),.sl (U X3.row x.Segments)]:=rfl
instance:Row X5.row 2:=⟨fun _=>rfl,V rfl⟩
structure Xb where
 Name:H Q
 Length:N
 Draught:N
 Line:N
 Tugs:N
 Slow:O
 deriving DecidableEq
def Xb.row(x:Xb):H D:= [.str x.Name,.int .i64 x.Length,.int .i64 x.Draught,.int .i64 x.Line,.int .i64 x.Tugs,.bool x.Slow]
theorem Xb.row_eq(x:Xb):Xb.row x= [.str x.Name,.int .i64 x.Length,.int .i64 x.Draught,.int .i64 x.Line,.int .i64 x.Tugs,.bool x.Slow]:=rfl
instance:Row Xb.row 6:=⟨fun _=>rfl,V rfl⟩
instance:FlatRow Xb.row:=⟨fun x d hd=>by simp only[Xb.row_eq,Z,Y,or_false] at hd; rcases hd with rfl | rfl | rfl | rfl | rfl | rfl<;>rfl⟩
structure Xl where
 Gap:N
 NoMeet:O
 deriving DecidableEq
def Xl.row(x:Xl):H D:= [.int .i64 x.Gap,.bool x.NoMeet]
theorem Xl.row_eq(x:Xl):Xl.row x= [.int .i64 x.Gap,.bool x.NoMeet]:=rfl
instance:Row Xl.row 2:=⟨fun _=>rfl,V rfl⟩
instance:FlatRow Xl.row:=⟨fun x d hd=>by simp only[Xl.row_eq,Z,Y,or_false] at hd; rcases hd with rfl | rfl<;>rfl⟩
structure Xo where
 Tugs:N
 Pilots:N
 Rest:N
 Moves:H N
 deriving DecidableEq
def Xo.row(x:Xo):H D:= [.int .i64 x.Tugs,.int .i64 x.Pilots,.int .i64 x.Rest,.sl (U rI x.Moves)]
theorem Xo.row_eq(x:Xo):Xo.row x= [.int .i64 x.Tugs,.int .i64 x.Pilots,.int .i64 x.Rest,.sl (U rI x.Moves)]:=rfl
instance:Row Xo.row 4:=⟨fun _=>rfl,V rfl⟩
structure X6 where
 Forecast:Xf
 Chart:X5
 Fleet:H Xb
 Regime:Xl
 Crew:Xo
 deriving DecidableEq
def X6.row(x:X6):H D:= [.int .i64 x.Forecast.Tide.Mean,.sl (U Xi.row x.Forecast.Tide.Parts),.sl (U Xg.row x.Forecast.Surges),.sl (U Xc.row x.Chart.Points),.sl (U X3.row x.Chart.Segments),.sl (U Xb.row x.Fleet),.int .i64 x.Regime.Gap,.bool x.Regime.NoMeet,.int .i64 x.Crew.Tugs,.int .i64 x.Crew.Pilots,.int .i64 x.Crew.Rest,.sl (U rI x.Crew.Moves)]
theorem X6.row_eq(x:X6):X6.row x= [.int .i64 x.Forecast.Tide.Mean,.sl (U Xi.row x.Forecast.Tide.Parts),.sl (U Xg.row x.Forecast.Surges),.sl (U Xc.row x.Chart.Points),.sl (U X3.row x.Chart.Segments),.sl (U Xb.row x.Fleet),.int .i64 x.Regime.Gap,.bool x.Regime.NoMeet,.int .i64 x.Crew.Tugs,.int .i64 x.Crew.Pilots,.int .i64 x.Crew.Rest,.sl (U rI x.Crew.Moves)]:=rfl
instance:Row X6.row 12:=⟨fun _=>rfl,V rfl⟩
structure X8 where
 Ship:N
 From:N
 To:N
 Ready:N
 Due:N
 deriving DecidableEq
def X8.row(x:X8):H D:= [.int .i64 x.Ship,.int .i64 x.From,.int .i64 x.To,.int .i64 x.Ready,.int .i64 x.Due]
theorem X8.row_eq(x:X8):X8.row x= [.int .i64 x.Ship,.int .i64 x.From,.int .i64 x.To,.int .i64 x.Ready,.int .i64 x.Due]:=rfl
instance:Row X8.row 5:=⟨fun _=>rfl,V rfl⟩
instance:FlatRow X8.row:=⟨fun x d hd=>by simp only[X8.row_eq,Z,Y,or_false] at hd; rcases hd with rfl | rfl | rfl | rfl | rfl<;>rfl⟩
structure X1 where
 b:H N
 i:N
 h:N
 deriving DecidableEq
def X1.row(x:X1):H D:= [.sl (U r8 x.b),.int .i64 x.i,.int .i64 x.h]
theorem X1.row_eq(x:X1):X1.row x= [.sl (U r8 x.b),.int .i64 x.i,.int .i64 x.h]:=rfl
instance:Row X1.row 3:=⟨fun _=>rfl,V rfl⟩
structure Xa where
 Segment:N
 From:N
 To:N
 deriving DecidableEq
def Xa.row(x:Xa):H D:= [.int .i64 x.Segment,.int .i64 x.From,.int .i64 x.To]
theorem Xa.row_eq(x:Xa):Xa.row x= [.int .i64 x.Segment,.int .i64 x.From,.int .i64 x.To]:=rfl
instance:Row Xa.row 3:=⟨fun _=>rfl,V rfl⟩
instance:FlatRow Xa.row:=⟨fun x d hd=>by simp only[Xa.row_eq,Z,Y,or_false] at hd; rcases hd with rfl | rfl | rfl<;>rfl⟩
structure X4 where
 Ship:N
 Segment:N
 Toward:O
 Start:N
 End:N
 deriving DecidableEq
def X4.row(x:X4):H D:= [.int .i64 x.Ship,.int .i64 x.Segment,.bool x.Toward,.int .i64 x.Start,.int .i64 x.End]
theorem X4.row_eq(x:X4):X4.row x= [.int .i64 x.Ship,.int .i64 x.Segment,.bool x.Toward,.int .i64 x.Start,.int .i64 x.End]:=rfl
instance:Row X4.row 5:=⟨fun _=>rfl,V rfl⟩
instance:FlatRow X4.row:=⟨fun x d hd=>by simp only[X4.row_eq,Z,Y,or_false] at hd; rcases hd with rfl | rfl | rfl | rfl | rfl<;>rfl⟩
structure X0 where
 Start:N
 Arrival:N
 Cost:N
 Passages:H X4
 deriving DecidableEq
def X0.row(x:X0):H D:= [.int .i64 x.Start,.int .i64 x.Arrival,.int .i64 x.Cost,.sl (U X4.row x.Passages)]
theorem X0.row_eq(x:X0):X0.row x= [.int .i64 x.Start,.int .i64 x.Arrival,.int .i64 x.Cost,.sl (U X4.row x.Passages)]:=rfl
instance:Row X0.row 4:=⟨fun _=>rfl,V rfl⟩
structure X7 where
 i0:O
 i1:O
 i2:O
 i3:O
 i4:O
 i5:O
 i6:O
 i7:O
 deriving DecidableEq
def X7.row(x:X7):H D:= [.bool x.i0,.bool x.i1,.bool x.i2,.bool x.i3,.bool x.i4,.bool x.i5,.bool x.i6,.bool x.i7]
theorem X7.row_eq(x:X7):X7.row x= [.bool x.i0,.bool x.i1,.bool x.i2,.bool x.i3,.bool x.i4,.bool x.i5,.bool x.i6,.bool x.i7]:=rfl
instance:Row X7.row 8:=⟨fun _=>rfl,V rfl⟩
def X7.set(x:X7)(n:P)(v:O):X7:=⟨bif n==0 then v else x.i0,bif n==1 then v else x.i1,bif n==2 then v else x.i2,bif n==3 then v else x.i3,bif n==4 then v else x.i4,bif n==5 then v else x.i5,bif n==6 then v else x.i6,bif n==7 then v else x.i7⟩
theorem X7.set_eq(x:X7){n:P}{v:O}(h:n<8):A3o (U AC.dat (X7.row x)) n [.dat (.bool v)]=U AC.dat (X7.row (X7.set x n v)):=by
 match n,h with
 | 0,_=>rfl
 | 1,_=>rfl
 | 2,_=>rfl
 | 3,_=>rfl
 | 4,_=>rfl
 | 5,_=>rfl
 | 6,_=>rfl
 | 7,_=>rfl
instance:FlatRow X7.row:=⟨fun x d hd=>by simp only[X7.row_eq,Z,Y,or_false] at hd; rcases hd with rfl | rfl | rfl | rfl | rfl | rfl | rfl | rfl<;>rfl⟩
structure X9 where
 From:N
 To:N
 deriving DecidableEq
def X9.row(x:X9):H D:= [.int .i64 x.From,.int .i64 x.To]
theorem X9.row_eq(x:X9):X9.row x= [.int .i64 x.From,.int .i64 x.To]:=rfl
instance:Row X9.row 2:=⟨fun _=>rfl,V rfl⟩
instance:FlatRow X9.row:=⟨fun x d hd=>by simp only[X9.row_eq,Z,Y,or_false] at hd; rcases hd with rfl | rfl<;>rfl⟩
structure Xk where
 waits:H O
 minutes:H N
 sure:H (H X9)
 deriving DecidableEq
def Xk.row(x:Xk):H D:= [.sl (U rB x.waits),.sl (U rI x.minutes),.sl (U (rL X9.row) x.sure)]
theorem Xk.row_eq(x:Xk):Xk.row x= [.sl (U rB x.waits),.sl (U rI x.minutes),.sl (U (rL X9.row) x.sure)]:=rfl
instance:Row Xk.row 3:=⟨fun _=>rfl,V rfl⟩
structure Xj where
 i0:N
 i1:N
 deriving DecidableEq
def Xj.row(x:Xj):H D:= [.int .i64 x.i0,.int .i64 x.i1]
theorem Xj.row_eq(x:Xj):Xj.row x= [.int .i64 x.i0,.int .i64 x.i1]:=rfl
instance:Row Xj.row 2:=⟨fun _=>rfl,V rfl⟩
instance:FlatRow Xj.row:=⟨fun x d hd=>by simp only[Xj.row_eq,Z,Y,or_false] at hd; rcases hd with rfl | rfl<;>rfl⟩
structure Xd where
 h:X6
 choices:H (H X0)
 plan:H X0
 choice:H N
 best:H N
 least:Xj
 found:O
abbrev T9(F_w0:FuncId)(caps_w0:H D)(x:Xd):H XC:= [.d (.int .i64 x.h.Forecast.Tide.Mean),.d (.sl (U Xi.row x.h.Forecast.Tide.Parts)),.d (.sl (U Xg.row x.h.Forecast.Surges)),.d (.sl (U Xc.row x.h.Chart.Points)),.d (.sl (U X3.row x.h.Chart.Segments)),.d (.sl (U Xb.row x.h.Fleet)),.d (.int .i64 x.h.Regime.Gap),.d (.bool x.h.Regime.NoMeet),.d (.int .i64 x.h.Crew.Tugs),.d (.int .i64 x.h.Crew.Pilots),.d (.int .i64 x.h.Crew.Rest),.d (.sl (U rI x.h.Crew.Moves)),.d (.sl (U (rL X0.row) x.choices)),.d (.clo F_w0 caps_w0),.r 0,.r 1,.r 2,.d (.int .i64 x.least.i0),.d (.int .i64 x.least.i1),.d (.bool x.found)]
abbrev T5(x:Xd):H9:= [(4,U X0.row x.plan),(1,U rI x.choice),(1,U rI x.best)]
structure Xe where
 From:N
 To:N
 A:N
 B:N
 deriving DecidableEq
def Xe.row(x:Xe):H D:= [.int .i64 x.From,.int .i64 x.To,.int .i64 x.A,.int .i64 x.B]
theorem Xe.row_eq(x:Xe):Xe.row x= [.int .i64 x.From,.int .i64 x.To,.int .i64 x.A,.int .i64 x.B]:=rfl
instance:Row Xe.row 4:=⟨fun _=>rfl,V rfl⟩
instance:FlatRow Xe.row:=⟨fun x d hd=>by simp only[Xe.row_eq,Z,Y,or_false] at hd; rcases hd with rfl | rfl | rfl | rfl<;>rfl⟩
structure Xh where
 sets:H N
 most:N
 groups:H N
 who:H N
 deriving DecidableEq
def Xh.row(x:Xh):H D:= [.sl (U rU x.sets),.int .i64 x.most,.sl (U rU x.groups),.sl (U rI x.who)]
theorem Xh.row_eq(x:Xh):Xh.row x= [.sl (U rU x.sets),.int .i64 x.most,.sl (U rU x.groups),.sl (U rI x.who)]:=rfl
instance:Row Xh.row 4:=⟨fun _=>rfl,V rfl⟩
abbrev L0(x:Xh):H XC:= [.d (.sl (U rU x.sets)),.d (.int .i64 x.most),.r 0,.r 1]
abbrev K7(x:Xh):H9:= [(1,U rU x.groups),(1,U rI x.who)]
def F6j:=W @E28 (W @C7a (W @C70 (W @C4r (W @C4x (W @C4h (W @C4d (W @C4f (W @C4q (W @C4i (W @C4u (W @Xi.row_eq (W @Xn.row_eq (W @Xg.row_eq (W @Xf.row_eq (W @Xc.row_eq (W @X3.row_eq (W @X5.row_eq (W @Xb.row_eq (W @Xl.row_eq (W @Xo.row_eq (W @X6.row_eq (W @X8.row_eq (W @X1.row_eq (W @Xa.row_eq (W @X4.row_eq (W @X0.row_eq (W @X7.row_eq (W @X9.row_eq (W @Xk.row_eq (W @Xj.row_eq (W @Xe.row_eq (@Xh.row_eq))))))))))))))))))))))))))))))))
def J:=W E9a (W F02 (W E93 (W E9g F6j)))
/- spec_l01New -/
def A2r(a0:H N)(v1:N):L X1:= E (⟨a0,(0:N),v1⟩:X1)
def A05(a0:H N):P→N→N→L X1
| 0,_,_=>G
| n+1,v1,v2=>
 if(decide (v2<(a0.length:N))) then(
 if(decide (v2<(4000:N))) then(
  (ix a0 v2).bind fun x5=>
  A05 a0 n (K5 .and .i64 (zB .i64 ((zB .i64 ((zB .i64 (v1*(79:N)))+(zB .i64 x5)))+(7:N))) (1073741823:N)) (zB .i64 (v2+(1:N))))
 else(
  A2r a0 v1))
 else(
 A2r a0 v1)
def A4f(a0:H N):L X1:= A05 a0 bigN (zB .i64 ((1976:N)+(a0.length:N))) (0:N)
/- spec_l01Byte -/
def O4(a0:X1):L (N × X1):= if(decide (a0.i<(a0.b.length:N))) then(
 (ix a0.b a0.i).bind fun x2=>
 E ((K5 .and .i64 (zB .i64 ((K5 .and .i64 (K5 .xor .i64 (A0y .i64 (zB .i64 ((zB .i64 (a0.h*(6364136223846793005:N)))+(1442695040888963407:N))) 33) (A0y .i64 (zB .i64 ((zB .i64 (a0.h*(6364136223846793005:N)))+(1442695040888963407:N))) 45)) (255:N))+(zB .i64 x2))) (255:N)),(⟨a0.b,(zB .i64 (a0.i+(1:N))),(zB .i64 ((zB .i64 (a0.h*(6364136223846793005:N)))+(1442695040888963407:N)))⟩:X1))) else(
 E ((K5 .and .i64 (K5 .xor .i64 (A0y .i64 (zB .i64 ((zB .i64 (a0.h*(6364136223846793005:N)))+(1442695040888963407:N))) 33) (A0y .i64 (zB .i64 ((zB .i64 (a0.h*(6364136223846793005:N)))+(1442695040888963407:N))) 45)) (255:N)),(⟨a0.b,a0.i,(zB .i64 ((zB .i64 (a0.h*(6364136223846793005:N)))+(1442695040888963407:N)))⟩:X1)))
/- spec_l01Below -/
def A4(a0:X1)(a1:N):L (N × X1):= if(decide (a1≤(0:N))) then(
 E ((0:N),a0)) else(
 if(decide (a1≤(256:N))) then(
 (O4 a0).bind fun r3=>
 if a1==0 then G else
 E ((zB .i64 (zA r3.1 a1)),r3.2))
 else(
 (O4 a0).bind fun r5=>
 (O4 r5.2).bind fun r6=>
 (O4 r6.2).bind fun r7=>
 (O4 r7.2).bind fun r9=>
 if a1==0 then G else
 E ((zB .i64 (zA (zB .i64 ((zB .i64 ((zB .i64 ((zB .i64 (r5.1*(16777216:N)))+(zB .i64 (r6.1*(65536:N)))))+(zB .i64 (r7.1*(256:N)))))+r9.1)) a1)),r9.2)))
/- spec_l01Pick -/
def A5s(a0:X1)(a1:H N):L (N × X1):= (A4 a0 (a1.length:N)).bind fun r1=> (ix a1 r1.1).bind fun x2=> E (x2,r1.2)
/- spec_l02Part -/
def P1(a0:X1):L (Xi × X1):= (A4 a0 (300:N)).bind fun r1=> (A5s r1.2 ([(744:N),(720:N),(1440:N),(372:N),(240:N)]:H N)).bind fun r2=> (A4 r2.2 r2.1).bind fun r3=> E ((⟨r1.1,r2.1,r3.1⟩:Xi),r3.2)
/- spec_l02Draw -/
def A0f(r1:N × X1):P→N→(H N)→N→N→(H Xi)→L (Xn × X1)
| 0,_,_,_,_,_=>G
| n+1,v3,v4,v5,v6,v7=>
 if(decide ((0:N)<v3)) then(
 (P1 (⟨v4,v5,v6⟩:X1)).bind fun r9=>
 if D1 v7.length ([r9.1]:H Xi).length 24 then(
  A0f r1 n (zB .i64 (v3 - (1:N))) r9.2.b r9.2.i r9.2.h (v7++([r9.1]:H Xi)))
 else G)
 else(
 E ((⟨r1.1,v7⟩:Xn),(⟨v4,v5,v6⟩:X1)))
def A5p(a0:X1):L (Xn × X1):= (A4 a0 (300:N)).bind fun r1=> (A4 r1.2 (2:N)).bind fun r2=> A0f r1 bigN (zB .i64 ((1:N)+r2.1)) r2.2.b r2.2.i r2.2.h ([]:H Xi)
/- spec_l03Draw -/
def Q3(r1:Xn × X1):P→N→N→(H N)→N→N→(H Xg)→L (Xf × X1)
| 0,_,_,_,_,_,_=>G
| n+1,v3,v4,v5,v6,v7,v8=>
 if(decide ((0:N)<v4)) then(
 (A4 (⟨v5,v6,v7⟩:X1) (60:N)).bind fun r10=>
 (A4 r10.2 (60:N)).bind fun r11=>
 if D1 v8.length ([(⟨v3,(zB .i64 (r10.1 - (40:N))),(zB .i64 ((zB .i64 (r10.1 - (40:N)))+r11.1))⟩:Xg)]:H Xg).length 24 then(
  (A4 r11.2 (700:N)).bind fun r13=>
  Q3 r1 n (zB .i64 ((zB .i64 (v3+(100:N)))+r13.1)) (zB .i64 (v4 - (1:N))) r13.2.b r13.2.i r13.2.h (v8++([(⟨v3,(zB .i64 (r10.1 - (40:N))),(zB .i64 ((zB .i64 (r10.1 - (40:N)))+r11.1))⟩:Xg)]:H Xg)))
 else G)
 else(
 E ((⟨r1.1,v8⟩:Xf),(⟨v5,v6,v7⟩:X1)))
def A3j(a0:X1):L (Xf × X1):= (A5p a0).bind fun r1=> (A4 r1.2 (3:N)).bind fun r2=> Q3 r1 bigN (0:N) (zB .i64 ((1:N)+r2.1)) r2.2.b r2.2.i r2.2.h ([]:H Xg)
/- spec_l01Once -/
def J1(a0:X1)(a1:N):L (O × X1):= (A4 a0 a1).bind fun r1=> E ((r1.1==(0:N)),r1.2)
/- spec_l05Draw -/
def A15(v15:H N)(v16 v17:N)(v18:H Xc)(v19:H X3):L (X5 × X1):= (J1 (⟨v15,v16,v17⟩:X1) (3:N)).bind fun r20=> if r20.1 then(
 if D1 v18.length ([(⟨([100,111,99,107]:H Q),T⟩:Xc)]:H Xc).length 24 then(
 (A4 r20.2 (300:N)).bind fun r23=>
 if D1 v19.length ([(⟨(2:N),(4:N),(zB .i64 ((800:N)+r23.1)),(15:N),F⟩:X3)]:H X3).length 40 then(
  E ((⟨(v18++([(⟨([100,111,99,107]:H Q),T⟩:Xc)]:H Xc)),(v19++([(⟨(2:N),(4:N),(zB .i64 ((800:N)+r23.1)),(15:N),F⟩:X3)]:H X3))⟩:X5),r23.2))
 else G)
 else G) else(
 E ((⟨v18,v19⟩:X5),r20.2))
def A5v(a0:X1):L (X5 × X1):= (J1 a0 (2:N)).bind fun r1=> (A4 r1.2 (300:N)).bind fun r2=> (A4 r2.2 (40:N)).bind fun r3=> (A4 r3.2 (300:N)).bind fun r4=> (A4 r4.2 (30:N)).bind fun r5=> (J1 r5.2 (2:N)).bind fun r6=> (A4 r6.2 (200:N)).bind fun r7=> (A4 r7.2 (20:N)).bind fun r9=> (J1 r9.2 (3:N)).bind fun r10=> if r10.1 then(
 (A4 r10.2 (300:N)).bind fun r12=>
 (A4 r12.2 (30:N)).bind fun r13=>
 if D1 ([(⟨(0:N),(1:N),(zB .i64 ((900:N)+r2.1)),(zB .i64 ((10:N)+r3.1)),F⟩:X3),(⟨(1:N),(2:N),(zB .i64 ((800:N)+r4.1)),(zB .i64 ((10:N)+r5.1)),r6.1⟩:X3),(⟨(2:N),(3:N),(zB .i64 ((900:N)+r7.1)),(zB .i64 ((5:N)+r9.1)),F⟩:X3)]:H X3).length ([(⟨(3:N),(1:N),(zB .i64 ((700:N)+r12.1)),(zB .i64 ((20:N)+r13.1)),T⟩:X3)]:H X3).length 40 then(
 A15 r13.2.b r13.2.i r13.2.h ([(⟨([115,101,97]:H Q),T⟩:Xc),(⟨([98,97,114]:H Q),F⟩:Xc),(⟨([114,111,97,100]:H Q),r1.1⟩:Xc),(⟨([113,117,97,121]:H Q),T⟩:Xc)]:H Xc) (([(⟨(0:N),(1:N),(zB .i64 ((900:N)+r2.1)),(zB .i64 ((10:N)+r3.1)),F⟩:X3),(⟨(1:N),(2:N),(zB .i64 ((800:N)+r4.1)),(zB .i64 ((10:N)+r5.1)),r6.1⟩:X3),(⟨(2:N),(3:N),(zB .i64 ((900:N)+r7.1)),(zB .i64 ((5:N)+r9.1)),F⟩:X3)]:H X3)++([(⟨(3:N),(1:N),(zB .i64 ((700:N)+r12.1)),(zB .i64 ((20:N)+r13.1)),T⟩:X3)]:H X3)))
 else G) else(
 A15 r10.2.b r10.2.i r10.2.h ([(⟨([115,101,97]:H Q),T⟩:Xc),(⟨([98,97,114]:H Q),F⟩:Xc),(⟨([114,111,97,100]:H Q),r1.1⟩:Xc),(⟨([113,117,97,121]:H Q),T⟩:Xc)]:H Xc) ([(⟨(0:N),(1:N),(zB .i64 ((900:N)+r2.1)),(zB .i64 ((10:N)+r3.1)),F⟩:X3),(⟨(1:N),(2:N),(zB .i64 ((800:N)+r4.1)),(zB .i64 ((10:N)+r5.1)),r6.1⟩:X3),(⟨(2:N),(3:N),(zB .i64 ((900:N)+r7.1)),(zB .i64 ((5:N)+r9.1)),F⟩:X3)]:H X3))
/- spec_FormatInt -/
def A4v(rec_:N→L (H Q)):P→N→(H Q)→L (H Q)
| 0,_,_=>G
| n+1,v6,v7=>
 if(decide ((9:N)<v6)) then(
 if B9y ([(IntKind.u8.wrap (zB .i64 ((48:N)+(zB .i64 (zA v6 (10:N))))))]:H N).length v7.length then(
  A4v rec_ n (zB .i64 (C v6 (10:N))) ((U C8j ([(IntKind.u8.wrap (zB .i64 ((48:N)+(zB .i64 (zA v6 (10:N))))))]:H N))++v7))
 else G)
 else(
 if B9y ([(IntKind.u8.wrap (zB .i64 ((48:N)+v6)))]:H N).length v7.length then(
  E ((U C8j ([(IntKind.u8.wrap (zB .i64 ((48:N)+v6)))]:H N))++v7))
 else G)
def A61(rec_:N→L (H Q))(a0:N):L (H Q):= if(decide (a0<(0:N))) then(
 if((zB .i64 (C a0 (10:N)))==(0:N)) then(
 if B9y ([45]:H Q).length ([(IntKind.u8.wrap (zB .i64 ((48:N) - a0)))]:H N).length then(
  E (([45]:H Q)++(U C8j ([(IntKind.u8.wrap (zB .i64 ((48:N) - a0)))]:H N))))
 else G)
 else(
 (rec_ (zB .i64 (C a0 (10:N)))).bind fun r4=>
 if B9y r4.length ([(IntKind.u8.wrap (zB .i64 ((48:N) - (zB .i64 (zA a0 (10:N))))))]:H N).length then(
  E (r4++(U C8j ([(IntKind.u8.wrap (zB .i64 ((48:N) - (zB .i64 (zA a0 (10:N))))))]:H N))))
 else G)) else(
 A4v rec_ bigN a0 ([]:H Q))
def A2l:P→N→L (H Q)
| 0,_=>G
| n+1,a0=>A61 (A2l n) a0
def A8a(a0:N):L (H Q):=A2l bigN a0
/- spec_l06Ship -/
def A3c(a0:X1)(a1:N):L (Xb × X1):= (A8a a1).bind fun r1=> if B9y ([115]:H Q).length r1.length then(
 (A4 a0 (200:N)).bind fun r3=>
 (A4 r3.2 (500:N)).bind fun r4=>
 (A4 r4.2 (4:N)).bind fun r5=>
 (A4 r5.2 (3:N)).bind fun r6=>
 (J1 r6.2 (4:N)).bind fun r7=>
 E ((⟨(([115]:H Q)++r1),(zB .i64 ((40:N)+r3.1)),(zB .i64 ((600:N)+r4.1)),r5.1,r6.1,r7.1⟩:Xb),r7.2)) else G
/- spec_l06Fleet -/
def W9:P→N→(H N)→N→N→(H Xb)→L ((H Xb) × X1)
| 0,_,_,_,_,_=>G
| n+1,v2,v3,v4,v5,v6=>
 if(decide ((0:N)<v2)) then(
 (A3c (⟨v3,v4,v5⟩:X1) (v6.length:N)).bind fun r9=>
 if D1 v6.length ([r9.1]:H Xb).length 56 then(
  W9 n (zB .i64 (v2 - (1:N))) r9.2.b r9.2.i r9.2.h (v6++([r9.1]:H Xb)))
 else G)
 else(
 E (v6,(⟨v3,v4,v5⟩:X1)))
def A4z(a0:X1)(a1:N):L ((H Xb) × X1):= (A4 a0 a1).bind fun r1=> W9 bigN (zB .i64 ((1:N)+r1.1)) r1.2.b r1.2.i r1.2.h ([]:H Xb)
/- spec_l09Regime -/
def A38(a0:X1):L (Xl × X1):= (A4 a0 (30:N)).bind fun r1=> (J1 r1.2 (4:N)).bind fun r2=> E ((⟨r1.1,r2.1⟩:Xl),r2.2)
/- spec_StayingMoves -/
def A4b:L (H N):= (mkS (64:N) (64:N) 8).bind fun n1=> E (I n1 (0:N))
/- spec_l13Moves -/
def R8(r1:(H N)):P→N→(H N)→N→N→(H N)→L ((H N) × X1)
| 0,_,_,_,_,_=>G
| n+1,v2,v3,v4,v5,v6=>
 if(decide (v2<(r1.length:N))) then(
 if((zB .i64 (zA v2 (9:N))) !=(0:N)) then(
  (A4 (⟨v3,v4,v5⟩:X1) (5:N)).bind fun r9=>
  (ix v6 v2).bind fun x10=>
  R8 r1 n (zB .i64 (v2+(1:N))) r9.2.b r9.2.i r9.2.h (v6.set (X v2) (zB .i64 ((5:N)*r9.1))))
 else(
  R8 r1 n (zB .i64 (v2+(1:N))) v3 v4 v5 v6))
 else(
 E (v6,(⟨v3,v4,v5⟩:X1)))
def A4r(a0:X1):L ((H N) × X1):= (A4b).bind fun r1=> R8 r1 bigN (0:N) a0.b a0.i a0.h r1
/- spec_l14Crew -/
def A5n(a0:X1):L (Xo × X1):= (A4 a0 (4:N)).bind fun r1=> (A4 r1.2 (3:N)).bind fun r2=> (A4 r2.2 (60:N)).bind fun r3=> (A4r r3.2).bind fun r4=> E ((⟨(zB .i64 ((1:N)+r1.1)),(zB .i64 ((1:N)+r2.1)),r3.1,r4.1⟩:Xo),r4.2)
/- spec_l15Harbour -/
def S7(r3:(H Xb) × X1)(r5:Xo × X1)(r1:Xf × X1)(r2:X5 × X1)(r4:Xl × X1)(y7:N):P→N→(H Xb)→L (X6 × X1)
| 0,_,_=>G
| n+1,v6,v8=>
 if(decide (v6<(r3.1.length:N))) then(
 (ix v8 v6).bind fun x10=>
 S7 r3 r5 r1 r2 r4 y7 n (zB .i64 (v6+(1:N))) (v8.set (X v6) (⟨x10.Name,x10.Length,x10.Draught,x10.Line,(if(1:N)<x10.Tugs then(1:N) else x10.Tugs),x10.Slow⟩:Xb)))
 else(
 E ((⟨(⟨(⟨y7,r1.1.Tide.Parts⟩:Xn),r1.1.Surges⟩:Xf),r2.1,v8,r4.1,r5.1⟩:X6),r5.2))
def A2y(a0:X1):L (X6 × X1):= (A3j a0).bind fun r1=> (A5v r1.2).bind fun r2=> (A4z r2.2 (3:N)).bind fun r3=> (A38 r3.2).bind fun r4=> (A5n r4.2).bind fun r5=> S7 r3 r5 r1 r2 r4 (zB .i64 (r1.1.Tide.Mean+(150:N))) bigN (0:N) r3.1
/- spec_l15Call -/
def A32(r2:O × X1)(a1 v4:N)(v5 v6:N):L (X8 × X1):= (A4 r2.2 (400:N)).bind fun r7=> E ((⟨a1,v4,v5,v6,(zB .i64 ((zB .i64 (v6+(60:N)))+r7.1))⟩:X8),r7.2)
def A3f(a0:X1)(a1:N):L (X8 × X1):= (A4 a0 (30:N)).bind fun r1=> (J1 r1.2 (3:N)).bind fun r2=> if r2.1 then(
 A32 r2 a1 (3:N) (0:N) (zB .i64 ((15:N)*r1.1))) else(
 A32 r2 a1 (0:N) (3:N) (zB .i64 ((15:N)*r1.1)))
/- spec_l16Case -/
def V5(v2:N)(r1:X6 × X1)(v6:H X8)(A37:N→(H N)→N→N→(H X8)→L (X6 × (H X8) × X1))(v10:O)(v11:H N)(v12 v13:N):L (X6 × (H X8) × X1):= if v10 then(
 (A3f (⟨v11,v12,v13⟩:X1) v2).bind fun r15=>
 if D1 v6.length ([r15.1]:H X8).length 40 then(
 A37 (zB .i64 (v2+(1:N))) r15.2.b r15.2.i r15.2.h (v6++([r15.1]:H X8)))
 else G) else(
 A37 (zB .i64 (v2+(1:N))) v11 v12 v13 v6)
def I9(r1:X6 × X1):P→N→(H N)→N→N→(H X8)→L (X6 × (H X8) × X1)
| 0,_,_,_,_,_=>G
| n+1,v2,v3,v4,v5,v6=>
 if(decide (v2<(r1.1.Fleet.length:N))) then(
 if(v2==(0:N)) then(
  V5 v2 r1 v6 (I9 r1 n) T v3 v4 v5)
 else(
  (J1 (⟨v3,v4,v5⟩:X1) (4:N)).bind fun r9=>
  V5 v2 r1 v6 (I9 r1 n) (!r9.1) r9.2.b r9.2.i r9.2.h))
 else(
 E (r1.1,v6,(⟨v3,v4,v5⟩:X1)))
def A7h(a0:X1):L (X6 × (H X8) × X1):= (A2y a0).bind fun r1=> I9 r1 bigN (0:N) r1.2.b r1.2.i r1.2.h ([]:H X8)
/- spec_MakeCalls -/
def A3s(a0:H N):L (X6 × (H X8)):= (A4f a0).bind fun r1=> (A7h r1).bind fun r2=> E (r2.1,r2.2.1)
/- spec_l28New -/
def A08(a1:N):P→N→(H N)→N→N→L X1
| 0,_,_,_,_=>G
| n+1,v2,v3,v4,v5=>
 if(decide (v2<a1)) then(
 (O4 (⟨v3,v4,v5⟩:X1)).bind fun r7=>
 A08 a1 n (zB .i64 (v2+(1:N))) r7.2.b r7.2.i r7.2.h)
 else(
 E (⟨v3,v4,v5⟩:X1))
def Z6(a0:H N)(a1:N):L X1:= (A4f a0).bind fun r1=> A08 a1 bigN (0:N) r1.b r1.i r1.h
/- spec_l22Draw -/
def A0e(a1:X5):P→N→(H N)→N→N→(H Xa)→L ((H Xa) × X1)
| 0,_,_,_,_,_=>G
| n+1,v2,v3,v4,v5,v6=>
 if(decide ((0:N)<v2)) then(
 (A4 (⟨v3,v4,v5⟩:X1) (600:N)).bind fun r9=>
 (A4 r9.2 (if(1:N)<(a1.Segments.length:N) then(a1.Segments.length:N) else(1:N))).bind fun r10=>
 (A4 r10.2 (300:N)).bind fun r11=>
 if D1 v6.length ([(⟨r10.1,r9.1,(zB .i64 ((zB .i64 (r9.1+(20:N)))+r11.1))⟩:Xa)]:H Xa).length 24 then(
  A0e a1 n (zB .i64 (v2 - (1:N))) r11.2.b r11.2.i r11.2.h (v6++([(⟨r10.1,r9.1,(zB .i64 ((zB .i64 (r9.1+(20:N)))+r11.1))⟩:Xa)]:H Xa)))
 else G)
 else(
 E (v6,(⟨v3,v4,v5⟩:X1)))
def A0i(a0:X1)(a1:X5):L ((H Xa) × X1):= (A4 a0 (3:N)).bind fun r1=> A0e a1 bigN r1.1 r1.2.b r1.2.i r1.2.h ([]:H Xa)
/- spec_MakeClosures -/
def A1v(a0:H N)(a1:N)(a2:X5):L (H Xa):= (Z6 a0 a1).bind fun r1=> (A0i r1 a2).bind fun r2=> E r2.1
/- impl_within -/
def E4(a0 a1 a2:N):L O:= if(decide (a1≤a0)) then(
 E (decide (a0≤a2))) else(
 E F)
/- impl_isPeriod -/
def A2o(a0:N):L O:= (E4 a0 (4:N) (2880:N)).bind fun r1=> if r1 then(
 E ((zB .i64 (zA a0 (4:N)))==(0:N))) else(
 E F)
/- impl_PartOk -/
def A6d(a0:Xi):L O:= (E4 a0.Amp (0:N) (1000:N)).bind fun r1=> if r1 then(
 (A2o a0.Period).bind fun r3=>
 if r3 then(
 (E4 a0.Phase (0:N) (zB .i64 (a0.Period - (1:N)))).bind fun r5=>
 E r5)
 else(
 E F)) else(
 E F)
/- impl_TideOk -/
def A01(a0:Xn):P→N→L O
| 0,_=>G
| n+1,v4=>
 if(decide (v4<(a0.Parts.length:N))) then(
 (ix a0.Parts v4).bind fun x6=>
 (A6d x6).bind fun r7=>
 if r7 then(
  A01 a0 n (zB .i64 (v4+(1:N))))
 else(
  E F))
 else(
 E T)
def A6i(a0:Xn):L O:= (E4 a0.Mean (-1000:N) (1000:N)).bind fun r1=> if r1 then(
 if(decide ((4:N)<(a0.Parts.length:N))) then(
 E F)
 else(
 A01 a0 bigN (0:N))) else(
 E F)
/- impl_isMinute -/
def I6(a0:N):L O:= (E4 a0 (0:N) (2880:N)).bind fun r1=> E r1
/- impl_SurgeOk -/
def A5r(a0:Xg):L O:= (I6 a0.From).bind fun r1=> if r1 then(
 if(decide ((-500:N)≤a0.Low)) then(
 if(decide (a0.Low≤a0.High)) then(
  E (decide (a0.High≤(500:N))))
 else(
  E F))
 else(
 E F)) else(
 E F)
/- impl_ForecastOk -/
def O2(a0:Xf):P→N→L O
| 0,_=>G
| n+1,v7=>
 if(decide (v7<(a0.Surges.length:N))) then(
 (ix a0.Surges v7).bind fun x9=>
 (A5r x9).bind fun r10=>
 if r10 then(
  if(decide ((0:N)<v7)) then(
  (ix a0.Surges (zB .i64 (v7 - (1:N)))).bind fun x13=>
  if(decide (x9.From≤x13.From)) then(
   E F)
  else(
   O2 a0 n (zB .i64 (v7+(1:N)))))
  else(
  O2 a0 n (zB .i64 (v7+(1:N)))))
 else(
  E F))
 else(
 E T)
def S4(a0:Xf):L O:= (A6i a0.Tide).bind fun r1=> if r1 then(
 (E4 (a0.Surges.length:N) (1:N) (6:N)).bind fun r3=>
 if r3 then(
 (ix a0.Surges (0:N)).bind fun x5=>
 if(x5.From !=(0:N)) then(
  E F)
 else(
  O2 a0 bigN (0:N)))
 else(
 E F)) else(
 E F)
/- impl_IsName -/
def A4y(a0:H Q)(v3:N)(L9:N→L O):L O:= L9 (zB .i64 (v3+(1:N)))
def A46(a0:H Q)(v3:N)(L9:N→L O)(v7:O):L O:= if v7 then(
 A4y a0 v3 L9) else(
 if(v3==(0:N)) then(
 E F)
 else(
 (ix a0 v3).bind fun b10=>
 if(decide ((b10.toNat:N)<(48:N))) then(
  E F)
 else(
  if(decide ((57:N)<(b10.toNat:N))) then(
  E F)
  else(
  A4y a0 v3 L9))))
def P3(a0:H Q):P→N→L O
| 0,_=>G
| n+1,v3=>
 if(decide (v3<(a0.length:N))) then(
 (ix a0 v3).bind fun b5=>
 if(decide ((97:N)≤(b5.toNat:N))) then(
  A46 a0 v3 (P3 a0 n) (decide ((b5.toNat:N)≤(122:N))))
 else(
  A46 a0 v3 (P3 a0 n) F))
 else(
 E T)
def A4g(a0:H Q):L O:= (E4 (a0.length:N) (1:N) (8:N)).bind fun r1=> if r1 then(
 P3 a0 bigN (0:N)) else(
 E F)
/- impl_PointNamed -/
def T1(a1:H Q)(a0:X5):P→N→L N
| 0,_=>G
| n+1,v1=>
 if(decide (v1<(a0.Points.length:N))) then(
 (ix a0.Points v1).bind fun x3=>
 if(x3.Name==a1) then(
  E v1)
 else(
  T1 a1 a0 n (zB .i64 (v1+(1:N)))))
 else(
 E (-1:N))
def A23(a0:X5)(a1:H Q):L N:= T1 a1 a0 bigN (0:N)
/- impl_isIndex -/
def D2(a0 a1:N):L O:= if(decide ((0:N)≤a0)) then(
 E (decide (a0<a1))) else(
 E F)
/- impl_Segment_joins -/
def A07(a0:X3)(a1 a2:N):L O:= if(a0.A==a1) then(
 if(a0.B==a2) then(
 E T)
 else(
 if(a0.A==a2) then(
  E (a0.B==a1))
 else(
  E F))) else(
 if(a0.A==a2) then(
 E (a0.B==a1))
 else(
 E F))
/- impl_ChartOk -/
def Z8(a0:X5)(v11:N)(x13:X3)(y24:H X3)(y25:N)(A3u:N→L O):P→N→L O
| 0,_=>G
| n+1,v26=>
 if(decide (v26<y25)) then(
 (ix y24 v26).bind fun x28=>
 (A07 x28 x13.A x13.B).bind fun r29=>
 if r29 then(
  E F)
 else(
  Z8 a0 v11 x13 y24 y25 A3u n (zB .i64 (v26+(1:N)))))
 else(
 A3u (zB .i64 (v11+(1:N))))
def M3(a0:X5):P→N→L O
| 0,_=>G
| n+1,v11=>
 if(decide (v11<(a0.Segments.length:N))) then(
 (ix a0.Segments v11).bind fun x13=>
 (D2 x13.A (a0.Points.length:N)).bind fun r14=>
 if r14 then(
  (D2 x13.B (a0.Points.length:N)).bind fun r16=>
  if r16 then(
  if(x13.A==x13.B) then(
   E F)
  else(
   (E4 x13.Depth (0:N) (3000:N)).bind fun r19=>
   if r19 then(
   (E4 x13.Minutes (1:N) (240:N)).bind fun r21=>
   if r21 then(
    (bnd (a0.Segments.length:N) v11 (0:N) a0.Segments.length).bind fun p23=>
    Z8 a0 v11 x13 ((a0.Segments.drop p23.1).take (p23.2 - p23.1)) (((a0.Segments.drop p23.1).take (p23.2 - p23.1)).length:N) (M3 a0 n) bigN (0:N))
   else(
    E F))
   else(
   E F)))
  else(
  E F))
 else(
  E F))
 else(
 E T)
def A0a(a0:X5):P→N→L O
| 0,_=>G
| n+1,v3=>
 if(decide (v3<(a0.Points.length:N))) then(
 (ix a0.Points v3).bind fun x5=>
 (A4g x5.Name).bind fun r6=>
 if r6 then(
  (A23 a0 x5.Name).bind fun r9=>
  if(r9 !=v3) then(
  E F)
  else(
  A0a a0 n (zB .i64 (v3+(1:N)))))
 else(
  E F))
 else(
 M3 a0 bigN (0:N))
def L8(a0:X5):L O:= if(decide ((8:N)<(a0.Points.length:N))) then(
 E F) else(
 if(decide ((10:N)<(a0.Segments.length:N))) then(
 E F)
 else(
 A0a a0 bigN (0:N)))
/- impl_ShipOk -/
def V7(a0:Xb):L O:= (A4g a0.Name).bind fun r1=> if r1 then(
 (E4 a0.Length (10:N) (400:N)).bind fun r3=>
 if r3 then(
 (E4 a0.Draught (100:N) (2000:N)).bind fun r5=>
 if r5 then(
  (D2 a0.Line (4:N)).bind fun r7=>
  if r7 then(
  (E4 a0.Tugs (0:N) (4:N)).bind fun r9=>
  E r9)
  else(
  E F))
 else(
  E F))
 else(
 E F)) else(
 E F)
/- impl_ShipNamed -/
def U9(a1:H Q)(a0:H Xb):P→N→L N
| 0,_=>G
| n+1,v1=>
 if(decide (v1<(a0.length:N))) then(
 (ix a0 v1).bind fun x3=>
 if(x3.Name==a1) then(
  E v1)
 else(
  U9 a1 a0 n (zB .i64 (v1+(1:N)))))
 else(
 E (-1:N))
def A31(a0:H Xb)(a1:H Q):L N:= U9 a1 a0 bigN (0:N)
/- impl_FleetOk -/
def A0c(a0:H Xb):P→N→L O
| 0,_=>G
| n+1,v2=>
 if(decide (v2<(a0.length:N))) then(
 (ix a0 v2).bind fun x4=>
 (V7 x4).bind fun r5=>
 if r5 then(
  (A31 a0 x4.Name).bind fun r7=>
  if(r7 !=v2) then(
  E F)
  else(
  A0c a0 n (zB .i64 (v2+(1:N)))))
 else(
  E F))
 else(
 E T)
def A3i(a0:H Xb):L O:= if(decide ((6:N)<(a0.length:N))) then(
 E F) else(
 A0c a0 bigN (0:N))
/- impl_RegimeOk -/
def A6v(a0:Xl):L O:= (E4 a0.Gap (0:N) (60:N)).bind fun r1=> E r1
/- impl_movesOk -/
def U6(a0:H N):P→N→L O
| 0,_=>G
| n+1,v2=>
 if(decide (v2<(a0.length:N))) then(
 (ix a0 v2).bind fun x4=>
 (E4 x4 (0:N) (240:N)).bind fun r5=>
 if r5 then(
  U6 a0 n (zB .i64 (v2+(1:N))))
 else(
  E F))
 else(
 E T)
def A0o(a0:H N):L O:= if((a0.length:N) !=(64:N)) then(
 E F) else(
 U6 a0 bigN (0:N))
/- impl_CrewOk -/
def A6f(a0:Xo):L O:= (E4 a0.Tugs (0:N) (12:N)).bind fun r1=> if r1 then(
 (E4 a0.Pilots (0:N) (12:N)).bind fun r3=>
 if r3 then(
 (I6 a0.Rest).bind fun r5=>
 if r5 then(
  (A0o a0.Moves).bind fun r7=>
  E r7)
 else(
  E F))
 else(
 E F)) else(
 E F)
/- impl_HarbourOk -/
def A18(a0:X6):L O:= (S4 a0.Forecast).bind fun r1=> if r1 then(
 (L8 a0.Chart).bind fun r3=>
 if r3 then(
 (A3i a0.Fleet).bind fun r5=>
 if r5 then(
  (A6v a0.Regime).bind fun r7=>
  if r7 then(
  (A6f a0.Crew).bind fun r9=>
  E r9)
  else(
  E F))
 else(
  E F))
 else(
 E F)) else(
 E F)
/- impl_callOk -/
def A4h(a0:X6)(a1:X8):L O:= (D2 a1.Ship (a0.Fleet.length:N)).bind fun r1=> if r1 then(
 (D2 a1.From (a0.Chart.Points.length:N)).bind fun r3=>
 if r3 then(
 (D2 a1.To (a0.Chart.Points.length:N)).bind fun r5=>
 if r5 then(
  if(a1.From !=a1.To) then(
  (I6 a1.Ready).bind fun r9=>
  if r9 then(
   (E4 a1.Due a1.Ready (2880:N)).bind fun r11=>
   E r11)
  else(
   E F))
  else(
  E F))
 else(
  E F))
 else(
 E F)) else(
 E F)
/- impl_CallsOk -/
def A0b(a1:H X8)(v4:N)(a0:X6)(x6:X8)(y10:H X8)(y11:N)(A33:N→L O):P→N→L O
| 0,_=>G
| n+1,v12=>
 if(decide (v12<y11)) then(
 (ix y10 v12).bind fun x14=>
 if(x14.Ship==x6.Ship) then(
  E F)
 else(
  A0b a1 v4 a0 x6 y10 y11 A33 n (zB .i64 (v12+(1:N)))))
 else(
 A33 (zB .i64 (v4+(1:N))))
def Q1(a1:H X8)(a0:X6):P→N→L O
| 0,_=>G
| n+1,v4=>
 if(decide (v4<(a1.length:N))) then(
 (ix a1 v4).bind fun x6=>
 (A4h a0 x6).bind fun r7=>
 if r7 then(
  (bnd (a1.length:N) v4 (0:N) a1.length).bind fun p9=>
  A0b a1 v4 a0 x6 ((a1.drop p9.1).take (p9.2 - p9.1)) (((a1.drop p9.1).take (p9.2 - p9.1)).length:N) (Q1 a1 a0 n) bigN (0:N))
 else(
  E F))
 else(
 E T)
def V8(a0:X6)(a1:H X8):L O:= (A18 a0).bind fun r1=> if r1 then(
 if(decide ((6:N)<(a1.length:N))) then(
 E F)
 else(
 Q1 a1 a0 bigN (0:N))) else(
 E F)
/- impl_ClosuresOk -/
def S8(a1:H Xa)(a0:X5):P→N→L O
| 0,_=>G
| n+1,v4=>
 if(decide (v4<(a1.length:N))) then(
 (ix a1 v4).bind fun x6=>
 (D2 x6.Segment (a0.Segments.length:N)).bind fun r7=>
 if r7 then(
  if(decide (x6.From<(0:N))) then(
  E F)
  else(
  if(decide (x6.To≤x6.From)) then(
   E F)
  else(
   if(decide ((2880:N)<x6.To)) then(
   E F)
   else(
   S8 a1 a0 n (zB .i64 (v4+(1:N)))))))
 else(
  E F))
 else(
 E T)
def R9(a0:X5)(a1:H Xa):L O:= (L8 a0).bind fun r1=> if r1 then(
 if(decide ((4:N)<(a1.length:N))) then(
 E F)
 else(
 S8 a1 a0 bigN (0:N))) else(
 E F)
/- impl_CallOk -/
def A2u(a0:X6)(a1:X8):L O:= (A18 a0).bind fun r1=> if r1 then(
 (A4h a0 a1).bind fun r3=>
 E r3) else(
 E F)
/- impl_clone_int -/
def D6(a0:H N):L (H N):= (mkS (0:N) (a0.length:N) 8).bind fun n1=> if D1 (I n1 (0:N)).length a0.length 8 then(
 E ((I n1 (0:N))++a0)) else G
/- impl_Segment_end -/
def A0n(a0:X3)(a1:N):L N:= if(a1==a0.A) then(
 E a0.B) else(
 if(a1==a0.B) then(
 E a0.A)
 else(
 E (-1:N)))
/- impl_Chart_routesFrom -/
def L1(rec_:X5→N→N→(H N)→X7→(H (H N))→L (H (H N)))(a1 a2:N)(a3:H N)(v6 r11:N)(a0:X5)(y7:X7)(v8:H (H N))(T7:N→(H (H N))→L (H (H N)))(v16:O):L (H (H N)):= if v16 then(
 (D6 a3).bind fun r18=>
 if D1 r18.length ([v6]:H N).length 8 then(
 (rec_ a0 r11 a2 (r18++([v6]:H N)) y7 v8).bind fun r20=>
 T7 (zB .i64 (v6+(1:N))) r20)
 else G) else(
 T7 (zB .i64 (v6+(1:N))) v8)
def E7(rec_:X5→N→N→(H N)→X7→(H (H N))→L (H (H N)))(a1 a2:N)(a3:H N)(a0:X5)(y7:X7):P→N→(H (H N))→L (H (H N))
| 0,_,_=>G
| n+1,v6,v8=>
 if(decide (v6<(a0.Segments.length:N))) then(
 (ix a0.Segments v6).bind fun x10=>
 (A0n x10 a1).bind fun r11=>
 if(decide ((0:N)≤r11)) then(
  if decide ((0:N)≤r11)&&decide (r11<(8:N)) then(
  (ix ([y7.i0,y7.i1,y7.i2,y7.i3,y7.i4,y7.i5,y7.i6,y7.i7]:H O) r11).bind fun x14=>
  L1 rec_ a1 a2 a3 v6 r11 a0 y7 v8 (E7 rec_ a1 a2 a3 a0 y7 n) (!x14))
  else G)
 else(
  L1 rec_ a1 a2 a3 v6 r11 a0 y7 v8 (E7 rec_ a1 a2 a3 a0 y7 n) F))
 else(
 E v8)
def A0r(rec_:X5→N→N→(H N)→X7→(H (H N))→L (H (H N)))(a0:X5)(a1 a2:N)(a3:H N)(a4:X7)(a5:H (H N)):L (H (H N)):= if(a1==a2) then(
 (D6 a3).bind fun r2=>
 if D1 a5.length ([r2]:H (H N)).length 24 then(
 E (a5++([r2]:H (H N))))
 else G) else(
 if decide ((0:N)≤a1)&&decide (a1<(8:N)) then(
 E7 rec_ a1 a2 a3 a0 (⟨((X7.set a4 (X a1) T)).i0,((X7.set a4 (X a1) T)).i1,((X7.set a4 (X a1) T)).i2,((X7.set a4 (X a1) T)).i3,((X7.set a4 (X a1) T)).i4,((X7.set a4 (X a1) T)).i5,((X7.set a4 (X a1) T)).i6,((X7.set a4 (X a1) T)).i7⟩:X7) bigN (0:N) a5)
 else G)
def G9:P→X5→N→N→(H N)→X7→(H (H N))→L (H (H N))
| 0,_,_,_,_,_,_=>G
| n+1,a0,a1,a2,a3,a4,a5=>A0r (G9 n) a0 a1 a2 a3 a4 a5
def A4e(a0:X5)(a1 a2:N)(a3:H N)(a4:X7)(a5:H (H N)):L (H (H N)):=G9 bigN a0 a1 a2 a3 a4 a5
/- impl_RoutesBetween -/
def A00(a0:X5)(a1 a2:N):L (H (H N)):= (L8 a0).bind fun r1=> if r1 then(
 (D2 a1 (a0.Points.length:N)).bind fun r3=>
 if r3 then(
 (D2 a2 (a0.Points.length:N)).bind fun r5=>
 if r5 then(
  (A4e a0 a1 a2 ([]:H N) (⟨F,F,F,F,F,F,F,F⟩:X7) ([]:H (H N))).bind fun r7=>
  E r7)
 else(
  E ([]:H (H N))))
 else(
 E ([]:H (H N)))) else(
 E ([]:H (H N)))
/- impl_RouteMinutes -/
def I1(a1:H N)(a0:X5):P→N→N→L N
| 0,_,_=>G
| n+1,v3,v4=>
 if(decide (v4<(a1.length:N))) then(
 (ix a1 v4).bind fun x6=>
 (D2 x6 (a0.Segments.length:N)).bind fun r7=>
 if r7 then(
  (ix a0.Segments x6).bind fun x9=>
  I1 a1 a0 n (zB .i64 (v3+x9.Minutes)) (zB .i64 (v4+(1:N))))
 else(
  E (-1:N)))
 else(
 E v3)
def M7(a0:X5)(a1:H N):L N:= (L8 a0).bind fun r1=> if r1 then(
 I1 a1 a0 bigN (0:N) (0:N)) else(
 E (-1:N))
/- impl_BestRoute -/
def P6(r1:(H (H N)))(a0:X5):P→(H N)→N→L ((H N) × O)
| 0,_,_=>G
| n+1,v4,v5=>
 if(decide (v5<(r1.length:N))) then(
 (ix r1 v5).bind fun x7=>
 (M7 a0 x7).bind fun r9=>
 (M7 a0 v4).bind fun r10=>
 if(decide (r9<r10)) then(
  P6 r1 a0 n x7 (zB .i64 (v5+(1:N))))
 else(
  P6 r1 a0 n v4 (zB .i64 (v5+(1:N)))))
 else(
 E (v4,T))
def A3n(a0:X5)(a1 a2:N):L ((H N) × O):= (A00 a0 a1 a2).bind fun r1=> if((r1.length:N)==(0:N)) then(
 E (([]:H N),F)) else(
 (ix r1 (0:N)).bind fun x3=>
 P6 r1 a0 bigN x3 (0:N))
/- impl_Chart_points -/
def O7(r14:N)(a2:H N)(v6:N)(a0:X5)(v7:X7)(v8:H N)(A2t:N→N→X7→(H N)→L ((H N) × O))(v19:O):L ((H N) × O):= if v19 then(
 E (([]:H N),F)) else(
 if decide ((0:N)≤r14)&&decide (r14<(8:N)) then(
 if D1 v8.length ([r14]:H N).length 8 then(
  A2t r14 (zB .i64 (v6+(1:N))) (⟨((X7.set v7 (X r14) T)).i0,((X7.set v7 (X r14) T)).i1,((X7.set v7 (X r14) T)).i2,((X7.set v7 (X r14) T)).i3,((X7.set v7 (X r14) T)).i4,((X7.set v7 (X r14) T)).i5,((X7.set v7 (X r14) T)).i6,((X7.set v7 (X r14) T)).i7⟩:X7) (v8++([r14]:H N)))
 else G)
 else G)
def I2(a2:H N)(a0:X5):P→N→N→X7→(H N)→L ((H N) × O)
| 0,_,_,_,_=>G
| n+1,v5,v6,v7,v8=>
 if(decide (v6<(a2.length:N))) then(
 (ix a2 v6).bind fun x10=>
 (D2 x10 (a0.Segments.length:N)).bind fun r11=>
 if r11 then(
  (ix a0.Segments x10).bind fun x13=>
  (A0n x13 v5).bind fun r14=>
  if(decide (r14<(0:N))) then(
  O7 r14 a2 v6 a0 v7 v8 (I2 a2 a0 n) T)
  else(
  if decide ((0:N)≤r14)&&decide (r14<(8:N)) then(
   (ix ([v7.i0,v7.i1,v7.i2,v7.i3,v7.i4,v7.i5,v7.i6,v7.i7]:H O) r14).bind fun x17=>
   O7 r14 a2 v6 a0 v7 v8 (I2 a2 a0 n) x17)
  else G))
 else(
  E (([]:H N),F)))
 else(
 E (v8,T))
def S9(a0:X5)(a1:N)(a2:H N):L ((H N) × O):= (D2 a1 (a0.Points.length:N)).bind fun r1=> if r1 then(
 if decide ((0:N)≤a1)&&decide (a1<(8:N)) then(
 I2 a2 a0 bigN a1 (0:N) (⟨((X7.set (⟨F,F,F,F,F,F,F,F⟩:X7) (X a1) T)).i0,((X7.set (⟨F,F,F,F,F,F,F,F⟩:X7) (X a1) T)).i1,((X7.set (⟨F,F,F,F,F,F,F,F⟩:X7) (X a1) T)).i2,((X7.set (⟨F,F,F,F,F,F,F,F⟩:X7) (X a1) T)).i3,((X7.set (⟨F,F,F,F,F,F,F,F⟩:X7) (X a1) T)).i4,((X7.set (⟨F,F,F,F,F,F,F,F⟩:X7) (X a1) T)).i5,((X7.set (⟨F,F,F,F,F,F,F,F⟩:X7) (X a1) T)).i6,((X7.set (⟨F,F,F,F,F,F,F,F⟩:X7) (X a1) T)).i7⟩:X7) ([a1]:H N))
 else G) else(
 E (([]:H N),F))
/- impl_RoutePoints -/
def N5(a0:X5)(a1:N)(a2:H N):L (H N):= (L8 a0).bind fun r1=> if r1 then(
 (S9 a0 a1 a2).bind fun r3=>
 E r3.1) else(
 E ([]:H N))
/- impl_RouteOk -/
def A14(a0:X5)(a1:N)(a2:H N):L O:= (L8 a0).bind fun r1=> if r1 then(
 (S9 a0 a1 a2).bind fun r3=>
 E r3.2) else(
 E F)
/- impl_Ship_minutes -/
def M6(a0:Xb)(a1:X3):L N:= if a0.Slow then(
 E (zB .i64 ((2:N)*a1.Minutes))) else(
 E a1.Minutes)
/- impl_onSegment -/
def A13(a0:X5)(a1:N)(a2:Xb):L O:= (L8 a0).bind fun r1=> if r1 then(
 (V7 a2).bind fun r3=>
 if r3 then(
 (D2 a1 (a0.Segments.length:N)).bind fun r5=>
 E r5)
 else(
 E F)) else(
 E F)
/- impl_Ship_squat -/
def A5b(a0:Xb):L N:= if a0.Slow then(
 E (zB .i64 (C a0.Draught (50:N)))) else(
 E (zB .i64 (C a0.Draught (20:N))))
/- impl_Ship_need -/
def A58(a0:Xb):L N:= (A5b a0).bind fun r1=> E (zB .i64 ((zB .i64 (a0.Draught+r1))+(50:N)))
/- impl_LevelFor -/
def A4p(a0:X5)(a1:N)(a2:Xb):L N:= (A13 a0 a1 a2).bind fun r1=> if r1 then(
 (A58 a2).bind fun r3=>
 (ix a0.Segments a1).bind fun x4=>
 E (zB .i64 (r3 - x4.Depth))) else(
 E (0:N))
/- impl_windowsOf -/
def U8(a0:N→L O)(v2:N)(L4:O→N→(H X9)→L (H X9))(v11:O)(v12:H X9):L (H X9):= L4 v11 (zB .i64 (v2+(1:N))) v12
def A0h(a0:N→L O)(v2:N)(L4:O→N→(H X9)→L (H X9))(v9:H X9):L (H X9):= (ix v9 (zB .i64 ((v9.length:N) - (1:N)))).bind fun x10=> U8 a0 v2 L4 T (v9.set (X (zB .i64 ((v9.length:N) - (1:N)))) (⟨x10.From,v2⟩:X9))
def H8(a0:N→L O):P→O→N→(H X9)→L (H X9)
| 0,_,_,_=>G
| n+1,v1,v2,v3=>
 if(decide (v2≤(2880:N))) then(
 (a0 v2).bind fun r5=>
 if r5 then(
  if v1 then(
  A0h a0 v2 (H8 a0 n) v3)
  else(
  if D1 v3.length ([(⟨v2,(0:N)⟩:X9)]:H X9).length 16 then(
   A0h a0 v2 (H8 a0 n) (v3++([(⟨v2,(0:N)⟩:X9)]:H X9)))
  else G))
 else(
  U8 a0 v2 (H8 a0 n) F v3))
 else(
 E v3)
def A53(a0:N→L O):L (H X9):= H8 a0 bigN F (0:N) ([]:H X9)
/- impl_Wave -/
def A7q(a0 a1:N):L N:= (A2o a1).bind fun r1=> if r1 then(
 if a1==0 then G else
 if a1==0 then G else
 if(decide ((zB .i64 (C a1 (2:N)))≤(zB .i64 (zA (zB .i64 ((zB .i64 (zA a0 a1))+a1)) a1)))) then(
 if(zB .i64 ((zB .i64 (C a1 (2:N)))*(zB .i64 (C a1 (2:N)))))==0 then G else
 E (zB .i64 (0 - (zB .i64 (C (zB .i64 ((zB .i64 ((40000:N)*(zB .i64 ((zB .i64 (zA (zB .i64 ((zB .i64 (zA a0 a1))+a1)) a1)) - (zB .i64 (C a1 (2:N)))))))*(zB .i64 ((zB .i64 (C a1 (2:N))) - (zB .i64 ((zB .i64 (zA (zB .i64 ((zB .i64 (zA a0 a1))+a1)) a1)) - (zB .i64 (C a1 (2:N))))))))) (zB .i64 ((zB .i64 (C a1 (2:N)))*(zB .i64 (C a1 (2:N))))))))))
 else(
 if(zB .i64 ((zB .i64 (C a1 (2:N)))*(zB .i64 (C a1 (2:N)))))==0 then G else
 E (zB .i64 (C (zB .i64 ((zB .i64 ((40000:N)*(zB .i64 (zA (zB .i64 ((zB .i64 (zA a0 a1))+a1)) a1))))*(zB .i64 ((zB .i64 (C a1 (2:N))) - (zB .i64 (zA (zB .i64 ((zB .i64 (zA a0 a1))+a1)) a1)))))) (zB .i64 ((zB .i64 (C a1 (2:N)))*(zB .i64 (C a1 (2:N))))))))) else(
 E (0:N))
/- impl_Tide_level -/
def S5(a1:N)(a0:Xn):P→N→N→L N
| 0,_,_=>G
| n+1,v1,v2=>
 if(decide (v2<(a0.Parts.length:N))) then(
 (ix a0.Parts v2).bind fun x4=>
 (A7q (zB .i64 (a1+x4.Phase)) x4.Period).bind fun r5=>
 S5 a1 a0 n (zB .i64 (v1+(zB .i64 (C (zB .i64 (x4.Amp*r5)) (10000:N))))) (zB .i64 (v2+(1:N))))
 else(
 E v1)
def A5f(a0:Xn)(a1:N):L N:= S5 a1 a0 bigN a0.Mean (0:N)
/- impl_Forecast_surge -/
def I5(a1:N)(a0:Xf):P→N→N→L N
| 0,_,_=>G
| n+1,v1,v2=>
 if(decide (v2<(a0.Surges.length:N))) then(
 (ix a0.Surges v2).bind fun x4=>
 if(decide (x4.From≤a1)) then(
  I5 a1 a0 n v2 (zB .i64 (v2+(1:N))))
 else(
  I5 a1 a0 n v1 (zB .i64 (v2+(1:N)))))
 else(
 E v1)
def A2s(a0:Xf)(a1:N):L N:= I5 a1 a0 bigN (0:N) (0:N)
/- impl_Forecast_low -/
def O0(a0:Xf)(a1:N):L N:= (A5f a0.Tide a1).bind fun r1=> (A2s a0 a1).bind fun r2=> (ix a0.Surges r2).bind fun x3=> E (zB .i64 (r1+x3.Low))
/- impl_LowWindows_1 -/
def A1x(a0:N)(c0:Xf)(c1:N):L O:= (O0 c0 a0).bind fun r1=> E (decide (c1≤r1))
/- impl_LowWindows -/
def A5h(a0:Xf)(a1:N):L (H X9):= (S4 a0).bind fun r1=> if r1 then(
 (A53 (fun z0=>A1x z0 a0 a1)).bind fun r3=>
 E r3) else(
 E ([]:H X9))
/- impl_MinutesOn -/
def A59(a0:X5)(a1:N)(a2:Xb):L N:= (L8 a0).bind fun r1=> if r1 then(
 (V7 a2).bind fun r3=>
 if r3 then(
 (D2 a1 (a0.Segments.length:N)).bind fun r5=>
 if r5 then(
  (ix a0.Segments a1).bind fun x7=>
  (M6 a2 x7).bind fun r9=>
  E r9)
 else(
  E (0:N)))
 else(
 E (0:N))) else(
 E (0:N))
/- impl_WindowsOk -/
def P4(a0:H X9):P→N→L O
| 0,_=>G
| n+1,v1=>
 if(decide (v1<(a0.length:N))) then(
 (ix a0 v1).bind fun x3=>
 if(decide (x3.From<(0:N))) then(
  E F)
 else(
  if(decide (x3.To<x3.From)) then(
  E F)
  else(
  if(decide ((2880:N)<x3.To)) then(
   E F)
  else(
   if(decide ((0:N)<v1)) then(
   (ix a0 (zB .i64 (v1 - (1:N)))).bind fun x8=>
   if(decide (x3.From≤(zB .i64 (x8.To+(1:N))))) then(
    E F)
   else(
    P4 a0 n (zB .i64 (v1+(1:N)))))
   else(
   P4 a0 n (zB .i64 (v1+(1:N))))))))
 else(
 E T)
def A3w(a0:H X9):L O:= P4 a0 bigN (0:N)
/- impl_ShrinkWindows -/
def L3(a1:N)(a0:H X9):P→N→(H X9)→L (H X9)
| 0,_,_=>G
| n+1,v5,v6=>
 if(decide (v5<(a0.length:N))) then(
 (ix a0 v5).bind fun x8=>
 if(decide (a1≤(zB .i64 (x8.To - x8.From)))) then(
  if D1 v6.length ([(⟨x8.From,(zB .i64 (x8.To - a1))⟩:X9)]:H X9).length 16 then(
  L3 a1 a0 n (zB .i64 (v5+(1:N))) (v6++([(⟨x8.From,(zB .i64 (x8.To - a1))⟩:X9)]:H X9)))
  else G)
 else(
  L3 a1 a0 n (zB .i64 (v5+(1:N))) v6))
 else(
 E v6)
def A0z(a0:H X9)(a1:N):L (H X9):= (A3w a0).bind fun r1=> if r1 then(
 (I6 a1).bind fun r3=>
 if r3 then(
 L3 a1 a0 bigN (0:N) ([]:H X9))
 else(
 E ([]:H X9))) else(
 E ([]:H X9))
/- impl_SureStarts -/
def A24(a0:Xf)(a1:X5)(a2:N)(a3:Xb):L (H X9):= (S4 a0).bind fun r1=> if r1 then(
 (A13 a1 a2 a3).bind fun r3=>
 if r3 then(
 (A4p a1 a2 a3).bind fun r5=>
 (A5h a0 r5).bind fun r6=>
 (A59 a1 a2 a3).bind fun r7=>
 (A0z r6 r7).bind fun r9=>
 E r9)
 else(
 E ([]:H X9))) else(
 E ([]:H X9))
/- impl_voyageOf -/
def W5(a4:H N)(a0:Xf)(a1:X5)(a2:Xb)(y11:H N)(y12:N):P→N→(H O)→(H N)→(H (H X9))→L (Xk × O)
| 0,_,_,_,_=>G
| n+1,v13,v14,v15,v16=>
 if(decide (v13<y12)) then(
 (ix y11 v13).bind fun x18=>
 (ix a1.Points x18).bind fun x19=>
 if D1 v14.length ([x19.Wait]:H O).length 1 then(
  (ix a4 v13).bind fun x21=>
  (ix a1.Segments x21).bind fun x22=>
  (M6 a2 x22).bind fun r23=>
  if D1 v15.length ([r23]:H N).length 8 then(
  (A24 a0 a1 x21 a2).bind fun r25=>
  if D1 v16.length ([r25]:H (H X9)).length 24 then(
   W5 a4 a0 a1 a2 y11 y12 n (zB .i64 (v13+(1:N))) (v14++([x19.Wait]:H O)) (v15++([r23]:H N)) (v16++([r25]:H (H X9))))
  else G)
  else G)
 else G)
 else(
 E ((⟨v14,v15,v16⟩:Xk),T))
def W8(a3:N)(a4:H N)(a0:Xf)(a1:X5)(a2:Xb)(v7:O):L (Xk × O):= if v7 then(
 E ((⟨([]:H O),([]:H N),([]:H (H X9))⟩:Xk),F)) else(
 (N5 a1 a3 a4).bind fun r9=>
 (bnd (r9.length:N) (a4.length:N) (0:N) r9.length).bind fun p10=>
 W5 a4 a0 a1 a2 ((r9.drop p10.1).take (p10.2 - p10.1)) (((r9.drop p10.1).take (p10.2 - p10.1)).length:N) bigN (0:N) ([]:H O) ([]:H N) ([]:H (H X9)))
def A41(a0:Xf)(a1:X5)(a2:Xb)(a3:N)(a4:H N):L (Xk × O):= (S4 a0).bind fun r1=> if r1 then(
 (V7 a2).bind fun r3=>
 if r3 then(
 (A14 a1 a3 a4).bind fun r5=>
 if r5 then(
  W8 a3 a4 a0 a1 a2 ((a4.length:N)==(0:N)))
 else(
  W8 a3 a4 a0 a1 a2 T))
 else(
 W8 a3 a4 a0 a1 a2 T)) else(
 W8 a3 a4 a0 a1 a2 T)
/- impl_callVoyage -/
def Y8(a2:H N)(a0:X6)(a1:X8)(v4:O):L (Xk × O):= if v4 then(
 E ((⟨([]:H O),([]:H N),([]:H (H X9))⟩:Xk),F)) else(
 (ix a0.Fleet a1.Ship).bind fun x6=>
 (A41 a0.Forecast a0.Chart x6 a1.From a2).bind fun r7=>
 E (r7.1,r7.2))
def S0(a0:X6)(a1:X8)(a2:H N):L (Xk × O):= (N5 a0.Chart a1.From a2).bind fun r1=> if((r1.length:N)==(0:N)) then(
 Y8 a2 a0 a1 T) else(
 (ix r1 (zB .i64 ((r1.length:N) - (1:N)))).bind fun x3=>
 Y8 a2 a0 a1 (x3 !=a1.To))
/- impl_HasMinute -/
def U7(a1:N)(a0:H X9):P→N→L O
| 0,_=>G
| n+1,v1=>
 if(decide (v1<(a0.length:N))) then(
 (ix a0 v1).bind fun x3=>
 (E4 a1 x3.From x3.To).bind fun r4=>
 if r4 then(
  E T)
 else(
  U7 a1 a0 n (zB .i64 (v1+(1:N)))))
 else(
 E F)
def A54(a0:H X9)(a1:N):L O:= U7 a1 a0 bigN (0:N)
/- impl_NextMinute -/
def T2(a1:N)(a0:H X9):P→N→L N
| 0,_=>G
| n+1,v3=>
 if(decide (v3<(a0.length:N))) then(
 (ix a0 v3).bind fun x5=>
 if(decide (a1≤x5.To)) then(
  E (if x5.From<a1 then a1 else x5.From))
 else(
  T2 a1 a0 n (zB .i64 (v3+(1:N)))))
 else(
 E (-1:N))
def A21(a0:H X9)(a1:N):L N:= (A3w a0).bind fun r1=> if r1 then(
 T2 a1 a0 bigN (0:N)) else(
 E (-1:N))
/- impl_voyage_sail -/
def K9(v4 r10:N)(a0:Xk)(v5:H N)(A29:N→(H N)→L ((H N) × O))(v14:O):L ((H N) × O):= if v14 then(
 E (([]:H N),F)) else(
 if D1 v5.length ([r10]:H N).length 8 then(
 A29 (zB .i64 (v4+(1:N))) (v5++([r10]:H N)))
 else G)
def F5(a0:Xk):P→N→(H N)→L ((H N) × O)
| 0,_,_=>G
| n+1,v4,v5=>
 if(decide (v4<(a0.sure.length:N))) then(
 (ix v5 (zB .i64 (v4 - (1:N)))).bind fun x7=>
 (ix a0.minutes (zB .i64 (v4 - (1:N)))).bind fun x8=>
 (ix a0.sure v4).bind fun x9=>
 (A21 x9 (zB .i64 (x7+x8))).bind fun r10=>
 if(decide (r10<(0:N))) then(
  K9 v4 r10 a0 v5 (F5 a0 n) T)
 else(
  if(decide ((zB .i64 (x7+x8))<r10)) then(
  (ix a0.waits v4).bind fun x13=>
  K9 v4 r10 a0 v5 (F5 a0 n) (!x13))
  else(
  K9 v4 r10 a0 v5 (F5 a0 n) F)))
 else(
 E (v5,T))
def A2c(a0:Xk)(a1:N):L ((H N) × O):= (ix a0.sure (0:N)).bind fun x1=> (A54 x1 a1).bind fun r2=> if r2 then(
 F5 a0 bigN (1:N) ([a1]:H N)) else(
 E (([]:H N),F))
/- impl_PassagesOf -/
def T0(a1:N)(a5 a4:H N)(a0:X5)(a2:Xb)(r6:(H N)):P→N→(H X4)→L (H X4)
| 0,_,_=>G
| n+1,v7,v8=>
 if(decide (v7<(a4.length:N))) then(
 (ix a4 v7).bind fun x10=>
 (ix a5 v7).bind fun x11=>
 (I6 x11).bind fun r12=>
 if r12 then(
  (ix a0.Segments x10).bind fun x14=>
  (ix r6 v7).bind fun x15=>
  (M6 a2 x14).bind fun r16=>
  if D1 v8.length ([(⟨a1,x10,(x15==x14.A),x11,(zB .i64 (x11+r16))⟩:X4)]:H X4).length 40 then(
  T0 a1 a5 a4 a0 a2 r6 n (zB .i64 (v7+(1:N))) (v8++([(⟨a1,x10,(x15==x14.A),x11,(zB .i64 (x11+r16))⟩:X4)]:H X4)))
  else G)
 else(
  E ([]:H X4)))
 else(
 E v8)
def A2z(a0:X5)(a1:N)(a2:Xb)(a3:N)(a4 a5:H N):L (H X4):= (A14 a0 a3 a4).bind fun r1=> if r1 then(
 (V7 a2).bind fun r3=>
 if r3 then(
 if((a4.length:N) !=(a5.length:N)) then(
  E ([]:H X4))
 else(
  (N5 a0 a3 a4).bind fun r6=>
  T0 a1 a5 a4 a0 a2 r6 bigN (0:N) ([]:H X4)))
 else(
 E ([]:H X4))) else(
 E ([]:H X4))
/- impl_ArrivalOf -/
def A3x(a0:X5)(a1:Xb)(a2 a3:H N):L N:= (M7 a0 a2).bind fun r1=> if(decide (r1<(0:N))) then(
 E (-1:N)) else(
 (V7 a1).bind fun r3=>
 if r3 then(
 if((a2.length:N)==(0:N)) then(
  E (-1:N))
 else(
  if((a2.length:N) !=(a3.length:N)) then(
  E (-1:N))
  else(
  (ix a3 (zB .i64 ((a2.length:N) - (1:N)))).bind fun x7=>
  (I6 x7).bind fun r9=>
  if r9 then(
   (ix a2 (zB .i64 ((a2.length:N) - (1:N)))).bind fun x11=>
   (ix a0.Segments x11).bind fun x12=>
   (M6 a1 x12).bind fun r13=>
   E (zB .i64 (x7+r13)))
  else(
   E (-1:N)))))
 else(
 E (-1:N)))
/- impl_option -/
def A04(a2:Xk)(a4 r5:N)(r4:(H X4)):P→N→N→L (X0 × O)
| 0,_,_=>G
| n+1,v6,v7=>
 if(decide (v6<(a2.minutes.length:N))) then(
 (ix a2.minutes v6).bind fun x9=>
 A04 a2 a4 r5 r4 n (zB .i64 (v6+(1:N))) (zB .i64 (v7 - x9)))
 else(
 E ((⟨a4,r5,v7,r4⟩:X0),(decide (r5≤(2880:N)))))
def Z7(a0:X6)(a1:X8)(a2:Xk)(a3:H N)(a4:N):L (X0 × O):= (A2c a2 a4).bind fun r1=> if r1.2 then(
 (ix a0.Fleet a1.Ship).bind fun x3=>
 (A2z a0.Chart a1.Ship x3 a1.From a3 r1.1).bind fun r4=>
 (A3x a0.Chart x3 a3 r1.1).bind fun r5=>
 A04 a2 a4 r5 r4 bigN (0:N) (zB .i64 (r5 - a1.Ready))) else(
 E ((⟨(0:N),(0:N),(0:N),([]:H X4)⟩:X0),F))
/- impl_OptionsOf -/
def A0k(r3:(H N) × O)(v7:N)(a0:X6)(a1:X8)(r4:Xk × O)(A4m:N→(H X0)→L (H X0))(v14:H X0):L (H X0):= A4m (zB .i64 (v7+(15:N))) v14
def L6(r3:(H N) × O)(a0:X6)(a1:X8)(r4:Xk × O):P→N→(H X0)→L (H X0)
| 0,_,_=>G
| n+1,v7,v8=>
 if(decide (v7≤a1.Due)) then(
 if(decide ((v8.length:N)<(8:N))) then(
  (Z7 a0 a1 r4.1 r3.1 v7).bind fun r11=>
  if r11.2 then(
  if D1 v8.length ([r11.1]:H X0).length 48 then(
   A0k r3 v7 a0 a1 r4 (L6 r3 a0 a1 r4 n) (v8++([r11.1]:H X0)))
  else G)
  else(
  A0k r3 v7 a0 a1 r4 (L6 r3 a0 a1 r4 n) v8))
 else(
  E v8))
 else(
 E v8)
def K0(a0:X6)(a1:X8):L (H X0):= (A2u a0 a1).bind fun r1=> if r1 then(
 (A3n a0.Chart a1.From a1.To).bind fun r3=>
 (S0 a0 a1 r3.1).bind fun r4=>
 if r3.2 then(
 if r4.2 then(
  L6 r3 a0 a1 r4 bigN a1.Ready ([]:H X0))
 else(
  E ([]:H X0)))
 else(
 E ([]:H X0))) else(
 E ([]:H X0))
/- slices_IndexFunc_Option -/
def J4(a1:X0→L O)(a0:H X0):P→N→L N
| 0,_=>G
| n+1,v1=>
 if(decide (v1<(a0.length:N))) then(
 (ix a0 v1).bind fun x3=>
 (a1 x3).bind fun r4=>
 if r4 then(
  E v1)
 else(
  J4 a1 a0 n (zB .i64 (v1+(1:N)))))
 else(
 E (-1:N))
def A0s(a0:H X0)(a1:X0→L O):L N:= J4 a1 a0 bigN (0:N)
/- slices_DeleteFunc_Option -/
def L7(a1:X0→L O)(v4:N)(k_slices_DeleteFunc_Option_1:N→N→(H X0)→L (H X0))(v12:N)(v13:H X0):L (H X0):= k_slices_DeleteFunc_Option_1 v12 (zB .i64 (v4+(1:N))) v13
def E5(a1:X0→L O):P→N→N→(H X0)→L (H X0)
| 0,_,_,_=>G
| n+1,v3,v4,v5=>
 if(decide (v4<(v5.length:N))) then(
 (ix v5 v4).bind fun x7=>
 (a1 x7).bind fun r9=>
 if r9 then(
  L7 a1 v4 (E5 a1 n) v3 v5)
 else(
  (ix v5 v3).bind fun x11=>
  L7 a1 v4 (E5 a1 n) (zB .i64 (v3+(1:N))) (v5.set (X v3) x7)))
 else(
 (bnd (v5.length:N) (v5.length:N) v3 v5.length).bind fun p14=>
 (bnd ((v5.take p14.1++I (p14.2 - p14.1) (⟨(0:N),(0:N),(0:N),([]:H X4)⟩:X0)).length:N) v3 0 (v5.take p14.1++I (p14.2 - p14.1) (⟨(0:N),(0:N),(0:N),([]:H X4)⟩:X0)).length).bind fun p15=>
 E ((v5.take p14.1++I (p14.2 - p14.1) (⟨(0:N),(0:N),(0:N),([]:H X4)⟩:X0)).take p15.2))
def Q5(a0:H X0)(a1:X0→L O):L (H X0):= (A0s a0 a1).bind fun r1=> if(r1==(-1:N)) then(
 E a0) else(
 E5 a1 bigN r1 (zB .i64 (r1+(1:N))) a0)
/- slices_IndexFunc_Passage -/
def J2(a1:X4→L O)(a0:H X4):P→N→L N
| 0,_=>G
| n+1,v1=>
 if(decide (v1<(a0.length:N))) then(
 (ix a0 v1).bind fun x3=>
 (a1 x3).bind fun r4=>
 if r4 then(
  E v1)
 else(
  J2 a1 a0 n (zB .i64 (v1+(1:N)))))
 else(
 E (-1:N))
def Z5(a0:H X4)(a1:X4→L O):L N:= J2 a1 a0 bigN (0:N)
/- slices_ContainsFunc_Passage -/
def U3(a0:H X4)(a1:X4→L O):L O:= (Z5 a0 a1).bind fun r1=> E (decide ((0:N)≤r1))
/- slices_IndexFunc_Closure -/
def J0(a1:Xa→L O)(a0:H Xa):P→N→L N
| 0,_=>G
| n+1,v1=>
 if(decide (v1<(a0.length:N))) then(
 (ix a0 v1).bind fun x3=>
 (a1 x3).bind fun r4=>
 if r4 then(
  E v1)
 else(
  J0 a1 a0 n (zB .i64 (v1+(1:N)))))
 else(
 E (-1:N))
def Z4(a0:H Xa)(a1:Xa→L O):L N:= J0 a1 a0 bigN (0:N)
/- slices_ContainsFunc_Closure -/
def U5(a0:H Xa)(a1:Xa→L O):L O:= (Z4 a0 a1).bind fun r1=> E (decide ((0:N)≤r1))
/- impl_HitsClosure_1 -/
def V9(a0:Xa)(c0:X4):L O:= if(a0.Segment==c0.Segment) then(
 E (decide ((if a0.From<c0.Start then c0.Start else a0.From)<(if c0.End<a0.To then c0.End else a0.To)))) else(
 E F)
/- impl_HitsClosure -/
def A0p(a0:X4)(a1:H Xa):L O:= (U5 a1 (fun z0=>V9 z0 a0)).bind fun r1=> E r1
/- impl_ShutOut_1 -/
def A3v(a0:X4)(c0:H Xa):L O:= (A0p a0 c0).bind fun r1=> E r1
/- impl_ShutOut -/
def A3g(a0:X0)(a1:H Xa):L O:= (U3 a0.Passages (fun z0=>A3v z0 a1)).bind fun r1=> E r1
/- impl_OpenOptions_1 -/
def A28(a0:X0)(c0:H Xa):L O:= (A3g a0 c0).bind fun r1=> E r1
/- impl_OpenOptions -/
def A0m(a0:X6)(a1:X8)(a2:H Xa):L (H X0):= (A2u a0 a1).bind fun r1=> if r1 then(
 (R9 a0.Chart a2).bind fun r3=>
 if r3 then(
 (K0 a0 a1).bind fun r5=>
 (Q5 r5 (fun z0=>A28 z0 a2)).bind fun r6=>
 E r6)
 else(
 E ([]:H X0))) else(
 E ([]:H X0))
/- impl_weight_less -/
def A2j(a0 a1:Xj):L O:= if(decide (a0.i0<a1.i0)) then(
 E T) else(
 if(a0.i0==a1.i0) then(
 E (decide (a0.i1<a1.i1)))
 else(
 E F))
/- impl_Overlaps -/
def A4n(a0 a1:X4):L O:= E (decide ((if a0.Start<a1.Start then a1.Start else a0.Start)<(if a1.End<a0.End then a1.End else a0.End)))
/- impl_near -/
def A7x(a0 a1 a2:N):L O:= E (decide ((IntKind.u64.wrap ((IntKind.u64.wrap (if a0<a1 then a1 else a0)) - (IntKind.u64.wrap (if a1<a0 then a1 else a0))))<(IntKind.u64.wrap a2)))
/- impl_conflict -/
def A1f(a2 a3:X4)(v22:O):L N:= if v22 then(
 E (3:N)) else(
 if(decide (a2.Start<a3.Start)) then(
 if(decide (a3.End<a2.End)) then(
  E (4:N))
 else(
  if(decide (a3.Start<a2.Start)) then(
  if(decide (a2.End<a3.End)) then(
   E (4:N))
  else(
   E (0:N)))
  else(
  E (0:N))))
 else(
 if(decide (a3.Start<a2.Start)) then(
  if(decide (a2.End<a3.End)) then(
  E (4:N))
  else(
  E (0:N)))
 else(
  E (0:N))))
def S2(a1:Xl)(a2 a3:X4)(v15 v16:O):L N:= if v15 then(
 E (2:N)) else(
 if(a2.Toward==a3.Toward) then(
 (A7x a2.Start a3.Start a1.Gap).bind fun r19=>
 if r19 then(
  A1f a2 a3 T)
 else(
  (A7x a2.End a3.End a1.Gap).bind fun r21=>
  A1f a2 a3 r21))
 else(
 E (0:N)))
def A1b(a0:X5)(a1:Xl)(a2 a3:X4)(v7:O):L N:= if v7 then(
 E (1:N)) else(
 if(a2.Ship==a3.Ship) then(
 E (0:N))
 else(
 if(a2.Toward==a3.Toward) then(
  S2 a1 a2 a3 F a1.NoMeet)
 else(
  (A4n a2 a3).bind fun r11=>
  if r11 then(
  if a1.NoMeet then(
   S2 a1 a2 a3 T T)
  else(
   (ix a0.Segments a2.Segment).bind fun x14=>
   S2 a1 a2 a3 (!x14.Meet) F))
  else(
  S2 a1 a2 a3 F a1.NoMeet))))
def A1e(a0:X5)(a1:Xl)(a2 a3:X4)(v3:O):L N:= if v3 then(
 E (0:N)) else(
 if(a2.Ship==a3.Ship) then(
 (A4n a2 a3).bind fun r6=>
 A1b a0 a1 a2 a3 r6)
 else(
 A1b a0 a1 a2 a3 F))
def A40(a0:X5)(a1:Xl)(a2 a3:X4):L N:= if(a2.Segment !=a3.Segment) then(
 A1e a0 a1 a2 a3 T) else(
 (D2 a2.Segment (a0.Segments.length:N)).bind fun r2=>
 A1e a0 a1 a2 a3 (!r2))
/- impl_clashes -/
def Z9(a3 a2:H X4)(v1:N)(a0:X5)(a1:Xl)(x3:X4)(A36:N→L O):P→N→L O
| 0,_=>G
| n+1,v4=>
 if(decide (v4<(a3.length:N))) then(
 (ix a3 v4).bind fun x6=>
 (A40 a0 a1 x3 x6).bind fun r7=>
 if(r7 !=(0:N)) then(
  E T)
 else(
  Z9 a3 a2 v1 a0 a1 x3 A36 n (zB .i64 (v4+(1:N)))))
 else(
 A36 (zB .i64 (v1+(1:N))))
def Q4(a3 a2:H X4)(a0:X5)(a1:Xl):P→N→L O
| 0,_=>G
| n+1,v1=>
 if(decide (v1<(a2.length:N))) then(
 (ix a2 v1).bind fun x3=>
 Z9 a3 a2 v1 a0 a1 x3 (Q4 a3 a2 a0 a1 n) bigN (0:N))
 else(
 E F)
def A7a(a0:X5)(a1:Xl)(a2 a3:H X4):L O:= Q4 a3 a2 a0 a1 bigN (0:N)
/- impl_clone_Option -/
def J9(a0:H X0):L (H X0):= (mkS (0:N) (a0.length:N) 48).bind fun n1=> if D1 (I n1 (⟨(0:N),(0:N),(0:N),([]:H X4)⟩:X0)).length a0.length 48 then(
 E ((I n1 (⟨(0:N),(0:N),(0:N),([]:H X4)⟩:X0))++a0)) else G
/- impl_Passage_ends -/
def Y7(a0:X4)(a1:X5):L (N × N):= (ix a1.Segments a0.Segment).bind fun x1=> if a0.Toward then(
 E (x1.A,x1.B)) else(
 E (x1.B,x1.A))
/- impl_duty -/
def A6n(a0:X5)(a1 a2:X4):L Xe:= (Y7 a1 a0).bind fun r1=> (Y7 a2 a0).bind fun r2=> E (⟨a1.Start,a2.End,r1.1,r2.2⟩:Xe)
/- impl_passageOk -/
def A3y(a0:X5)(a1:H Xb)(a2:X4):L O:= (D2 a2.Ship (a1.length:N)).bind fun r1=> if r1 then(
 (D2 a2.Segment (a0.Segments.length:N)).bind fun r3=>
 if r3 then(
 (I6 a2.Start).bind fun r5=>
 if r5 then(
  if(decide ((2880:N)<a2.End)) then(
  E F)
  else(
  (ix a1 a2.Ship).bind fun x8=>
  (ix a0.Segments a2.Segment).bind fun x9=>
  (M6 x8 x9).bind fun r10=>
  E (a2.End==(zB .i64 (a2.Start+r10)))))
 else(
  E F))
 else(
 E F)) else(
 E F)
/- impl_PassageOk -/
def A3r(a0:X5)(a1:H Xb)(a2:X4):L O:= (L8 a0).bind fun r1=> if r1 then(
 (A3i a1).bind fun r3=>
 if r3 then(
 (A3y a0 a1 a2).bind fun r5=>
 E r5)
 else(
 E F)) else(
 E F)
/- impl_tugDuties -/
def P5(a1:H Xb)(a2:H X4)(v1:N)(x7:Xb)(a0:X5)(x4:X4)(A2g:N→(H Xe)→L ((H Xe) × O)):P→N→(H Xe)→L ((H Xe) × O)
| 0,_,_=>G
| n+1,v8,v9=>
 if(decide (v8<x7.Tugs)) then(
 (A6n a0 x4 x4).bind fun r11=>
 if D1 v9.length ([r11]:H Xe).length 32 then(
  P5 a1 a2 v1 x7 a0 x4 A2g n (zB .i64 (v8+(1:N))) (v9++([r11]:H Xe)))
 else G)
 else(
 if(decide ((12:N)<(v9.length:N))) then(
  E (([]:H Xe),F))
 else(
  A2g (zB .i64 (v1+(1:N))) v9))
def L2(a1:H Xb)(a2:H X4)(a0:X5):P→N→(H Xe)→L ((H Xe) × O)
| 0,_,_=>G
| n+1,v1,v2=>
 if(decide (v1<(a2.length:N))) then(
 (ix a2 v1).bind fun x4=>
 (A3r a0 a1 x4).bind fun r5=>
 if r5 then(
  (ix a1 x4.Ship).bind fun x7=>
  P5 a1 a2 v1 x7 a0 x4 (L2 a1 a2 a0 n) bigN (0:N) v2)
 else(
  E (([]:H Xe),F)))
 else(
 E (v2,T))
def A5z(a0:X5)(a1:H Xb)(a2:H X4):L ((H Xe) × O):= L2 a1 a2 a0 bigN (0:N) ([]:H Xe)
/- impl_DutiesOk -/
def W7(a0:H Xe):P→N→L O
| 0,_=>G
| n+1,v2=>
 if(decide (v2<(a0.length:N))) then(
 (ix a0 v2).bind fun x4=>
 if(decide (x4.From<(0:N))) then(
  E F)
 else(
  if(decide (x4.To≤x4.From)) then(
  E F)
  else(
  if(decide ((2880:N)<x4.To)) then(
   E F)
  else(
   (D2 x4.A (8:N)).bind fun r9=>
   if r9 then(
   (D2 x4.B (8:N)).bind fun r11=>
   if r11 then(
    W7 a0 n (zB .i64 (v2+(1:N))))
   else(
    E F))
   else(
   E F)))))
 else(
 E T)
def A02(a0:H Xe):L O:= if(decide ((12:N)<(a0.length:N))) then(
 E F) else(
 W7 a0 bigN (0:N))
/- impl_coverable -/
def A11(a0:N)(a1:H N)(a2:H Xe):L O:= (A02 a2).bind fun r1=> if r1 then(
 (I6 a0).bind fun r3=>
 if r3 then(
 (A0o a1).bind fun r5=>
 E r5)
 else(
 E F)) else(
 E F)
/- impl_Gap -/
def A3k(a0:N)(a1:H N)(a2 a3:Xe)(v8:O):L (N × O):= if v8 then(
 E ((0:N),F)) else(
 (ix a1 (zB .i64 ((zB .i64 ((8:N)*a2.B))+a3.A))).bind fun x10=>
 E ((zB .i64 (a0+x10)),T))
def B0x(a0:N)(a1:H N)(a2 a3:Xe):L (N × O):= (I6 a0).bind fun r1=> if r1 then(
 (A0o a1).bind fun r3=>
 if r3 then(
 (D2 a2.B (8:N)).bind fun r5=>
 if r5 then(
  (D2 a3.A (8:N)).bind fun r7=>
  A3k a0 a1 a2 a3 (!r7))
 else(
  A3k a0 a1 a2 a3 T))
 else(
 A3k a0 a1 a2 a3 T)) else(
 A3k a0 a1 a2 a3 T)
/- impl_CanFollow -/
def A16(a0:N)(a1:H N)(a2 a3:Xe):L O:= (B0x a0 a1 a2 a3).bind fun r1=> if r1.2 then(
 (A02 ([a2]:H Xe)).bind fun r3=>
 if r3 then(
 (A02 ([a3]:H Xe)).bind fun r5=>
 if r5 then(
  E (decide ((zB .i64 (a2.To+r1.1))≤a3.From)))
 else(
  E F))
 else(
 E F)) else(
 E F)
/- impl_partners -/
def Y1(a0:N)(a1:H N)(a2:H Xe)(v2 v6:N)(x5:Xe)(v7:H N)(A20:N→(H N)→L (H N))(v14:O):L (H N):= if v14 then(
 (ix v7 v2).bind fun x16=>
 if decide (v6<0) then G else
 A20 (zB .i64 (v6+(1:N))) (v7.set (X v2) (K5 .or .u64 x16 (A1j .u64 (1:N) v6)))) else(
 A20 (zB .i64 (v6+(1:N))) v7)
def G6(a0:N)(a1:H N)(a2:H Xe)(v2:N)(x5:Xe)(M9:N→(H N)→L (H N)):P→N→(H N)→L (H N)
| 0,_,_=>G
| n+1,v6,v7=>
 if(decide (v6<(a2.length:N))) then(
 (ix a2 v6).bind fun x9=>
 if(v2 !=v6) then(
  (A16 a0 a1 x5 x9).bind fun r11=>
  if r11 then(
  Y1 a0 a1 a2 v2 v6 x5 v7 (G6 a0 a1 a2 v2 x5 M9 n) T)
  else(
  (A16 a0 a1 x9 x5).bind fun r13=>
  Y1 a0 a1 a2 v2 v6 x5 v7 (G6 a0 a1 a2 v2 x5 M9 n) r13))
 else(
  Y1 a0 a1 a2 v2 v6 x5 v7 (G6 a0 a1 a2 v2 x5 M9 n) F))
 else(
 M9 (zB .i64 (v2+(1:N))) v7)
def N0(a0:N)(a1:H N)(a2:H Xe):P→N→(H N)→L (H N)
| 0,_,_=>G
| n+1,v2,v3=>
 if(decide (v2<(a2.length:N))) then(
 (ix a2 v2).bind fun x5=>
 G6 a0 a1 a2 v2 x5 (N0 a0 a1 a2 n) bigN (0:N) v3)
 else(
 E v3)
def A4u(a0:N)(a1:H N)(a2:H Xe):L (H N):= (mkS (a2.length:N) (a2.length:N) 8).bind fun n1=> N0 a0 a1 a2 bigN (0:N) (I n1 (0:N))
/- math_bits_Len64 -/
def Z0(v8 v9:N):L N:= (ix ([0,1,2,2,3,3,3,3,4,4,4,4,4,4,4,4,5,5,5,5,5,5,5,5,5,5,5,5,5,5,5,5,6,6,6,6,6,6,6,6,6,6,6,6,6,6,6,6,6,6,6,6,6,6,6,6,6,6,6,6,6,6,6,6,7,7,7,7,7,7,7,7,7,7,7,7,7,7,7,7,7,7,7,7,7,7,7,7,7,7,7,7,7,7,7,7,7,7,7,7,7,7,7,7,7,7,7,7,7,7,7,7,7,7,7,7,7,7,7,7,7,7,7,7,7,7,7,7,8,8,8,8,8,8,8,8,8,8,8,8,8,8,8,8,8,8,8,8,8,8,8,8,8,8,8,8,8,8,8,8,8,8,8,8,8,8,8,8,8,8,8,8,8,8,8,8,8,8,8,8,8,8,8,8,8,8,8,8,8,8,8,8,8,8,8,8,8,8,8,8,8,8,8,8,8,8,8,8,8,8,8,8,8,8,8,8,8,8,8,8,8,8,8,8,8,8,8,8,8,8,8,8,8,8,8,8,8,8,8,8,8,8,8,8,8,8,8,8,8,8,8,8,8,8,8,8]:H Q) (IntKind.u8.wrap v8)).bind fun b10=> E (zB .i64 (v9+(zB .i64 (b10.toNat:N))))
def A1q(v5 v6:N):L N:= if(decide ((256:N)≤v5)) then(
 Z0 (A0y .u64 v5 8) (zB .i64 (v6+(8:N)))) else(
 Z0 v5 v6)
def A1r(v2 v3:N):L N:= if(decide ((65536:N)≤v2)) then(
 A1q (A0y .u64 v2 16) (zB .i64 (v3+(16:N)))) else(
 A1q v2 v3)
def A5e(a0:N):L N:= if(decide ((4294967296:N)≤a0)) then(
 A1r (A0y .u64 a0 32) (32:N)) else(
 A1r a0 (0:N))
/- math_bits_Len -/
def A2p(a0:N):L N:= (A5e a0).bind fun r1=> E r1
/- impl_leastPersons -/
def U1(a0:H N)(y5 v6:N)(v17 v18 v21:N)(v19:H O)(B8:N→(H O)→(H N)→L N)(A2m:N→(H N)→L N)(v28:H N):L N:= if(v21==(0:N)) then(
 B8 (zB .i64 (v6+(1:N))) v19 v28) else(
 A2m (K5 .and .i64 (zB .i64 (v21 - (1:N))) v18) v28)
def I3(a0:H N)(y5 v6:N)(v17 v18:N)(v19:H O)(B8:N→(H O)→(H N)→L N):P→N→(H N)→L N
| 0,_,_=>G
| n+1,v21,v22=>
 if decide (v17<0) then G else
 (ix v19 (K5 .or .i64 v21 (A1j .i64 (1:N) v17))).bind fun x24=>
 if x24 then(
 (ix v22 v6).bind fun x26=>
 (ix v22 (K5 .andNot .i64 v18 v21)).bind fun x27=>
 U1 a0 y5 v6 v17 v18 v21 v19 B8 (I3 a0 y5 v6 v17 v18 v19 B8 n) (v22.set (X v6) (if(zB .i64 ((1:N)+x27))<x26 then(zB .i64 ((1:N)+x27)) else x26)))
 else(
 U1 a0 y5 v6 v17 v18 v21 v19 B8 (I3 a0 y5 v6 v17 v18 v19 B8 n) v22)
def U2(a0:H N)(y5 v6:N)(v8:H N)(B8:N→(H O)→(H N)→L N)(v17 v18:N)(v19:H O):L N:= (ix v8 v6).bind fun x20=> I3 a0 y5 v6 v17 v18 v19 B8 bigN v18 (v8.set (X v6) (a0.length:N))
def F8(a0:H N)(y5:N):P→N→(H O)→(H N)→L N
| 0,_,_,_=>G
| n+1,v6,v7,v8=>
 if(decide (v6<y5)) then(
 (A2p (IntKind.u64.wrap v6)).bind fun r10=>
 if decide ((zB .i64 (r10 - (1:N)))<0) then G else
 (ix v7 (K5 .andNot .i64 v6 (A1j .i64 (1:N) (zB .i64 (r10 - (1:N)))))).bind fun x12=>
 if x12 then(
  (ix a0 (zB .i64 (r10 - (1:N)))).bind fun x14=>
  (ix v7 v6).bind fun x15=>
  U2 a0 y5 v6 v8 (F8 a0 y5 n) (zB .i64 (r10 - (1:N))) (K5 .andNot .i64 v6 (A1j .i64 (1:N) (zB .i64 (r10 - (1:N))))) (v7.set (X v6) ((K5 .andNot .u64 (IntKind.u64.wrap (K5 .andNot .i64 v6 (A1j .i64 (1:N) (zB .i64 (r10 - (1:N)))))) x14)==(0:N))))
 else(
  (ix v7 v6).bind fun x16=>
  U2 a0 y5 v6 v8 (F8 a0 y5 n) (zB .i64 (r10 - (1:N))) (K5 .andNot .i64 v6 (A1j .i64 (1:N) (zB .i64 (r10 - (1:N))))) (v7.set (X v6) F)))
 else(
 (ix v8 (zB .i64 (y5 - (1:N)))).bind fun x30=>
 E x30)
def A1n(a0:H N):L N:= if decide ((a0.length:N)<0) then G else (mkS (A1j .i64 (1:N) (a0.length:N)) (A1j .i64 (1:N) (a0.length:N)) 1).bind fun n2=> (mkS (A1j .i64 (1:N) (a0.length:N)) (A1j .i64 (1:N) (a0.length:N)) 8).bind fun n3=> (ix (I n2 F) (0:N)).bind fun x4=> F8 a0 (A1j .i64 (1:N) (a0.length:N)) bigN (1:N) ((I n2 F).set (X (0:N)) T) (I n3 (0:N))
/- impl_coverer_cover -/
def N8(rec_:Xh→L (O × Xh))(a0:Xh)(v2:N)(F3:N→(H N)→N→(H N)→(H N)→L (O × Xh))(v22:H N)(v23:N)(v24 v25:H N):L (O × Xh):= (ix v24 v2).bind fun x26=> if(x26==(0:N)) then(
 (bnd (v24.length:N) v2 0 v24.length).bind fun p28=>
 E (F,(⟨v22,v23,(v24.take p28.2),v25⟩:Xh))) else(
 F3 (zB .i64 (v2+(1:N))) v22 v23 v24 v25)
def R6(rec_:Xh→L (O × Xh))(a0:Xh)(v2:N)(v3:H N)(v4:N)(v6:H N)(F3:N→(H N)→N→(H N)→(H N)→L (O × Xh))(v11:H N):L (O × Xh):= (ix v11 v2).bind fun x12=> (ix v3 (a0.who.length:N)).bind fun x13=> if((K5 .andNot .u64 x12 x13)==(0:N)) then(
 if decide ((a0.who.length:N)<0) then G else
 if D1 v6.length ([v2]:H N).length 8 then(
 (rec_ (⟨v3,v4,(v11.set (X v2) (K5 .or .u64 x12 (A1j .u64 (1:N) (a0.who.length:N)))),(v6++([v2]:H N))⟩:Xh)).bind fun r17=>
 if r17.1 then(
  E (T,r17.2))
 else(
  (bnd (r17.2.who.length:N) (a0.who.length:N) 0 r17.2.who.length).bind fun p19=>
  (ix r17.2.groups v2).bind fun x20=>
  if decide ((a0.who.length:N)<0) then G else
  N8 rec_ a0 v2 F3 r17.2.sets r17.2.most (r17.2.groups.set (X v2) (K5 .andNot .u64 x20 (A1j .u64 (1:N) (a0.who.length:N)))) (r17.2.who.take p19.2)))
 else G) else(
 N8 rec_ a0 v2 F3 v3 v4 v11 v6)
def G2(rec_:Xh→L (O × Xh))(a0:Xh):P→N→(H N)→N→(H N)→(H N)→L (O × Xh)
| 0,_,_,_,_,_=>G
| n+1,v2,v3,v4,v5,v6=>
 if(decide (v2≤(v5.length:N))) then(
 if(decide (v2<v4)) then(
  if(v2==(v5.length:N)) then(
  if D1 v5.length ([(0:N)]:H N).length 8 then(
   R6 rec_ a0 v2 v3 v4 v6 (G2 rec_ a0 n) (v5++([(0:N)]:H N)))
  else G)
  else(
  R6 rec_ a0 v2 v3 v4 v6 (G2 rec_ a0 n) v5))
 else(
  E (F,(⟨v3,v4,v5,v6⟩:Xh))))
 else(
 E (F,(⟨v3,v4,v5,v6⟩:Xh)))
def Z2(rec_:Xh→L (O × Xh))(a0:Xh):L (O × Xh):= if((a0.who.length:N)==(a0.sets.length:N)) then(
 E (T,a0)) else(
 G2 rec_ a0 bigN (0:N) a0.sets a0.most a0.groups a0.who)
def G0:P→Xh→L (O × Xh)
| 0,_=>G
| n+1,a0=>Z2 (G0 n) a0
def A52(a0:Xh):L (O × Xh):=G0 bigN a0
/- impl_LeastCover -/
def W6(a0:N)(a1:H N)(a2:H Xe):L ((H N) × N × O):= (A11 a0 a1 a2).bind fun r1=> if r1 then(
 (A4u a0 a1 a2).bind fun r3=>
 (A1n r3).bind fun r4=>
 (A52 (⟨r3,r4,([]:H N),([]:H N)⟩:Xh)).bind fun r5=>
 E (r5.2.who,r5.2.most,T)) else(
 E (([]:H N),(0:N),F))
/- impl_coverFits -/
def A1y(a0:N)(a1:H N)(a2:H Xe)(a3:N):L O:= if(decide ((a2.length:N)≤a3)) then(
 E T) else(
 (W6 a0 a1 a2).bind fun r2=>
 E (decide (r2.2.1≤a3)))
/- impl_crewFits -/
def S3(a1:H X0)(a0:X6):P→N→(H X4)→(H Xe)→L O
| 0,_,_,_=>G
| n+1,v1,v2,v3=>
 if(decide (v1<(a1.length:N))) then(
 (ix a1 v1).bind fun x5=>
 if D1 v2.length x5.Passages.length 40 then(
  if(decide ((0:N)<(x5.Passages.length:N))) then(
  (ix x5.Passages (0:N)).bind fun x8=>
  (ix x5.Passages (zB .i64 ((x5.Passages.length:N) - (1:N)))).bind fun x9=>
  (A6n a0.Chart x8 x9).bind fun r10=>
  if D1 v3.length ([r10]:H Xe).length 32 then(
   S3 a1 a0 n (zB .i64 (v1+(1:N))) (v2++x5.Passages) (v3++([r10]:H Xe)))
  else G)
  else(
  S3 a1 a0 n (zB .i64 (v1+(1:N))) (v2++x5.Passages) v3))
 else G)
 else(
 (A5z a0.Chart a0.Fleet v2).bind fun r12=>
 if r12.2 then(
  (A1y (0:N) a0.Crew.Moves r12.1 a0.Crew.Tugs).bind fun r14=>
  if r14 then(
  (A1y a0.Crew.Rest a0.Crew.Moves v3 a0.Crew.Pilots).bind fun r16=>
  E r16)
  else(
  E F))
 else(
  E F))
def T6(a0:X6)(a1:H X0):L O:= S3 a1 a0 bigN (0:N) ([]:H X4) ([]:H Xe)
/- impl_fitsTo -/
def A06(a1:H X0)(a0:X6)(a2:X0):P→N→L O
| 0,_=>G
| n+1,v1=>
 if(decide (v1<(a1.length:N))) then(
 (ix a1 v1).bind fun x3=>
 (A7a a0.Chart a0.Regime x3.Passages a2.Passages).bind fun r4=>
 if r4 then(
  E F)
 else(
  A06 a1 a0 a2 n (zB .i64 (v1+(1:N)))))
 else(
 (J9 a1).bind fun r6=>
 if D1 r6.length ([a2]:H X0).length 48 then(
  (T6 a0 (r6++([a2]:H X0))).bind fun r9=>
  E r9)
 else G)
def A2v(a0:X6)(a1:H X0)(a2:X0):L O:= A06 a1 a0 a2 bigN (0:N)
/- impl_planner_search -/
def K4(w0:(H X0)→L Xj)(rec_:Xd→L Xd)(a0:Xd)(x8:H X0):P→N→X6→(H (H X0))→N→N→O→(H X0)→(H N)→(H N)→L Xd
| 0,_,_,_,_,_,_,_,_,_=>G
| n+1,v9,v10,v11,v12,v13,v14,v15,v16,v17=>
 if(decide (v9<(x8.length:N))) then(
 (ix x8 v9).bind fun x19=>
 (A2v v10 v15 x19).bind fun r20=>
 if r20 then(
  if D1 v15.length ([x19]:H X0).length 48 then(
  if D1 v16.length ([v9]:H N).length 8 then(
   (rec_ (⟨v10,v11,(v15++([x19]:H X0)),(v16++([v9]:H N)),v17,(⟨v12,v13⟩:Xj),v14⟩:Xd)).bind fun r24=>
   (bnd (r24.plan.length:N) (a0.plan.length:N) 0 r24.plan.length).bind fun p25=>
   (bnd (r24.choice.length:N) (a0.plan.length:N) 0 r24.choice.length).bind fun p26=>
   K4 w0 rec_ a0 x8 n (zB .i64 (v9+(1:N))) r24.h r24.choices r24.least.i0 r24.least.i1 r24.found (r24.plan.take p25.2) (r24.choice.take p26.2) r24.best)
  else G)
  else G)
 else(
  K4 w0 rec_ a0 x8 n (zB .i64 (v9+(1:N))) v10 v11 v12 v13 v14 v15 v16 v17))
 else(
 E (⟨v10,v11,v15,v16,v17,(⟨v12,v13⟩:Xj),v14⟩:Xd))
def K3(w0:(H X0)→L Xj)(rec_:Xd→L Xd)(a0:Xd)(r1:Xj)(v5:O):L Xd:= if((a0.plan.length:N)==(a0.choices.length:N)) then(
 (D6 a0.choice).bind fun r7=>
 E (⟨a0.h,a0.choices,a0.plan,a0.choice,r7,r1,T⟩:Xd)) else(
 (ix a0.choices (a0.plan.length:N)).bind fun x8=>
 K4 w0 rec_ a0 x8 bigN (0:N) a0.h a0.choices a0.least.i0 a0.least.i1 v5 a0.plan a0.choice a0.best)
def W3(w0:(H X0)→L Xj)(rec_:Xd→L Xd)(a0:Xd):L Xd:= (w0 a0.plan).bind fun r1=> if a0.found then(
 (A2j r1 a0.least).bind fun r3=>
 if r3 then(
 K3 w0 rec_ a0 r1 T)
 else(
 E (⟨a0.h,a0.choices,a0.plan,a0.choice,a0.best,a0.least,T⟩:Xd))) else(
 K3 w0 rec_ a0 r1 F)
def F6(w0:(H X0)→L Xj):P→Xd→L Xd
| 0,_=>G
| n+1,a0=>W3 w0 (F6 w0 n) a0
def A5o(w0:(H X0)→L Xj)(a0:Xd):L Xd:=F6 w0 bigN a0
/- impl_leastPlan -/
def V4(a0:X6)(a1:H (H X0))(a2:(H X0)→L Xj):L ((H N) × Xj × O):= (A5o a2 (⟨a0,a1,([]:H X0),([]:H N),([]:H N),(⟨(0:N),(0:N)⟩:Xj),F⟩:Xd)).bind fun r1=> E (r1.best,r1.least,r1.found)
/- impl_CostOf -/
def A0v(a0:H X0):P→N→N→L N
| 0,_,_=>G
| n+1,v1,v2=>
 if(decide (v2<(a0.length:N))) then(
 (ix a0 v2).bind fun x4=>
 A0v a0 n (zB .i64 (v1+x4.Cost)) (zB .i64 (v2+(1:N))))
 else(
 E v1)
def A74(a0:H X0):L N:= A0v a0 bigN (0:N) (0:N)
/- impl_byCost -/
def A1i(a0:H X0):L Xj:= (A74 a0).bind fun r1=> E (⟨r1,(0:N)⟩:Xj)
/- impl_chosen -/
def A09(a0:H (H X0))(a1:H N):P→N→(H X0)→L (H X0)
| 0,_,_=>G
| n+1,v1,v2=>
 if(decide (v1<(a1.length:N))) then(
 (ix a1 v1).bind fun x4=>
 (ix a0 v1).bind fun x5=>
 (ix x5 x4).bind fun x6=>
 if D1 v2.length ([x6]:H X0).length 48 then(
  A09 a0 a1 n (zB .i64 (v1+(1:N))) (v2++([x6]:H X0)))
 else G)
 else(
 E v2)
def A4j(a0:H (H X0))(a1:H N):L (H X0):= A09 a0 a1 bigN (0:N) ([]:H X0)
/- impl_ClosedPlan -/
def O1(a2:H Xa)(a1:H X8)(a0:X6):P→N→(H (H X0))→L ((H X0) × O)
| 0,_,_=>G
| n+1,v6,v7=>
 if(decide (v6<(a1.length:N))) then(
 (ix a1 v6).bind fun x9=>
 (A0m a0 x9 a2).bind fun r10=>
 if D1 v7.length ([r10]:H (H X0)).length 24 then(
  O1 a2 a1 a0 n (zB .i64 (v6+(1:N))) (v7++([r10]:H (H X0))))
 else G)
 else(
 (V4 a0 v7 (fun z0=>A1i z0)).bind fun r12=>
 if r12.2.2 then(
  (A4j v7 r12.1).bind fun r14=>
  E (r14,T))
 else(
  E (([]:H X0),F)))
def A4a(a1:H X8)(a2:H Xa)(a0:X6)(v4:O):L ((H X0) × O):= if v4 then(
 E (([]:H X0),F)) else(
 O1 a2 a1 a0 bigN (0:N) ([]:H (H X0)))
def J3(a0:X6)(a1:H X8)(a2:H Xa):L ((H X0) × O):= (V8 a0 a1).bind fun r1=> if r1 then(
 (R9 a0.Chart a2).bind fun r3=>
 A4a a1 a2 a0 (!r3)) else(
 A4a a1 a2 a0 T)
/- impl_selections -/
def A4d(rec_:N→N→L (H (H N)))(a0 a1 v2:N)(r5:(H (H N)))(v6:N)(x9:H N)(v7:H (H N))(A1o:N→(H (H N))→L (H (H N))):P→N→(H N)→L (H (H N))
| 0,_,_=>G
| n+1,v10,v11=>
 if(decide (v10<(x9.length:N))) then(
 (ix x9 v10).bind fun x13=>
 if D1 v11.length ([(zB .i64 ((zB .i64 (v2+(1:N)))+x13))]:H N).length 8 then(
  A4d rec_ a0 a1 v2 r5 v6 x9 v7 A1o n (zB .i64 (v10+(1:N))) (v11++([(zB .i64 ((zB .i64 (v2+(1:N)))+x13))]:H N)))
 else G)
 else(
 if D1 v7.length ([v11]:H (H N)).length 24 then(
  A1o (zB .i64 (v6+(1:N))) (v7++([v11]:H (H N))))
 else G)
def A1p(rec_:N→N→L (H (H N)))(a0 a1 v2:N)(r5:(H (H N)))(Y6:N→(H (H N))→L (H (H N))):P→N→(H (H N))→L (H (H N))
| 0,_,_=>G
| n+1,v6,v7=>
 if(decide (v6<(r5.length:N))) then(
 (ix r5 v6).bind fun x9=>
 A4d rec_ a0 a1 v2 r5 v6 x9 v7 (A1p rec_ a0 a1 v2 r5 Y6 n) bigN (0:N) ([v2]:H N))
 else(
 Y6 (zB .i64 (v2+(1:N))) v7)
def A1w(rec_:N→N→L (H (H N)))(a0 a1:N):P→N→(H (H N))→L (H (H N))
| 0,_,_=>G
| n+1,v2,v3=>
 if(decide (v2<a0)) then(
 (rec_ (zB .i64 ((zB .i64 (a0 - v2)) - (1:N))) (zB .i64 (a1 - (1:N)))).bind fun r5=>
 A1p rec_ a0 a1 v2 r5 (A1w rec_ a0 a1 n) bigN (0:N) v3)
 else(
 E v3)
def A6p(rec_:N→N→L (H (H N)))(a0 a1:N):L (H (H N)):= if(a1==(0:N)) then(
 E ([([]:H N)]:H (H N))) else(
 A1w rec_ a0 a1 bigN (0:N) ([]:H (H N)))
def A1s:P→N→N→L (H (H N))
| 0,_,_=>G
| n+1,a0,a1=>A6p (A1s n) a0 a1
def A5m(a0 a1:N):L (H (H N)):=A1s bigN a0 a1
/- impl_longestSelection -/
def I7(a1:(H N)→L O)(a0:H X8)(v1:N)(r3:(H (H N)))(T4:N→L (H N)):P→N→L (H N)
| 0,_=>G
| n+1,v4=>
 if(decide (v4<(r3.length:N))) then(
 (ix r3 v4).bind fun x6=>
 (a1 x6).bind fun r7=>
 if r7 then(
  E x6)
 else(
  I7 a1 a0 v1 r3 T4 n (zB .i64 (v4+(1:N)))))
 else(
 T4 (zB .i64 (v1 - (1:N))))
def H0(a1:(H N)→L O)(a0:H X8):P→N→L (H N)
| 0,_=>G
| n+1,v1=>
 if(decide ((0:N)≤v1)) then(
 (A5m (a0.length:N) v1).bind fun r3=>
 I7 a1 a0 v1 r3 (H0 a1 a0 n) bigN (0:N))
 else(
 E ([]:H N))
def A1l(a0:H X8)(a1:(H N)→L O):L (H N):= H0 a1 a0 bigN (a0.length:N)
/- impl_isSelection -/
def N6(a0:H X8)(a1:H N):P→N→L O
| 0,_=>G
| n+1,v1=>
 if(decide (v1<(a1.length:N))) then(
 (ix a1 v1).bind fun x3=>
 (D2 x3 (a0.length:N)).bind fun r4=>
 if r4 then(
  if(decide ((0:N)<v1)) then(
  (ix a1 (zB .i64 (v1 - (1:N)))).bind fun x7=>
  if(decide (x3≤x7)) then(
   E F)
  else(
   N6 a0 a1 n (zB .i64 (v1+(1:N)))))
  else(
  N6 a0 a1 n (zB .i64 (v1+(1:N)))))
 else(
  E F))
 else(
 E T)
def A44(a0:H X8)(a1:H N):L O:= N6 a0 a1 bigN (0:N)
/- impl_SelectCalls -/
def P9(a0:H X8)(a1:H N):P→N→(H X8)→L (H X8)
| 0,_,_=>G
| n+1,v3,v4=>
 if(decide (v3<(a1.length:N))) then(
 (ix a1 v3).bind fun x6=>
 (ix a0 x6).bind fun x7=>
 if D1 v4.length ([x7]:H X8).length 40 then(
  P9 a0 a1 n (zB .i64 (v3+(1:N))) (v4++([x7]:H X8)))
 else G)
 else(
 E v4)
def A2e(a0:H X8)(a1:H N):L (H X8):= (A44 a0 a1).bind fun r1=> if r1 then(
 P9 a0 a1 bigN (0:N) ([]:H X8)) else(
 E ([]:H X8))
/- impl_DivertedCalls_c1 -/
def K2(a0:H N)(c0:X6)(c1:H X8)(c2:H Xa):L O:= (A2e c1 a0).bind fun r1=> (J3 c0 r1 c2).bind fun r2=> E r2.2
/- slices_Index_int -/
def Q2(a0:H N)(a1:N):P→N→L N
| 0,_=>G
| n+1,v1=>
 if(decide (v1<(a0.length:N))) then(
 (ix a0 v1).bind fun x3=>
 if(a1==x3) then(
  E v1)
 else(
  Q2 a0 a1 n (zB .i64 (v1+(1:N)))))
 else(
 E (-1:N))
def A42(a0:H N)(a1:N):L N:= Q2 a0 a1 bigN (0:N)
/- slices_Contains_int -/
def A0l(a0:H N)(a1:N):L O:= (A42 a0 a1).bind fun r1=> E (decide ((0:N)≤r1))
/- impl_DivertedCalls -/
def L5(r6:(H N))(a1:H X8):P→N→(H N)→L ((H N) × O)
| 0,_,_=>G
| n+1,v7,v8=>
 if(decide (v7<(a1.length:N))) then(
 (A0l r6 v7).bind fun r10=>
 if r10 then(
  L5 r6 a1 n (zB .i64 (v7+(1:N))) v8)
 else(
  if D1 v8.length ([v7]:H N).length 8 then(
  L5 r6 a1 n (zB .i64 (v7+(1:N))) (v8++([v7]:H N)))
  else G))
 else(
 E (v8,T))
def Z3(a0:X6)(a1:H X8)(a2:H Xa)(v4:O):L ((H N) × O):= if v4 then(
 E (([]:H N),F)) else(
 (A1l a1 (fun z0=>K2 z0 a0 a1 a2)).bind fun r6=>
 L5 r6 a1 bigN (0:N) ([]:H N))
def A03(a0:X6)(a1:H X8)(a2:H Xa):L ((H N) × O):= (V8 a0 a1).bind fun r1=> if r1 then(
 (R9 a0.Chart a2).bind fun r3=>
 Z3 a0 a1 a2 (!r3)) else(
 Z3 a0 a1 a2 T)
/- laws_has -/
def A3z(a1:N)(a0:H N):P→N→L O
| 0,_=>G
| n+1,v1=>
 if(decide (v1<(a0.length:N))) then(
 (ix a0 v1).bind fun x3=>
 if(x3==a1) then(
  E T)
 else(
  A3z a1 a0 n (zB .i64 (v1+(1:N)))))
 else(
 E F)
def B04(a0:H N)(a1:N):L O:= A3z a1 a0 bigN (0:N)
/- impl_allOptions -/
def S6(a1:H X8)(a0:X6):P→N→(H (H X0))→L (H (H X0))
| 0,_,_=>G
| n+1,v1,v2=>
 if(decide (v1<(a1.length:N))) then(
 (ix a1 v1).bind fun x4=>
 (K0 a0 x4).bind fun r5=>
 if D1 v2.length ([r5]:H (H X0)).length 24 then(
  S6 a1 a0 n (zB .i64 (v1+(1:N))) (v2++([r5]:H (H X0))))
 else G)
 else(
 E v2)
def A26(a0:X6)(a1:H X8):L (H (H X0)):= S6 a1 a0 bigN (0:N) ([]:H (H X0))
/- impl_BestPlan -/
def A6u(a0:X6)(a1:H X8):L ((H N) × N × O):= (V8 a0 a1).bind fun r1=> if r1 then(
 (A26 a0 a1).bind fun r3=>
 (V4 a0 r3 (fun z0=>A1i z0)).bind fun r4=>
 E (r4.1,r4.2.1.i0,r4.2.2)) else(
 E (([]:H N),(0:N),F))
/- impl_CanServe -/
def A4q(a0:X6)(a1:H X8):L O:= (A6u a0 a1).bind fun r1=> E r1.2.2
/- impl_OptionAt -/
def A2x(a2:H N)(a3:N)(a0:X6)(a1:X8)(v4:O):L (X0 × O):= if v4 then(
 E ((⟨(0:N),(0:N),(0:N),([]:H X4)⟩:X0),F)) else(
 (S0 a0 a1 a2).bind fun r6=>
 if r6.2 then(
 (Z7 a0 a1 r6.1 a2 a3).bind fun r9=>
 if r9.2 then(
  E (r9.1,T))
 else(
  E ((⟨(0:N),(0:N),(0:N),([]:H X4)⟩:X0),F)))
 else(
 E ((⟨(0:N),(0:N),(0:N),([]:H X4)⟩:X0),F)))
def A4x(a0:X6)(a1:X8)(a2:H N)(a3:N):L (X0 × O):= (A2u a0 a1).bind fun r1=> if r1 then(
 (E4 a3 a1.Ready a1.Due).bind fun r3=>
 A2x a2 a3 a0 a1 (!r3)) else(
 A2x a2 a3 a0 a1 T)
/- slices_Equal_Passage -/
def M4(a0 a1:H X4):P→N→L O
| 0,_=>G
| n+1,v2=>
 if(decide (v2<(a0.length:N))) then(
 (ix a0 v2).bind fun x4=>
 (ix a1 v2).bind fun x5=>
 if((x4.Ship==x5.Ship)&&((x4.Segment==x5.Segment)&&((x4.Toward==x5.Toward)&&((x4.Start==x5.Start)&&((x4.End==x5.End)&&T))))) then(
  M4 a0 a1 n (zB .i64 (v2+(1:N))))
 else(
  E F))
 else(
 E T)
def Z1(a0 a1:H X4):L O:= if((a0.length:N) !=(a1.length:N)) then(
 E F) else(
 M4 a0 a1 bigN (0:N))
/- impl_SameOptions -/
def A2f(a0 a1:X0):L O:= if(a0.Start==a1.Start) then(
 if(a0.Arrival==a1.Arrival) then(
 if(a0.Cost==a1.Cost) then(
  (Z1 a0.Passages a1.Passages).bind fun r4=>
  E r4)
 else(
  E F))
 else(
 E F)) else(
 E F)
/- impl_IsOption -/
def Y3(a2:X0)(a0:X6)(a1:X8):P→N→(H N)→L O
| 0,_,_=>G
| n+1,v1,v2=>
 if(decide (v1<(a2.Passages.length:N))) then(
 (ix a2.Passages v1).bind fun x4=>
 if D1 v2.length ([x4.Segment]:H N).length 8 then(
  Y3 a2 a0 a1 n (zB .i64 (v1+(1:N))) (v2++([x4.Segment]:H N)))
 else G)
 else(
 (A4x a0 a1 v2 a2.Start).bind fun r6=>
 if r6.2 then(
  (A2f r6.1 a2).bind fun r9=>
  E r9)
 else(
  E F))
def A4l(a0:X6)(a1:X8)(a2:X0):L O:= Y3 a2 a0 a1 bigN (0:N) ([]:H N)
/- impl_IsPlan -/
def A0w(a2:H X0)(a1:H X8)(a0:X6):P→N→L O
| 0,_=>G
| n+1,v4=>
 if(decide (v4<(a1.length:N))) then(
 (ix a1 v4).bind fun x6=>
 (ix a2 v4).bind fun x7=>
 (A4l a0 x6 x7).bind fun r9=>
 if r9 then(
  (bnd (a2.length:N) v4 (0:N) a2.length).bind fun p11=>
  (A2v a0 ((a2.drop p11.1).take (p11.2 - p11.1)) x7).bind fun r12=>
  if r12 then(
  A0w a2 a1 a0 n (zB .i64 (v4+(1:N))))
  else(
  E F))
 else(
  E F))
 else(
 E T)
def A6e(a0:X6)(a1:H X8)(a2:H X0):L O:= (V8 a0 a1).bind fun r1=> if r1 then(
 if((a2.length:N) !=(a1.length:N)) then(
 E F)
 else(
 A0w a2 a1 a0 bigN (0:N))) else(
 E F)
/- laws_FnClosures -/
def T3(r2:X6 × (H X8))(r3:(H Xa))(r4:(H X0) × O)(v13:N)(x15:X0)(r5:(H N) × O)(A1u:N→L O):P→N→L O
| 0,_=>G
| n+1,v18=>
 if(decide (v18<(x15.Passages.length:N))) then(
 (ix x15.Passages v18).bind fun x20=>
 (A0p x20 r3).bind fun r21=>
 if r21 then(
  E F)
 else(
  T3 r2 r3 r4 v13 x15 r5 A1u n (zB .i64 (v18+(1:N)))))
 else(
 A1u (zB .i64 (v13+(1:N))))
def Y9(r2:X6 × (H X8))(r3:(H Xa))(r4:(H X0) × O)(v23:N)(x26:X8)(r5:(H N) × O)(A39:N→(H X8)→L O)(v30:H X8):L O:= (A0m r2.1 x26 r3).bind fun r31=> (K0 r2.1 x26).bind fun r32=> if(decide ((r32.length:N)<(r31.length:N))) then(
 E F) else(
 A39 (zB .i64 (v23+(1:N))) v30)
def H4(r2:X6 × (H X8))(r3:(H Xa))(r4:(H X0) × O)(r5:(H N) × O):P→N→(H X8)→L O
| 0,_,_=>G
| n+1,v23,v24=>
 if(decide (v23<(r2.2.length:N))) then(
 (ix r2.2 v23).bind fun x26=>
 (B04 r5.1 v23).bind fun r27=>
 if r27 then(
  Y9 r2 r3 r4 v23 x26 r5 (H4 r2 r3 r4 r5 n) v24)
 else(
  if D1 v24.length ([x26]:H X8).length 40 then(
  Y9 r2 r3 r4 v23 x26 r5 (H4 r2 r3 r4 r5 n) (v24++([x26]:H X8)))
  else G))
 else(
 (J3 r2.1 v24 r3).bind fun r34=>
 (J3 r2.1 r2.2 ([]:H Xa)).bind fun r35=>
 if r34.2 then(
  (A4q r2.1 r2.2).bind fun r37=>
  if(r35.2==r37) then(
  if r4.2 then(
   (A6e r2.1 r2.2 r4.1).bind fun r40=>
   E r40)
  else(
   E T))
  else(
  E F))
 else(
  E F))
def M5(r2:X6 × (H X8))(r3:(H Xa))(r4:(H X0) × O)(r5:(H N) × O):P→N→L O
| 0,_=>G
| n+1,v13=>
 if(decide (v13<(r4.1.length:N))) then(
 (ix r4.1 v13).bind fun x15=>
 (A3g x15 r3).bind fun r16=>
 if r16 then(
  E F)
 else(
  T3 r2 r3 r4 v13 x15 r5 (M5 r2 r3 r4 r5 n) bigN (0:N)))
 else(
 H4 r2 r3 r4 r5 bigN (0:N) ([]:H X8))
def A5k(a0:H N):L O:= if(decide ((1048576:N)<(a0.length:N))) then(
 E T) else(
 (A3s a0).bind fun r2=>
 (A1v a0 (90:N) r2.1.Chart).bind fun r3=>
 (J3 r2.1 r2.2 r3).bind fun r4=>
 (A03 r2.1 r2.2 r3).bind fun r5=>
 (V8 r2.1 r2.2).bind fun r6=>
 if r6 then(
 (R9 r2.1.Chart r3).bind fun r9=>
 if r9 then(
  if r5.2 then(
  if(r4.2==((r5.1.length:N)==(0:N))) then(
   M5 r2 r3 r4 r5 bigN (0:N))
  else(
   E F))
  else(
  E F))
 else(
  E F))
 else(
 E F))
end Go.Vi
