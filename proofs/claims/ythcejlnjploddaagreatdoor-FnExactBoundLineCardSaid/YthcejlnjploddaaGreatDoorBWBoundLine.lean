/-
Walks. No condition.
-/
import Derived.Test.YthcejlnjploddaaGreatDoorBNf
import Derived.Test.YthcejlnjploddaaGreatDoorChecked
import Derived.Test.YthcejlnjploddaaGreatDoorBSh
import Derived.Test.YthcejlnjploddaaGreatDoorBVi42
import Derived.KernelRfl
import Derived.Test.YthcejlnjploddaaGreatDoorBWBoundLinec
namespace Go.Vi
open Go.Proofs
set_option linter.all false
set_option maxRecDepth 4000
set_option maxHeartbeats 2000000
open Nat renaming reduceBEq → A, reduceMul → B, reduceAdd → C, reduceDiv → E, le_of_ble_eq_true → uf
open Int renaming reduceBEq → F
attribute [local irreducible] go Ba Ja
open List renaming map → W, map_nil → Z, all_eq_true → I, all_cons → zA, all_nil → zB, cons_append → zD, nil_append → zE, length_map → zF
open Tryz renaming prog → X
open Xc renaming row → Y
open Xb renaming row → zC
open Bool renaming true → T, false → G
open Option renaming some → H, none → L
open _root_ renaming List → N, Option → O, Int → P, Bool → Q, Nat → U, rfl → V
def XO:Hw:=([(8,[2,5,6,13,14,15],[2],[704,768])],[])
def eB:=fun a1 (a0:X4) (k_:P→(N X3)→(N Xa)→O Q)=>∀{v1 v2 v3} {zr},k_ v1 v2 v3=H zr→Kh X 161 XO 8 [2,5,6,13,14,15] [2] [704,768] ⟨[pB 2,pW 5 704,pW 6 768,pL 13 X0.row a1,pI 14 (a1.length:P),pI 15 v1],[(2,([aI a0.Forecast.Tide.Mean,aM Y a0.Forecast.Tide.Parts,aM X9.row a0.Forecast.Surges,aM X7.row a0.Chart.Points,aM X2.row a0.Chart.Segments,aM X6.row a0.Fleet,aI a0.Regime.Gap,aB a0.Regime.NoMeet]++dm a0.Crew.row))],[(704,5,W X3.row v2),(768,4,W Xa.row v3)]⟩ (A7 [4] [.sc (.v (.bool zr))])
theorem A6v{a1 a0}{n:U}:eB a1 a0 (Gl a1 a0 n):=by
 induction n with
 | zero=>intro _ _ _ r h; cases h
 | succ n ih=>
  intro v1 v2 v3 r h σ hσ;rw[Gl] at h;have s0:=fun(r10:Xa)=> @Ap (W Xa.row ([r10]:N Xa))
  exact gc
instance A1g:Ct 161 (∀{a0} {a1} {r},Dt a0 a1=H r→FC X 161 [.ag (X4.row a0),.sc (.sl (W X0.row a1))] [.sc (.v (.bool r))]):=by
 refine⟨fun h=> ?_⟩;unfold Dt at h;refine A4 mixed XO [4] 79 ?_;have s0:= @Ap (W X3.row ([]:N X3));have s1:= @Ap (W Xa.row ([]:N Xa));have k0:= @A6v;exact gc
def Pi:N (N U × AItem):= [([],(L,.load 25 (S 3) T 12)),([],(L,.mv 26 (S 1))),([1],(L,.call 27 162 [(S 26)])),([],(L,.load 28 (S 5) T 4)),([3],(L,.bslice 29 4 [.int .i64 0,.int .i64 0,.int .i64 0,.sl []] 1 [(0,(S 28))])),([2,4,2],(L,.app 30 4 48 (S 27) (S 29))),([0,5,5],(L,.call 31 161 [(S 25),(S 30)])),([6,6,0,1,2,3,4,5,6],(L,.mv 6 (S 31)))]
def XP:Hw:=([(6,[1,3,5,9,10,11],[3,5],[])],[])
abbrev Ci(a1:N X0)(a0:X4)(a2:X0)(r9:Q)(wo2_:AV)(c0_ c1_:Q)(c2_ c3_:Q)(c4_ c5_:Q)(c6_ c7_:Q)(bx_:N (U × N AC))(rs_:Rows):St:=⟨[(1,vc (aL (W X0.row a1))),(3,vc (.pb 3 0)),(5,vc (.pb 5 0)),(25,bif c0_ then va ([aI a0.Forecast.Tide.Mean,aL (W Y a0.Forecast.Tide.Parts),aL (W X9.row a0.Forecast.Surges),aL (W X7.row a0.Chart.Points),aL (W X2.row a0.Chart.Segments),aL (W X6.row a0.Fleet),aI a0.Regime.Gap,aB a0.Regime.NoMeet]++dm a0.Crew.row) else .undef),(26,bif c1_ then vc (aL (W X0.row a1)) else .undef),(27,bif c2_ then wo2_ else .undef),(28,bif c3_ then va (dm a2.row) else .undef),(29,bif c4_ then vc (.own 1856) else .undef),(30,bif c5_ then vc (.own 1728) else .undef),(31,bif c6_ then vc (aB r9) else .undef),(6,bif c7_ then vc (aB r9) else .undef)],bx_,rs_⟩
abbrev Jv(a1:N X0)(a0:X4)(a2:X0)(r6:(N X0))(r9:Q):St:=(Ci a1 a0 a2 r9 (vc (.undef)) T T T T T T T T [(3,([aI a0.Forecast.Tide.Mean,aL (W Y a0.Forecast.Tide.Parts),aL (W X9.row a0.Forecast.Surges),aL (W X7.row a0.Chart.Points),aL (W X2.row a0.Chart.Segments),aL (W X6.row a0.Fleet),aI a0.Regime.Gap,aB a0.Regime.NoMeet]++dm a0.Crew.row)),(5,(dm a2.row))] [(1728,4,W X0.row (r6++([a2]:N X0))),(1856,4,W X0.row ([a2]:N X0))])
theorem A6w(a1 a0 a2 r6 r9)(h6:Ep a1=H r6)(h7:(A3 r6.length ([a2]:N X0).length 48)=T)(h9:Dt a0 (r6++([a2]:N X0))=H r9):∀(f:U) (b0 b6 b7:Q),Ad X Pi (Jv a1 a0 a2 r6 r9) f [b0,T,T,T,T,T,b6,b7] (Ci a1 a0 a2 r9 (vc (.undef)) b0 T T T T T b6 b7 [(3,([aI a0.Forecast.Tide.Mean,aL (W Y a0.Forecast.Tide.Parts),aL (W X9.row a0.Forecast.Surges),aL (W X7.row a0.Chart.Points),aL (W X2.row a0.Chart.Segments),aL (W X6.row a0.Fleet),aI a0.Regime.Gap,aB a0.Regime.NoMeet]++dm a0.Crew.row)),(5,(dm a2.row))] [(1728,4,W X0.row (r6++([a2]:N X0))),(1856,4,W X0.row ([a2]:N X0))]):=by
 intro f
 induction f with
 | zero=>
  intro b0 b6 b7 h;obtain rfl:b0=T:=I.1 h b0 (by simp);obtain rfl:b6=T:=I.1 h b6 (by simp);obtain rfl:b7=T:=I.1 h b7 (by simp);rfl
 | succ f ih=>
  intro b0 b6 b7;refine Af ⟨?_,?_,?_,?_,?_,?_,?_,?_,⟨⟩⟩<;>try first | (intro h; cases h; done) | (intro h0 hw; obtain rfl:=hz h0 rfl; (try obtain rfl:=hq hw 0 rfl rfl); (try obtain rfl:=hq hw 6 rfl rfl); refine np ?_; simp only[Ci,A5,A6,A2,A,B,C,E,F,J]; exact ih _ _ _)
  ·intro h0 hw;obtain rfl:=hz h0 rfl;obtain rfl:=hq hw 0 rfl rfl;refine np ?_;try simp only[Ci,A5,A6,A2,A,B,C,E,F,J]
   refine E4 (Ag A1g h9) V (E2 V) (by simp only[St.fresh,zA,zB,Ah]; simp[AV.cells,V1.cells,AC.uses]) (uf V) ?_;try simp only[A2,A,B,C,E,F,J]
   exact ih T T b7
theorem cN(a1 a0 a2 r6 r9)(h6:Ep a1=H r6)(h7:(A3 r6.length ([a2]:N X0).length 48)=T)(h9:Dt a0 (r6++([a2]:N X0))=H r9):∀(f:U) (b0:Q),Ad X Pi (Jv a1 a0 a2 r6 r9) f [b0,T,T,T,T,G,G,G] (Ci a1 a0 a2 r9 (vc (.own 1728)) b0 T T T T G G G [(3,([aI a0.Forecast.Tide.Mean,aL (W Y a0.Forecast.Tide.Parts),aL (W X9.row a0.Forecast.Surges),aL (W X7.row a0.Chart.Points),aL (W X2.row a0.Chart.Segments),aL (W X6.row a0.Fleet),aI a0.Regime.Gap,aB a0.Regime.NoMeet]++dm a0.Crew.row)),(5,(dm a2.row))] [(1728,4,W X0.row r6),(1856,4,W X0.row ([a2]:N X0))]):=by
 intro f
 induction f with
 | zero=>intro b0 h; simp at h
 | succ f ih=>
  intro b0;refine Af ⟨?_,?_,?_,?_,?_,?_,?_,?_,⟨⟩⟩<;>try first | (intro h; cases h; done) | (intro _ hw; simp at hw; done) | (intro h0 hw; obtain rfl:=hz h0 rfl; refine np ?_; simp only[Ci,A5,A6,A2,A,B,C,E,F,J]; exact ih _)
  ·intro h0 hw;refine np ?_;try simp only[h7,Ci,A5,A6,A2,A,B,C,E,F,J]
   exact A6w a1 a0 a2 r6 r9 h6 h7 h9 _ b0 G G
theorem A6x(a1 a0 a2 r6 r9)(h6:Ep a1=H r6)(h7:(A3 r6.length ([a2]:N X0).length 48)=T)(h9:Dt a0 (r6++([a2]:N X0))=H r9):∀(f:U) (b0 b3:Q),Ad X Pi (Jv a1 a0 a2 r6 r9) f [b0,T,T,b3,G,G,G,G] (Ci a1 a0 a2 r9 (vc (.own 1728)) b0 T T b3 G G G G [(3,([aI a0.Forecast.Tide.Mean,aL (W Y a0.Forecast.Tide.Parts),aL (W X9.row a0.Forecast.Surges),aL (W X7.row a0.Chart.Points),aL (W X2.row a0.Chart.Segments),aL (W X6.row a0.Fleet),aI a0.Regime.Gap,aB a0.Regime.NoMeet]++dm a0.Crew.row)),(5,(dm a2.row))] [(1728,4,W X0.row r6)]):=by
 intro f
 induction f with
 | zero=>intro b0 b3 h; simp at h
 | succ f ih=>
  intro b0 b3;refine Af ⟨?_,?_,?_,?_,?_,?_,?_,?_,⟨⟩⟩<;>try first | (intro h; cases h; done) | (intro _ hw; simp at hw; done) | (intro h0 hw; obtain rfl:=hz h0 rfl; refine np ?_; simp only[Ci,A5,A6,A2,A,B,C,E,F,J]; exact ih _ _)
  ·intro h0 hw;obtain rfl:=hq hw 3 rfl rfl;refine np ?_;try simp only[Ci,A5,A6,A2,A,B,C,E,F,J]
   refine Aq (es:=W X0.row ([a2]:N X0)) V (by simp only[St.fresh,zA,zB,Ah]; simp[AV.cells,V1.cells,AC.uses]) ?_;try simp only[A2,A,B,C,E,F,J]
   exact cN a1 a0 a2 r6 r9 h6 h7 h9 _ b0
theorem A6y(a1 a0 a2 r6 r9)(h6:Ep a1=H r6)(h7:(A3 r6.length ([a2]:N X0).length 48)=T)(h9:Dt a0 (r6++([a2]:N X0))=H r9):∀(f:U) (b0 b1:Q),Ad X Pi (Jv a1 a0 a2 r6 r9) f [b0,b1,G,T,T,G,G,G] (Ci a1 a0 a2 r9 (vc (.own 1728)) b0 b1 G T T G G G [(3,([aI a0.Forecast.Tide.Mean,aL (W Y a0.Forecast.Tide.Parts),aL (W X9.row a0.Forecast.Surges),aL (W X7.row a0.Chart.Points),aL (W X2.row a0.Chart.Segments),aL (W X6.row a0.Fleet),aI a0.Regime.Gap,aB a0.Regime.NoMeet]++dm a0.Crew.row)),(5,(dm a2.row))] [(1856,4,W X0.row ([a2]:N X0))]):=by
 intro f
 induction f with
 | zero=>intro b0 b1 h; simp at h
 | succ f ih=>
  intro b0 b1;refine Af ⟨?_,?_,?_,?_,?_,?_,?_,?_,⟨⟩⟩<;>try first | (intro h; cases h; done) | (intro _ hw; simp at hw; done) | (intro h0 hw; obtain rfl:=hz h0 rfl; refine np ?_; simp only[Ci,A5,A6,A2,A,B,C,E,F,J]; exact ih _ _)
  ·intro h0 hw;obtain rfl:=hq hw 1 rfl rfl;refine⟨[],[(L,.keep [1,3,5,25,26,27,28,29,30,31,6] [3,5] [1728,1856])],V,V,?_⟩;try simp only[Ci,A5,A6,zE,zD,A2,A,B,C,E,F,J]
   refine KY (Ag bc h6) V (by simp only[St.fresh,zA,zB,Ah]; simp[AV.cells,V1.cells,AC.uses]) (uf V) ?_;try simp only[A2,A,B,C,E,F,J]
   exact cN a1 a0 a2 r6 r9 h6 h7 h9 _ b0
theorem A6z(a1 a0 a2 r6 r9)(h6:Ep a1=H r6)(h7:(A3 r6.length ([a2]:N X0).length 48)=T)(h9:Dt a0 (r6++([a2]:N X0))=H r9):∀(f:U) (b0 b1 b3:Q),Ad X Pi (Jv a1 a0 a2 r6 r9) f [b0,b1,G,b3,G,G,G,G] (Ci a1 a0 a2 r9 (vc (.own 1728)) b0 b1 G b3 G G G G [(3,([aI a0.Forecast.Tide.Mean,aL (W Y a0.Forecast.Tide.Parts),aL (W X9.row a0.Forecast.Surges),aL (W X7.row a0.Chart.Points),aL (W X2.row a0.Chart.Segments),aL (W X6.row a0.Fleet),aI a0.Regime.Gap,aB a0.Regime.NoMeet]++dm a0.Crew.row)),(5,(dm a2.row))] []):=by
 intro f
 induction f with
 | zero=>intro b0 b1 b3 h; simp at h
 | succ f ih=>
  intro b0 b1 b3;refine Af ⟨?_,?_,?_,?_,?_,?_,?_,?_,⟨⟩⟩<;>try first | (intro _ hw; simp at hw; done) | (intro h0 hw; obtain rfl:=hz h0 rfl; refine np ?_; simp only[Ci,A5,A6,A2,A,B,C,E,F,J]; exact ih _ _ _)
  ·intro h0 hw;obtain rfl:=hq hw 1 rfl rfl;refine np ?_;try simp only[Ci,A5,A6,A2,A,B,C,E,F,J]
   refine KY (Ag bc h6) V (by simp only[St.fresh,zA,zB,Ah]; simp[AV.cells,V1.cells,AC.uses]) (uf V) ?_;try simp only[A2,A,B,C,E,F,J]
   exact A6x a1 a0 a2 r6 r9 h6 h7 h9 _ b0 b3
  ·intro h0 hw;obtain rfl:=hq hw 3 rfl rfl;refine np ?_;try simp only[Ci,A5,A6,A2,A,B,C,E,F,J]
   refine Aq (es:=W X0.row ([a2]:N X0)) V (by simp only[St.fresh,zA,zB,Ah]; simp[AV.cells,V1.cells,AC.uses]) ?_;try simp only[A2,A,B,C,E,F,J]
   exact A6y a1 a0 a2 r6 r9 h6 h7 h9 _ b0 b1
def eC:=fun a1 (a0:X4) (a2:X0) (k_:P→O Q)=>∀{v1} {zr},k_ v1=H zr→Kh X 134 XP 6 [1,3,5,9,10,11] [3,5] [] ⟨[pL 1 X0.row a1,pB 3,pB 5,pL 9 X0.row a1,pI 10 (a1.length:P),pI 11 v1],[(3,([aI a0.Forecast.Tide.Mean,aM Y a0.Forecast.Tide.Parts,aM X9.row a0.Forecast.Surges,aM X7.row a0.Chart.Points,aM X2.row a0.Chart.Segments,aM X6.row a0.Fleet,aI a0.Regime.Gap,aB a0.Regime.NoMeet]++dm a0.Crew.row)),(5,(dm a2.row))],[]⟩ (A7 [6] [.sc (.v (.bool zr))])
theorem A60{a1 a0 a2}{n:U}:eC a1 a0 a2 (HU a1 a0 a2 n):=by
 induction n with
 | zero=>intro _ r h; cases h
 | succ n ih=>
  intro v1 r h σ hσ S hS;refine ev hS ?_;rw[HU] at h;refine AM (AA ?_);obtain⟨h2,h⟩|⟨h2,h⟩:=ic h
  ·obtain⟨x3,h3,h⟩:=ob h;try simp only[hσ,h2,h3,A,B,C,E,F,J]
   refine Bv ?_;obtain⟨r4,h4,h⟩:=ob h;try simp only[h2,h3,A,B,C,E,F,J]
   refine AE (Ag Ub h4) ?_;obtain⟨h5,h⟩|⟨h5,h⟩:=ic h
   ·try simp only[h2,h3,h5,A,B,C,E,F,J]
    cases h;exact t0
   ·try simp only[h2,h3,h5,A,B,C,E,F,J]
    refine ih h ?_ (by kernel_rfl);try simp only[h2,h3,h5,A,B,C,E,F,J,pL,aM,Z]
  ·try simp only[hσ,h2,A,B,C,E,F,J]
   obtain⟨r6,h6,h⟩:=ob h;obtain⟨h7,h⟩:=AR h;obtain⟨r9,h9,h⟩:=ob h;refine E3 (ks:= [1,3,5]) (bs:= [3,5]) (rs:= []) (τ:=(Jv a1 a0 a2 r6 r9)) V (A6z a1 a0 a2 r6 r9 h6 h7 h9 _ G G G) ?_;simp only[Jv,Ci,A5];try simp only[h2,h7,A,B,C,E,F,J]
   cases h;exact t0
instance A1h:Ct 134 (∀{a0} {a1} {a2} {r},Mv a0 a1 a2=H r→FC X 134 [.ag (X4.row a0),.sc (.sl (W X0.row a1)),.ag (X0.row a2)] [.sc (.v (.bool r))]):=by
 refine⟨fun h=> ?_⟩;unfold Mv at h;refine A4 mixed XP [6] 32 ?_;have k0:= @A60;exact gc
def Pj:N (N U × AItem):= [([],(L,.mv 40 (S 0))),([],(L,.mv 41 (S 0))),([],(L,.mv 42 (S 0))),([],(L,.mv 43 (S 0))),([3],(L,.nilc 44 (S 43))),([4],(L,.faddr 45 (S 44) 15)),([5],(L,.load 46 (S 45) G 1)),([6],(L,.call 47 62 [(S 46)])),([],(L,.load 48 (S 2) T 2)),([0,0,3,4,5,6,7],(L,.nilc 49 (S 40))),([9,0,3,4,5,6,7],(L,.faddr 50 (S 49) 16)),([10,7,7,0,3,4,5,6,7],(L,.store (S 50) (S 47) 1)),([1,0,1,3,4,5,6,7,8,9,10,11],(L,.nilc 51 (S 41))),([12,0,1,3,4,5,6,7,8,9,10,11],(L,.faddr 52 (S 51) 17)),([13,8,11,0,1,3,4,5,6,7,8,9,10,11],(L,.store (S 52) (S 48) 2)),([2,0,1,2,3,4,5,6,7,8,9,10,11,12,13,14],(L,.nilc 53 (S 42))),([15,0,1,2,3,4,5,6,7,8,9,10,11,12,13,14],(L,.faddr 54 (S 53) 19)),([16,14,0,1,2,3,4,5,6,7,8,9,10,11,12,13,14],(L,.store (S 54) (KB T) 1))]
def FZ:N (N U × AItem):= [([],(L,.mv 79 (S 0))),([],(L,.mv 80 (S 0))),([],(L,.mv 81 (S 0))),([2],(L,.nilc 82 (S 81))),([3],(L,.faddr 83 (S 82) 14)),([4],(L,.load 84 (S 83) G 1)),([],(L,.load 85 (S 5) T 4)),([6],(L,.bslice 86 4 [.int .i64 0,.int .i64 0,.int .i64 0,.sl []] 1 [(0,(S 85))])),([5,7],(L,.app 87 4 48 (S 84) (S 86))),([],(L,.mv 88 (S 0))),([9],(L,.nilc 89 (S 88))),([10],(L,.faddr 90 (S 89) 15)),([11],(L,.load 91 (S 90) G 1)),([],(L,.mv 92 (S 4))),([13],(L,.bslice 93 1 [.int .i64 0] 1 [(0,(S 92))])),([12,14,8],(L,.app 94 1 8 (S 91) (S 93))),([0,0,2,3,4,5,6,7,8,12,15],(L,.nilc 95 (S 79))),([16,0,2,3,4,5,6,7,8,12,15],(L,.faddr 96 (S 95) 14)),([17,8,15,0,2,3,4,5,6,7,8,12,15],(L,.store (S 96) (S 87) 1)),([1,0,1,2,3,4,5,6,7,8,9,10,11,12,13,14,15,16,17,18],(L,.nilc 97 (S 80))),([19,0,1,2,3,4,5,6,7,8,9,10,11,12,13,14,15,16,17,18],(L,.faddr 98 (S 97) 15)),([20,15,18,0,1,2,3,4,5,6,7,8,9,10,11,12,13,14,15,16,17,18],(L,.store (S 98) (S 94) 1))]
def Jz:N (N U × AItem):= [([],(L,.mv 101 (S 0))),([],(L,.mv 102 (S 0))),([],(L,.mv 103 (S 0))),([2],(L,.nilc 104 (S 103))),([3],(L,.faddr 105 (S 104) 14)),([4],(L,.load 106 (S 105) G 1)),([],(L,.mv 107 (S 3))),([5,6],(L,.slc 108 4 (S 106) L (H (S 107)) L)),([],(L,.mv 109 (S 0))),([8],(L,.nilc 110 (S 109))),([9],(L,.faddr 111 (S 110) 15)),([10],(L,.load 112 (S 111) G 1)),([],(L,.mv 113 (S 3))),([11,12],(L,.slc 114 1 (S 112) L (H (S 113)) L)),([0,0,2,3,4,5,6,7,11],(L,.nilc 115 (S 101))),([14,0,2,3,4,5,6,7,11],(L,.faddr 116 (S 115) 14)),([15,7,0,2,3,4,5,6,7,11],(L,.store (S 116) (S 108) 1)),([1,0,1,2,3,4,5,6,7,8,9,10,11,12,13,14,15,16],(L,.nilc 117 (S 102))),([17,0,1,2,3,4,5,6,7,8,9,10,11,12,13,14,15,16],(L,.faddr 118 (S 117) 15)),([18,13,16,0,1,2,3,4,5,6,7,8,9,10,11,12,13,14,15,16],(L,.store (S 118) (S 114) 1))]
def QN:Hw:=([(8,[0,2],[99999999999,2],[90000,90001,90002]),(21,[0,3,61,62,63],[99999999999],[90000,90001,90002])],[])
abbrev CK(r1:Xj)(c0_ c1_:Q)(c2_ c3_:Q)(c4_ c5_:Q)(c6_ c7_:Q)(c8_ c9_:Q)(c10_ c12_:Q)(c13_ c15_ c16_:Q)(bx_:N (U × N AC))(rs_:Rows):St:=⟨[(0,vc (.pb 99999999999 0)),(2,vc (.pb 2 0)),(40,bif c0_ then vc (.pb 99999999999 0) else .undef),(41,bif c1_ then vc (.pb 99999999999 0) else .undef),(42,bif c2_ then vc (.pb 99999999999 0) else .undef),(43,bif c3_ then vc (.pb 99999999999 0) else .undef),(44,bif c4_ then vc (.pb 99999999999 0) else .undef),(45,bif c5_ then vc (.pb 99999999999 15) else .undef),(46,bif c6_ then vc (.own 90001) else .undef),(47,bif c7_ then vc (.own 3008) else .undef),(48,bif c8_ then va [aI r1.i0,aI r1.i1] else .undef),(49,bif c9_ then vc (.pb 99999999999 0) else .undef),(50,bif c10_ then vc (.pb 99999999999 16) else .undef),(51,bif c12_ then vc (.pb 99999999999 0) else .undef),(52,bif c13_ then vc (.pb 99999999999 17) else .undef),(53,bif c15_ then vc (.pb 99999999999 0) else .undef),(54,bif c16_ then vc (.pb 99999999999 19) else .undef)],bx_,rs_⟩
abbrev Jw(F_w0:FuncId)(caps_w0:N D)(a0:Xf)(r1:Xj)(r7:(N P)):St:=(CK r1 T T T T T T T T T T T T T T T [(99999999999,([aI a0.h.Forecast.Tide.Mean,aL (W Y a0.h.Forecast.Tide.Parts),aL (W X9.row a0.h.Forecast.Surges),aL (W X7.row a0.h.Chart.Points),aL (W X2.row a0.h.Chart.Segments),aL (W X6.row a0.h.Fleet),aI a0.h.Regime.Gap,aB a0.h.Regime.NoMeet]++dm a0.h.Crew.row++ [aL (W (rL X0.row) a0.choices),.dat (.clo F_w0 caps_w0),.own 90000,.own 90001,.own 3008,aI r1.i0,aI r1.i1,aB T])),(2,[aI r1.i0,aI r1.i1])] [(90000,4,W X0.row a0.plan),(90001,1,W rI a0.choice),(90002,1,W rI a0.best),(3008,1,W rI r7)])
theorem A61(F_w0:FuncId)(caps_w0:N D)(a0:Xf)(r1:Xj)(v5:Q)(r7)(h7:Bi a0.choice=H r7):∀(f:U) (b15:Q),Ad X Pj (Jw F_w0 caps_w0 a0 r1 r7) f [T,T,T,T,T,T,T,T,T,T,T,T,T,T,T,b15,T,T] (CK r1 T T T T T T T T T T T T T b15 T [(99999999999,([aI a0.h.Forecast.Tide.Mean,aL (W Y a0.h.Forecast.Tide.Parts),aL (W X9.row a0.h.Forecast.Surges),aL (W X7.row a0.h.Chart.Points),aL (W X2.row a0.h.Chart.Segments),aL (W X6.row a0.h.Fleet),aI a0.h.Regime.Gap,aB a0.h.Regime.NoMeet]++dm a0.h.Crew.row++ [aL (W (rL X0.row) a0.choices),.dat (.clo F_w0 caps_w0),.own 90000,.own 90001,.own 3008,aI r1.i0,aI r1.i1,aB T])),(2,[aI r1.i0,aI r1.i1])] [(90000,4,W X0.row a0.plan),(90001,1,W rI a0.choice),(90002,1,W rI a0.best),(3008,1,W rI r7)]):=by
 intro f
 induction f with
 | zero=>
  intro b15 h;obtain rfl:b15=T:=I.1 h b15 (by simp);rfl
 | succ f ih=>
  intro b15;refine Af ⟨?_,?_,?_,?_,?_,?_,?_,?_,?_,?_,?_,?_,?_,?_,?_,?_,?_,?_,⟨⟩⟩<;>try first | (intro h; cases h; done) | (intro h0 hw; obtain rfl:=hz h0 rfl; refine np ?_; simp only[CK,A5,A6,A2,A,B,C,E,F,J]; exact ih _)
theorem A62(F_w0:FuncId)(caps_w0:N D)(a0:Xf)(r1:Xj)(v5:Q)(r7)(h7:Bi a0.choice=H r7):∀(f:U) (b2 b12:Q) (b15 b16:Q),Ad X Pj (Jw F_w0 caps_w0 a0 r1 r7) f [T,T,b2,T,T,T,T,T,T,T,T,T,b12,T,T,b15,b16,G] (CK r1 T T b2 T T T T T T T T b12 T b15 b16 [(99999999999,([aI a0.h.Forecast.Tide.Mean,aL (W Y a0.h.Forecast.Tide.Parts),aL (W X9.row a0.h.Forecast.Surges),aL (W X7.row a0.h.Chart.Points),aL (W X2.row a0.h.Chart.Segments),aL (W X6.row a0.h.Fleet),aI a0.h.Regime.Gap,aB a0.h.Regime.NoMeet]++dm a0.h.Crew.row++ [aL (W (rL X0.row) a0.choices),.dat (.clo F_w0 caps_w0),.own 90000,.own 90001,.own 3008,aI r1.i0,aI r1.i1,aB v5])),(2,[aI r1.i0,aI r1.i1])] [(90000,4,W X0.row a0.plan),(90001,1,W rI a0.choice),(90002,1,W rI a0.best),(3008,1,W rI r7)]):=by
 intro f
 induction f with
 | zero=>intro b2 b12 b15 b16 h; simp at h
 | succ f ih=>
  intro b2 b12 b15 b16;refine Af ⟨?_,?_,?_,?_,?_,?_,?_,?_,?_,?_,?_,?_,?_,?_,?_,?_,?_,?_,⟨⟩⟩<;>try first | (intro h; cases h; done) | (intro h0 hw; obtain rfl:=hz h0 rfl; (try obtain rfl:=hq hw 2 rfl rfl); (try obtain rfl:=hq hw 12 rfl rfl); (try obtain rfl:=hq hw 15 rfl rfl); refine np ?_; simp only[CK,A5,A6,A2,A,B,C,E,F,J]; exact ih _ _ _ _)
  ·intro h0 hw;obtain rfl:=hq hw 2 rfl rfl;obtain rfl:=hq hw 12 rfl rfl;obtain rfl:=hq hw 16 rfl rfl;refine np ?_;try simp only[CK,A5,A6,A2,A,B,C,E,F,J]
   exact A61 F_w0 caps_w0 a0 r1 v5 r7 h7 _ b15
theorem A63(F_w0:FuncId)(caps_w0:N D)(a0:Xf)(r1:Xj)(v5:Q)(r7)(h7:Bi a0.choice=H r7):∀(f:U) (b1 b2:Q) (b8 b9:Q) (b12 b13:Q),Ad X Pj (Jw F_w0 caps_w0 a0 r1 r7) f [T,b1,b2,T,T,T,T,T,b8,b9,T,T,b12,b13,G,G,G,G] (CK r1 T b1 b2 T T T T T b8 b9 T b12 b13 G G [(99999999999,([aI a0.h.Forecast.Tide.Mean,aL (W Y a0.h.Forecast.Tide.Parts),aL (W X9.row a0.h.Forecast.Surges),aL (W X7.row a0.h.Chart.Points),aL (W X2.row a0.h.Chart.Segments),aL (W X6.row a0.h.Fleet),aI a0.h.Regime.Gap,aB a0.h.Regime.NoMeet]++dm a0.h.Crew.row++ [aL (W (rL X0.row) a0.choices),.dat (.clo F_w0 caps_w0),.own 90000,.own 90001,.own 3008,aI a0.least.i0,aI a0.least.i1,aB v5])),(2,[aI r1.i0,aI r1.i1])] [(90000,4,W X0.row a0.plan),(90001,1,W rI a0.choice),(90002,1,W rI a0.best),(3008,1,W rI r7)]):=by
 intro f
 induction f with
 | zero=>intro b1 b2 b8 b9 b12 b13 h; simp at h
 | succ f ih=>
  intro b1 b2 b8 b9 b12 b13;refine Af ⟨?_,?_,?_,?_,?_,?_,?_,?_,?_,?_,?_,?_,?_,?_,?_,?_,?_,?_,⟨⟩⟩<;>try first | (intro h; cases h; done) | (intro _ hw; simp at hw; done) | (intro h0 hw; obtain rfl:=hz h0 rfl; (try obtain rfl:=hq hw 1 rfl rfl); (try obtain rfl:=hq hw 8 rfl rfl); (try obtain rfl:=hq hw 9 rfl rfl); (try obtain rfl:=hq hw 12 rfl rfl); refine np ?_; simp only[CK,A5,A6,A2,A,B,C,E,F,J]; exact ih _ _ _ _ _ _)
  ·intro h0 hw;obtain rfl:=hq hw 1 rfl rfl;obtain rfl:=hq hw 8 rfl rfl;obtain rfl:=hq hw 9 rfl rfl;obtain rfl:=hq hw 13 rfl rfl;refine np ?_;try simp only[CK,A5,A6,A2,A,B,C,E,F,J]
   exact A62 F_w0 caps_w0 a0 r1 v5 r7 h7 _ b2 b12 G G
theorem A65(F_w0:FuncId)(caps_w0:N D)(a0:Xf)(r1:Xj)(v5:Q)(r7)(h7:Bi a0.choice=H r7):∀(f:U) (b0 b1:Q) (b2 b3:Q) (b4 b5:Q) (b8 b9 b10:Q),Ad X Pj (Jw F_w0 caps_w0 a0 r1 r7) f [b0,b1,b2,b3,b4,b5,T,T,b8,b9,b10,G,G,G,G,G,G,G] (CK r1 b0 b1 b2 b3 b4 b5 T T b8 b9 b10 G G G G [(99999999999,([aI a0.h.Forecast.Tide.Mean,aL (W Y a0.h.Forecast.Tide.Parts),aL (W X9.row a0.h.Forecast.Surges),aL (W X7.row a0.h.Chart.Points),aL (W X2.row a0.h.Chart.Segments),aL (W X6.row a0.h.Fleet),aI a0.h.Regime.Gap,aB a0.h.Regime.NoMeet]++dm a0.h.Crew.row++ [aL (W (rL X0.row) a0.choices),.dat (.clo F_w0 caps_w0),.own 90000,.own 90001,.own 90002,aI a0.least.i0,aI a0.least.i1,aB v5])),(2,[aI r1.i0,aI r1.i1])] [(90000,4,W X0.row a0.plan),(90001,1,W rI a0.choice),(90002,1,W rI a0.best),(3008,1,W rI r7)]):=by
 intro f
 induction f with
 | zero=>intro b0 b1 b2 b3 b4 b5 b8 b9 b10 h; simp at h
 | succ f ih=>
  intro b0 b1 b2 b3 b4 b5 b8 b9 b10;refine Af ⟨?_,?_,?_,?_,?_,?_,?_,?_,?_,?_,?_,?_,?_,?_,?_,?_,?_,?_,⟨⟩⟩<;>try first | (intro h; cases h; done) | (intro _ hw; simp at hw; done) | (intro h0 hw; obtain rfl:=hz h0 rfl; (try obtain rfl:=hq hw 0 rfl rfl); (try obtain rfl:=hq hw 3 rfl rfl); (try obtain rfl:=hq hw 4 rfl rfl); (try obtain rfl:=hq hw 5 rfl rfl); (try obtain rfl:=hq hw 9 rfl rfl); refine np ?_; simp only[CK,A5,A6,A2,A,B,C,E,F,J]; exact ih _ _ _ _ _ _ _ _ _)
  ·intro h0 hw;obtain rfl:=hq hw 0 rfl rfl;obtain rfl:=hq hw 3 rfl rfl;obtain rfl:=hq hw 4 rfl rfl;obtain rfl:=hq hw 5 rfl rfl;obtain rfl:=hq hw 10 rfl rfl;refine np ?_;try simp only[CK,A5,A6,A2,A,B,C,E,F,J]
   exact A63 F_w0 caps_w0 a0 r1 v5 r7 h7 _ b1 b2 b8 b9 G G
theorem A66(F_w0:FuncId)(caps_w0:N D)(a0:Xf)(r1:Xj)(v5:Q)(r7)(h7:Bi a0.choice=H r7):∀(f:U) (b0 b1:Q) (b2 b3:Q) (b4 b5:Q) (b6 b8:Q),Ad X Pj (Jw F_w0 caps_w0 a0 r1 r7) f [b0,b1,b2,b3,b4,b5,b6,G,b8,G,G,G,G,G,G,G,G,G] (CK r1 b0 b1 b2 b3 b4 b5 b6 G b8 G G G G G G [(99999999999,([aI a0.h.Forecast.Tide.Mean,aL (W Y a0.h.Forecast.Tide.Parts),aL (W X9.row a0.h.Forecast.Surges),aL (W X7.row a0.h.Chart.Points),aL (W X2.row a0.h.Chart.Segments),aL (W X6.row a0.h.Fleet),aI a0.h.Regime.Gap,aB a0.h.Regime.NoMeet]++dm a0.h.Crew.row++ [aL (W (rL X0.row) a0.choices),.dat (.clo F_w0 caps_w0),.own 90000,.own 90001,.own 90002,aI a0.least.i0,aI a0.least.i1,aB v5])),(2,[aI r1.i0,aI r1.i1])] [(90000,4,W X0.row a0.plan),(90001,1,W rI a0.choice),(90002,1,W rI a0.best)]):=by
 intro f
 induction f with
 | zero=>intro b0 b1 b2 b3 b4 b5 b6 b8 h; simp at h
 | succ f ih=>
  intro b0 b1 b2 b3 b4 b5 b6 b8;refine Af ⟨?_,?_,?_,?_,?_,?_,?_,?_,?_,?_,?_,?_,?_,?_,?_,?_,?_,?_,⟨⟩⟩<;>try first | (intro _ hw; simp at hw; done) | (intro h0 hw; obtain rfl:=hz h0 rfl; (try obtain rfl:=hq hw 3 rfl rfl); (try obtain rfl:=hq hw 4 rfl rfl); (try obtain rfl:=hq hw 5 rfl rfl); refine np ?_; simp only[CK,A5,A6,A2,A,B,C,E,F,J]; exact ih _ _ _ _ _ _ _ _)
  ·intro h0 hw;obtain rfl:=hq hw 6 rfl rfl;refine np ?_;try simp only[CK,A5,A6,A2,A,B,C,E,F,J]
   refine E4 (Ag RI h7) V (Db V ⟨Dc,⟨⟩⟩) (by simp only[St.fresh,zA,zB,Ah]; simp[AV.cells,V1.cells,AC.uses]) (uf V) ?_;try simp only[A2,A,B,C,E,F,J]
   exact A65 F_w0 caps_w0 a0 r1 v5 r7 h7 _ b0 b1 b2 b3 b4 b5 b8 G G
abbrev B9(a0:Xf)(x8:N X0)(v9:P)(x19:X0)(wo5_ wo12_:AV)(c0_ c1_:Q)(c2_ c3_:Q)(c4_ c5_:Q)(c6_ c7_:Q)(c8_ c9_:Q)(c10_ c11_:Q)(c12_ c13_:Q)(c14_ c15_:Q)(c16_ c17_:Q)(c19_ c20_:Q)(bx_:N (U × N AC))(rs_:Rows):St:=⟨[(0,vc (.pb 99999999999 0)),(3,vc (aI (a0.plan.length:P))),(4,vc (aI v9)),(5,vc (.pb 5 0)),(61,vc (aL (W X0.row x8))),(62,vc (aI (x8.length:P))),(63,vc (aI v9)),(79,bif c0_ then vc (.pb 99999999999 0) else .undef),(80,bif c1_ then vc (.pb 99999999999 0) else .undef),(81,bif c2_ then vc (.pb 99999999999 0) else .undef),(82,bif c3_ then vc (.pb 99999999999 0) else .undef),(83,bif c4_ then vc (.pb 99999999999 14) else .undef),(84,bif c5_ then wo5_ else .undef),(85,bif c6_ then va (dm x19.row) else .undef),(86,bif c7_ then vc (.own 5504) else .undef),(87,bif c8_ then vc (.own 90000) else .undef),(88,bif c9_ then vc (.pb 99999999999 0) else .undef),(89,bif c10_ then vc (.pb 99999999999 0) else .undef),(90,bif c11_ then vc (.pb 99999999999 15) else .undef),(91,bif c12_ then wo12_ else .undef),(92,bif c13_ then vc (aI v9) else .undef),(93,bif c14_ then vc (.own 5952) else .undef),(94,bif c15_ then vc (.own 90001) else .undef),(95,bif c16_ then vc (.pb 99999999999 0) else .undef),(96,bif c17_ then vc (.pb 99999999999 14) else .undef),(97,bif c19_ then vc (.pb 99999999999 0) else .undef),(98,bif c20_ then vc (.pb 99999999999 15) else .undef)],bx_,rs_⟩
abbrev Ef(F_w0:FuncId)(caps_w0:N D)(a0:Xf)(x8:N X0)(v9:P)(v10:X4)(v11:N (N X0))(v12 v13:P)(v14:Q)(v15:N X0)(v16 v17:N P)(x19:X0):St:=(B9 a0 x8 v9 x19 (vc (.undef)) (vc (.undef)) T T T T T T T T T T T T T T T T T T T T [(99999999999,([aI v10.Forecast.Tide.Mean,aL (W Y v10.Forecast.Tide.Parts),aL (W X9.row v10.Forecast.Surges),aL (W X7.row v10.Chart.Points),aL (W X2.row v10.Chart.Segments),aL (W X6.row v10.Fleet),aI v10.Regime.Gap,aB v10.Regime.NoMeet]++dm v10.Crew.row++ [aL (W (rL X0.row) v11),.dat (.clo F_w0 caps_w0),.own 90000,.own 90001,.own 90002,aI v12,aI v13,aB v14])),(5,(dm x19.row))] [(90000,4,W X0.row (v15++([x19]:N X0))),(90001,1,W rI (v16++([v9]:N P))),(90002,1,W rI v17),(5504,4,W X0.row ([x19]:N X0)),(5952,1,W rI ([v9]:N P))])
theorem A67(F_w0:FuncId)(caps_w0:N D)(a0:Xf)(x8:N X0)(v9)(v10:X4)(v11)(v12)(v13)(v14)(v15:N X0)(v16:N P)(v17)(x19)(h22:(A3 v15.length ([x19]:N X0).length 48)=T)(h23:(A3 v16.length ([v9]:N P).length 8)=T):∀(f:U) (b19:Q),Ad X FZ (Ef F_w0 caps_w0 a0 x8 v9 v10 v11 v12 v13 v14 v15 v16 v17 x19) f [T,T,T,T,T,T,T,T,T,T,T,T,T,T,T,T,T,T,T,b19,T,T] (B9 a0 x8 v9 x19 (vc (.undef)) (vc (.undef)) T T T T T T T T T T T T T T T T T T b19 T [(99999999999,([aI v10.Forecast.Tide.Mean,aL (W Y v10.Forecast.Tide.Parts),aL (W X9.row v10.Forecast.Surges),aL (W X7.row v10.Chart.Points),aL (W X2.row v10.Chart.Segments),aL (W X6.row v10.Fleet),aI v10.Regime.Gap,aB v10.Regime.NoMeet]++dm v10.Crew.row++ [aL (W (rL X0.row) v11),.dat (.clo F_w0 caps_w0),.own 90000,.own 90001,.own 90002,aI v12,aI v13,aB v14])),(5,(dm x19.row))] [(90000,4,W X0.row (v15++([x19]:N X0))),(90001,1,W rI (v16++([v9]:N P))),(90002,1,W rI v17),(5504,4,W X0.row ([x19]:N X0)),(5952,1,W rI ([v9]:N P))]):=by
 intro f
 induction f with
 | zero=>
  intro b19 h;obtain rfl:b19=T:=I.1 h b19 (by simp);rfl
 | succ f ih=>
  intro b19;refine Af ⟨?_,?_,?_,?_,?_,?_,?_,?_,?_,?_,?_,?_,?_,?_,?_,?_,?_,?_,?_,?_,?_,?_,⟨⟩⟩<;>try first | (intro h; cases h; done) | (intro h0 hw; obtain rfl:=hz h0 rfl; refine np ?_; simp only[B9,A5,A6,A2,A,B,C,E,F,J]; exact ih _)
theorem A68(F_w0:FuncId)(caps_w0:N D)(a0:Xf)(x8:N X0)(v9)(v10:X4)(v11)(v12)(v13)(v14)(v15:N X0)(v16:N P)(v17)(x19)(h22:(A3 v15.length ([x19]:N X0).length 48)=T)(h23:(A3 v16.length ([v9]:N P).length 8)=T):∀(f:U) (b1 b9:Q) (b10 b11:Q) (b16 b19 b20:Q),Ad X FZ (Ef F_w0 caps_w0 a0 x8 v9 v10 v11 v12 v13 v14 v15 v16 v17 x19) f [T,b1,T,T,T,T,T,T,T,b9,b10,b11,T,T,T,T,b16,T,T,b19,b20,G] (B9 a0 x8 v9 x19 (vc (.undef)) (vc (.undef)) T b1 T T T T T T T b9 b10 b11 T T T T b16 T b19 b20 [(99999999999,([aI v10.Forecast.Tide.Mean,aL (W Y v10.Forecast.Tide.Parts),aL (W X9.row v10.Forecast.Surges),aL (W X7.row v10.Chart.Points),aL (W X2.row v10.Chart.Segments),aL (W X6.row v10.Fleet),aI v10.Regime.Gap,aB v10.Regime.NoMeet]++dm v10.Crew.row++ [aL (W (rL X0.row) v11),.dat (.clo F_w0 caps_w0),.own 90000,.undef,.own 90002,aI v12,aI v13,aB v14])),(5,(dm x19.row))] [(90000,4,W X0.row (v15++([x19]:N X0))),(90001,1,W rI (v16++([v9]:N P))),(90002,1,W rI v17),(5504,4,W X0.row ([x19]:N X0)),(5952,1,W rI ([v9]:N P))]):=by
 intro f
 induction f with
 | zero=>intro b1 b9 b10 b11 b16 b19 b20 h; simp at h
 | succ f ih=>
  intro b1 b9 b10 b11 b16 b19 b20;refine Af ⟨?_,?_,?_,?_,?_,?_,?_,?_,?_,?_,?_,?_,?_,?_,?_,?_,?_,?_,?_,?_,?_,?_,⟨⟩⟩<;>try first | (intro h; cases h; done) | (intro h0 hw; obtain rfl:=hz h0 rfl; (try obtain rfl:=hq hw 1 rfl rfl); (try obtain rfl:=hq hw 9 rfl rfl); (try obtain rfl:=hq hw 10 rfl rfl); (try obtain rfl:=hq hw 11 rfl rfl); (try obtain rfl:=hq hw 16 rfl rfl); (try obtain rfl:=hq hw 19 rfl rfl); refine np ?_; simp only[B9,A5,A6,A2,A,B,C,E,F,J]; exact ih _ _ _ _ _ _ _)
  ·intro h0 hw;obtain rfl:=hq hw 1 rfl rfl;obtain rfl:=hq hw 9 rfl rfl;obtain rfl:=hq hw 10 rfl rfl;obtain rfl:=hq hw 11 rfl rfl;obtain rfl:=hq hw 16 rfl rfl;obtain rfl:=hq hw 20 rfl rfl;refine np ?_;try simp only[B9,A5,A6,A2,A,B,C,E,F,J]
   exact A67 F_w0 caps_w0 a0 x8 v9 v10 v11 v12 v13 v14 v15 v16 v17 x19 h22 h23 _ b19
theorem A69(F_w0:FuncId)(caps_w0:N D)(a0:Xf)(x8:N X0)(v9)(v10:X4)(v11)(v12)(v13)(v14)(v15:N X0)(v16:N P)(v17)(x19)(h22:(A3 v15.length ([x19]:N X0).length 48)=T)(h23:(A3 v16.length ([v9]:N P).length 8)=T):∀(f:U) (b0 b1:Q) (b2 b3:Q) (b4 b9:Q) (b10 b11:Q) (b16 b17:Q),Ad X FZ (Ef F_w0 caps_w0 a0 x8 v9 v10 v11 v12 v13 v14 v15 v16 v17 x19) f [b0,b1,b2,b3,b4,T,T,T,T,b9,b10,b11,T,T,T,T,b16,b17,G,G,G,G] (B9 a0 x8 v9 x19 (vc (.undef)) (vc (.undef)) b0 b1 b2 b3 b4 T T T T b9 b10 b11 T T T T b16 b17 G G [(99999999999,([aI v10.Forecast.Tide.Mean,aL (W Y v10.Forecast.Tide.Parts),aL (W X9.row v10.Forecast.Surges),aL (W X7.row v10.Chart.Points),aL (W X2.row v10.Chart.Segments),aL (W X6.row v10.Fleet),aI v10.Regime.Gap,aB v10.Regime.NoMeet]++dm v10.Crew.row++ [aL (W (rL X0.row) v11),.dat (.clo F_w0 caps_w0),.undef,.undef,.own 90002,aI v12,aI v13,aB v14])),(5,(dm x19.row))] [(90000,4,W X0.row (v15++([x19]:N X0))),(90001,1,W rI (v16++([v9]:N P))),(90002,1,W rI v17),(5504,4,W X0.row ([x19]:N X0)),(5952,1,W rI ([v9]:N P))]):=by
 intro f
 induction f with
 | zero=>intro b0 b1 b2 b3 b4 b9 b10 b11 b16 b17 h; simp at h
 | succ f ih=>
  intro b0 b1 b2 b3 b4 b9 b10 b11 b16 b17;refine Af ⟨?_,?_,?_,?_,?_,?_,?_,?_,?_,?_,?_,?_,?_,?_,?_,?_,?_,?_,?_,?_,?_,?_,⟨⟩⟩<;>try first | (intro h; cases h; done) | (intro _ hw; simp at hw; done) | (intro h0 hw; obtain rfl:=hz h0 rfl; (try obtain rfl:=hq hw 0 rfl rfl); (try obtain rfl:=hq hw 2 rfl rfl); (try obtain rfl:=hq hw 3 rfl rfl); (try obtain rfl:=hq hw 4 rfl rfl); (try obtain rfl:=hq hw 9 rfl rfl); (try obtain rfl:=hq hw 10 rfl rfl); (try obtain rfl:=hq hw 16 rfl rfl); refine np ?_; simp only[B9,A5,A6,A2,A,B,C,E,F,J]; exact ih _ _ _ _ _ _ _ _ _ _)
  ·intro h0 hw;obtain rfl:=hq hw 0 rfl rfl;obtain rfl:=hq hw 2 rfl rfl;obtain rfl:=hq hw 3 rfl rfl;obtain rfl:=hq hw 4 rfl rfl;obtain rfl:=hq hw 17 rfl rfl;refine np ?_;try simp only[B9,A5,A6,A2,A,B,C,E,F,J]
   exact A68 F_w0 caps_w0 a0 x8 v9 v10 v11 v12 v13 v14 v15 v16 v17 x19 h22 h23 _ b1 b9 b10 b11 b16 G G
theorem cO(F_w0:FuncId)(caps_w0:N D)(a0:Xf)(x8:N X0)(v9)(v10:X4)(v11)(v12)(v13)(v14)(v15:N X0)(v16:N P)(v17)(x19)(h22:(A3 v15.length ([x19]:N X0).length 48)=T)(h23:(A3 v16.length ([v9]:N P).length 8)=T):∀(f:U) (b0 b1:Q) (b2 b3:Q) (b4 b9:Q) (b10 b11 b12:Q),Ad X FZ (Ef F_w0 caps_w0 a0 x8 v9 v10 v11 v12 v13 v14 v15 v16 v17 x19) f [b0,b1,b2,b3,b4,T,T,T,T,b9,b10,b11,b12,T,T,G,G,G,G,G,G,G] (B9 a0 x8 v9 x19 (vc (.undef)) (vc (.own 90001)) b0 b1 b2 b3 b4 T T T T b9 b10 b11 b12 T T G G G G G [(99999999999,([aI v10.Forecast.Tide.Mean,aL (W Y v10.Forecast.Tide.Parts),aL (W X9.row v10.Forecast.Surges),aL (W X7.row v10.Chart.Points),aL (W X2.row v10.Chart.Segments),aL (W X6.row v10.Fleet),aI v10.Regime.Gap,aB v10.Regime.NoMeet]++dm v10.Crew.row++ [aL (W (rL X0.row) v11),.dat (.clo F_w0 caps_w0),.undef,.own 90001,.own 90002,aI v12,aI v13,aB v14])),(5,(dm x19.row))] [(90000,4,W X0.row (v15++([x19]:N X0))),(90001,1,W rI v16),(90002,1,W rI v17),(5504,4,W X0.row ([x19]:N X0)),(5952,1,W rI ([v9]:N P))]):=by
 intro f
 induction f with
 | zero=>intro b0 b1 b2 b3 b4 b9 b10 b11 b12 h; simp at h
 | succ f ih=>
  intro b0 b1 b2 b3 b4 b9 b10 b11 b12;refine Af ⟨?_,?_,?_,?_,?_,?_,?_,?_,?_,?_,?_,?_,?_,?_,?_,?_,?_,?_,?_,?_,?_,?_,⟨⟩⟩<;>try first | (intro h; cases h; done) | (intro _ hw; simp at hw; done) | (intro h0 hw; obtain rfl:=hz h0 rfl; (try obtain rfl:=hq hw 2 rfl rfl); (try obtain rfl:=hq hw 3 rfl rfl); (try obtain rfl:=hq hw 9 rfl rfl); (try obtain rfl:=hq hw 10 rfl rfl); (try obtain rfl:=hq hw 11 rfl rfl); refine np ?_; simp only[B9,A5,A6,A2,A,B,C,E,F,J]; exact ih _ _ _ _ _ _ _ _ _)
  ·intro h0 hw;obtain rfl:=hq hw 12 rfl rfl;refine np ?_;try simp only[h23,B9,A5,A6,A2,A,B,C,E,F,J]
   exact A69 F_w0 caps_w0 a0 x8 v9 v10 v11 v12 v13 v14 v15 v16 v17 x19 h22 h23 _ b0 b1 b2 b3 b4 b9 b10 b11 G G
theorem A7a(F_w0:FuncId)(caps_w0:N D)(a0:Xf)(x8:N X0)(v9)(v10:X4)(v11)(v12)(v13)(v14)(v15:N X0)(v16:N P)(v17)(x19)(h22:(A3 v15.length ([x19]:N X0).length 48)=T)(h23:(A3 v16.length ([v9]:N P).length 8)=T):∀(f:U) (b0 b1:Q) (b2 b3:Q) (b4 b9:Q) (b10 b11:Q) (b12 b13:Q),Ad X FZ (Ef F_w0 caps_w0 a0 x8 v9 v10 v11 v12 v13 v14 v15 v16 v17 x19) f [b0,b1,b2,b3,b4,T,T,T,T,b9,b10,b11,b12,b13,G,G,G,G,G,G,G,G] (B9 a0 x8 v9 x19 (vc (.undef)) (vc (.own 90001)) b0 b1 b2 b3 b4 T T T T b9 b10 b11 b12 b13 G G G G G G [(99999999999,([aI v10.Forecast.Tide.Mean,aL (W Y v10.Forecast.Tide.Parts),aL (W X9.row v10.Forecast.Surges),aL (W X7.row v10.Chart.Points),aL (W X2.row v10.Chart.Segments),aL (W X6.row v10.Fleet),aI v10.Regime.Gap,aB v10.Regime.NoMeet]++dm v10.Crew.row++ [aL (W (rL X0.row) v11),.dat (.clo F_w0 caps_w0),.undef,.own 90001,.own 90002,aI v12,aI v13,aB v14])),(5,(dm x19.row))] [(90000,4,W X0.row (v15++([x19]:N X0))),(90001,1,W rI v16),(90002,1,W rI v17),(5504,4,W X0.row ([x19]:N X0))]):=by
 intro f
 induction f with
 | zero=>intro b0 b1 b2 b3 b4 b9 b10 b11 b12 b13 h; simp at h
 | succ f ih=>
  intro b0 b1 b2 b3 b4 b9 b10 b11 b12 b13;refine Af ⟨?_,?_,?_,?_,?_,?_,?_,?_,?_,?_,?_,?_,?_,?_,?_,?_,?_,?_,?_,?_,?_,?_,⟨⟩⟩<;>try first | (intro h; cases h; done) | (intro _ hw; simp at hw; done) | (intro h0 hw; obtain rfl:=hz h0 rfl; (try obtain rfl:=hq hw 2 rfl rfl); (try obtain rfl:=hq hw 3 rfl rfl); (try obtain rfl:=hq hw 9 rfl rfl); (try obtain rfl:=hq hw 10 rfl rfl); (try obtain rfl:=hq hw 11 rfl rfl); refine np ?_; simp only[B9,A5,A6,A2,A,B,C,E,F,J]; exact ih _ _ _ _ _ _ _ _ _ _)
  ·intro h0 hw;obtain rfl:=hq hw 13 rfl rfl;refine np ?_;try simp only[B9,A5,A6,A2,A,B,C,E,F,J]
   refine Aq (es:=W rI ([v9]:N P)) V (by simp only[St.fresh,zA,zB,Ah]; simp[AV.cells,V1.cells,AC.uses]) ?_;try simp only[A2,A,B,C,E,F,J]
   exact cO F_w0 caps_w0 a0 x8 v9 v10 v11 v12 v13 v14 v15 v16 v17 x19 h22 h23 _ b0 b1 b2 b3 b4 b9 b10 b11 b12
theorem cP(F_w0:FuncId)(caps_w0:N D)(a0:Xf)(x8:N X0)(v9)(v10:X4)(v11)(v12)(v13)(v14)(v15:N X0)(v16:N P)(v17)(x19)(h22:(A3 v15.length ([x19]:N X0).length 48)=T)(h23:(A3 v16.length ([v9]:N P).length 8)=T):∀(f:U) (b0 b1:Q) (b2 b3:Q) (b4 b5:Q) (b9 b10:Q) (b11 b12:Q),Ad X FZ (Ef F_w0 caps_w0 a0 x8 v9 v10 v11 v12 v13 v14 v15 v16 v17 x19) f [b0,b1,b2,b3,b4,b5,T,T,G,b9,b10,b11,b12,T,T,G,G,G,G,G,G,G] (B9 a0 x8 v9 x19 (vc (.own 90000)) (vc (.own 90001)) b0 b1 b2 b3 b4 b5 T T G b9 b10 b11 b12 T T G G G G G [(99999999999,([aI v10.Forecast.Tide.Mean,aL (W Y v10.Forecast.Tide.Parts),aL (W X9.row v10.Forecast.Surges),aL (W X7.row v10.Chart.Points),aL (W X2.row v10.Chart.Segments),aL (W X6.row v10.Fleet),aI v10.Regime.Gap,aB v10.Regime.NoMeet]++dm v10.Crew.row++ [aL (W (rL X0.row) v11),.dat (.clo F_w0 caps_w0),.own 90000,.own 90001,.own 90002,aI v12,aI v13,aB v14])),(5,(dm x19.row))] [(90000,4,W X0.row v15),(90001,1,W rI v16),(90002,1,W rI v17),(5504,4,W X0.row ([x19]:N X0)),(5952,1,W rI ([v9]:N P))]):=by
 intro f
 induction f with
 | zero=>intro b0 b1 b2 b3 b4 b5 b9 b10 b11 b12 h; simp at h
 | succ f ih=>
  intro b0 b1 b2 b3 b4 b5 b9 b10 b11 b12;refine Af ⟨?_,?_,?_,?_,?_,?_,?_,?_,?_,?_,?_,?_,?_,?_,?_,?_,?_,?_,?_,?_,?_,?_,⟨⟩⟩<;>try first | (intro h; cases h; done) | (intro _ hw; simp at hw; done) | (intro h0 hw; obtain rfl:=hz h0 rfl; (try obtain rfl:=hq hw 2 rfl rfl); (try obtain rfl:=hq hw 3 rfl rfl); (try obtain rfl:=hq hw 4 rfl rfl); (try obtain rfl:=hq hw 9 rfl rfl); (try obtain rfl:=hq hw 10 rfl rfl); (try obtain rfl:=hq hw 11 rfl rfl); refine np ?_; simp only[B9,A5,A6,A2,A,B,C,E,F,J]; exact ih _ _ _ _ _ _ _ _ _ _)
  ·intro h0 hw;obtain rfl:=hq hw 5 rfl rfl;refine np ?_;try simp only[h22,B9,A5,A6,A2,A,B,C,E,F,J]
   exact cO F_w0 caps_w0 a0 x8 v9 v10 v11 v12 v13 v14 v15 v16 v17 x19 h22 h23 _ b0 b1 b2 b3 b4 b9 b10 b11 b12
theorem A7b(F_w0:FuncId)(caps_w0:N D)(a0:Xf)(x8:N X0)(v9)(v10:X4)(v11)(v12)(v13)(v14)(v15:N X0)(v16:N P)(v17)(x19)(h22:(A3 v15.length ([x19]:N X0).length 48)=T)(h23:(A3 v16.length ([v9]:N P).length 8)=T):∀(f:U) (b0 b1:Q) (b2 b3:Q) (b4 b5:Q) (b9 b10:Q) (b11 b12 b13:Q),Ad X FZ (Ef F_w0 caps_w0 a0 x8 v9 v10 v11 v12 v13 v14 v15 v16 v17 x19) f [b0,b1,b2,b3,b4,b5,T,T,G,b9,b10,b11,b12,b13,G,G,G,G,G,G,G,G] (B9 a0 x8 v9 x19 (vc (.own 90000)) (vc (.own 90001)) b0 b1 b2 b3 b4 b5 T T G b9 b10 b11 b12 b13 G G G G G G [(99999999999,([aI v10.Forecast.Tide.Mean,aL (W Y v10.Forecast.Tide.Parts),aL (W X9.row v10.Forecast.Surges),aL (W X7.row v10.Chart.Points),aL (W X2.row v10.Chart.Segments),aL (W X6.row v10.Fleet),aI v10.Regime.Gap,aB v10.Regime.NoMeet]++dm v10.Crew.row++ [aL (W (rL X0.row) v11),.dat (.clo F_w0 caps_w0),.own 90000,.own 90001,.own 90002,aI v12,aI v13,aB v14])),(5,(dm x19.row))] [(90000,4,W X0.row v15),(90001,1,W rI v16),(90002,1,W rI v17),(5504,4,W X0.row ([x19]:N X0))]):=by
 intro f
 induction f with
 | zero=>intro b0 b1 b2 b3 b4 b5 b9 b10 b11 b12 b13 h; simp at h
 | succ f ih=>
  intro b0 b1 b2 b3 b4 b5 b9 b10 b11 b12 b13;refine Af ⟨?_,?_,?_,?_,?_,?_,?_,?_,?_,?_,?_,?_,?_,?_,?_,?_,?_,?_,?_,?_,?_,?_,⟨⟩⟩<;>try first | (intro h; cases h; done) | (intro _ hw; simp at hw; done) | (intro h0 hw; obtain rfl:=hz h0 rfl; (try obtain rfl:=hq hw 2 rfl rfl); (try obtain rfl:=hq hw 3 rfl rfl); (try obtain rfl:=hq hw 4 rfl rfl); (try obtain rfl:=hq hw 9 rfl rfl); (try obtain rfl:=hq hw 10 rfl rfl); (try obtain rfl:=hq hw 11 rfl rfl); refine np ?_; simp only[B9,A5,A6,A2,A,B,C,E,F,J]; exact ih _ _ _ _ _ _ _ _ _ _ _)
  ·intro h0 hw;obtain rfl:=hq hw 5 rfl rfl;refine np ?_;try simp only[h22,B9,A5,A6,A2,A,B,C,E,F,J]
   exact A7a F_w0 caps_w0 a0 x8 v9 v10 v11 v12 v13 v14 v15 v16 v17 x19 h22 h23 _ b0 b1 b2 b3 b4 b9 b10 b11 b12 b13
  ·intro h0 hw;obtain rfl:=hq hw 13 rfl rfl;refine np ?_;try simp only[B9,A5,A6,A2,A,B,C,E,F,J]
   refine Aq (es:=W rI ([v9]:N P)) V (by simp only[St.fresh,zA,zB,Ah]; simp[AV.cells,V1.cells,AC.uses]) ?_;try simp only[A2,A,B,C,E,F,J]
   exact cP F_w0 caps_w0 a0 x8 v9 v10 v11 v12 v13 v14 v15 v16 v17 x19 h22 h23 _ b0 b1 b2 b3 b4 b5 b9 b10 b11 b12
theorem A7c(F_w0:FuncId)(caps_w0:N D)(a0:Xf)(x8:N X0)(v9)(v10:X4)(v11)(v12)(v13)(v14)(v15:N X0)(v16:N P)(v17)(x19)(h22:(A3 v15.length ([x19]:N X0).length 48)=T)(h23:(A3 v16.length ([v9]:N P).length 8)=T):∀(f:U) (b0 b1:Q) (b2 b3:Q) (b4 b5:Q) (b6 b9:Q) (b10 b11 b12:Q),Ad X FZ (Ef F_w0 caps_w0 a0 x8 v9 v10 v11 v12 v13 v14 v15 v16 v17 x19) f [b0,b1,b2,b3,b4,b5,b6,G,G,b9,b10,b11,b12,T,T,G,G,G,G,G,G,G] (B9 a0 x8 v9 x19 (vc (.own 90000)) (vc (.own 90001)) b0 b1 b2 b3 b4 b5 b6 G G b9 b10 b11 b12 T T G G G G G [(99999999999,([aI v10.Forecast.Tide.Mean,aL (W Y v10.Forecast.Tide.Parts),aL (W X9.row v10.Forecast.Surges),aL (W X7.row v10.Chart.Points),aL (W X2.row v10.Chart.Segments),aL (W X6.row v10.Fleet),aI v10.Regime.Gap,aB v10.Regime.NoMeet]++dm v10.Crew.row++ [aL (W (rL X0.row) v11),.dat (.clo F_w0 caps_w0),.own 90000,.own 90001,.own 90002,aI v12,aI v13,aB v14])),(5,(dm x19.row))] [(90000,4,W X0.row v15),(90001,1,W rI v16),(90002,1,W rI v17),(5952,1,W rI ([v9]:N P))]):=by
 intro f
 induction f with
 | zero=>intro b0 b1 b2 b3 b4 b5 b6 b9 b10 b11 b12 h; simp at h
 | succ f ih=>
  intro b0 b1 b2 b3 b4 b5 b6 b9 b10 b11 b12;refine Af ⟨?_,?_,?_,?_,?_,?_,?_,?_,?_,?_,?_,?_,?_,?_,?_,?_,?_,?_,?_,?_,?_,?_,⟨⟩⟩<;>try first | (intro h; cases h; done) | (intro _ hw; simp at hw; done) | (intro h0 hw; obtain rfl:=hz h0 rfl; (try obtain rfl:=hq hw 2 rfl rfl); (try obtain rfl:=hq hw 3 rfl rfl); (try obtain rfl:=hq hw 4 rfl rfl); (try obtain rfl:=hq hw 9 rfl rfl); (try obtain rfl:=hq hw 10 rfl rfl); (try obtain rfl:=hq hw 11 rfl rfl); refine np ?_; simp only[B9,A5,A6,A2,A,B,C,E,F,J]; exact ih _ _ _ _ _ _ _ _ _ _ _)
  ·intro h0 hw;obtain rfl:=hq hw 6 rfl rfl;refine⟨[],[(L,.keep [0,3,4,5,61,62,63,79,80,81,82,83,84,85,86,87,88,89,90,91,92,93,94,95,96,97,98] [99999999999,5] [90000,90001,90002,5504,5952])],V,V,?_⟩;try simp only[B9,A5,A6,zE,zD,A2,A,B,C,E,F,J]
   refine Aq (es:=W X0.row ([x19]:N X0)) V (by simp only[St.fresh,zA,zB,Ah]; simp[AV.cells,V1.cells,AC.uses]) ?_;try simp only[A2,A,B,C,E,F,J]
   exact cP F_w0 caps_w0 a0 x8 v9 v10 v11 v12 v13 v14 v15 v16 v17 x19 h22 h23 _ b0 b1 b2 b3 b4 b5 b9 b10 b11 b12
theorem A7d(F_w0:FuncId)(caps_w0:N D)(a0:Xf)(x8:N X0)(v9)(v10:X4)(v11)(v12)(v13)(v14)(v15:N X0)(v16:N P)(v17)(x19)(h22:(A3 v15.length ([x19]:N X0).length 48)=T)(h23:(A3 v16.length ([v9]:N P).length 8)=T):∀(f:U) (b0 b1:Q) (b2 b3:Q) (b4 b5:Q) (b6 b9:Q) (b10 b11:Q) (b12 b13:Q),Ad X FZ (Ef F_w0 caps_w0 a0 x8 v9 v10 v11 v12 v13 v14 v15 v16 v17 x19) f [b0,b1,b2,b3,b4,b5,b6,G,G,b9,b10,b11,b12,b13,G,G,G,G,G,G,G,G] (B9 a0 x8 v9 x19 (vc (.own 90000)) (vc (.own 90001)) b0 b1 b2 b3 b4 b5 b6 G G b9 b10 b11 b12 b13 G G G G G G [(99999999999,([aI v10.Forecast.Tide.Mean,aL (W Y v10.Forecast.Tide.Parts),aL (W X9.row v10.Forecast.Surges),aL (W X7.row v10.Chart.Points),aL (W X2.row v10.Chart.Segments),aL (W X6.row v10.Fleet),aI v10.Regime.Gap,aB v10.Regime.NoMeet]++dm v10.Crew.row++ [aL (W (rL X0.row) v11),.dat (.clo F_w0 caps_w0),.own 90000,.own 90001,.own 90002,aI v12,aI v13,aB v14])),(5,(dm x19.row))] [(90000,4,W X0.row v15),(90001,1,W rI v16),(90002,1,W rI v17)]):=by
 intro f
 induction f with
 | zero=>intro b0 b1 b2 b3 b4 b5 b6 b9 b10 b11 b12 b13 h; simp at h
 | succ f ih=>
  intro b0 b1 b2 b3 b4 b5 b6 b9 b10 b11 b12 b13;refine Af ⟨?_,?_,?_,?_,?_,?_,?_,?_,?_,?_,?_,?_,?_,?_,?_,?_,?_,?_,?_,?_,?_,?_,⟨⟩⟩<;>try first | (intro _ hw; simp at hw; done) | (intro h0 hw; obtain rfl:=hz h0 rfl; (try obtain rfl:=hq hw 2 rfl rfl); (try obtain rfl:=hq hw 3 rfl rfl); (try obtain rfl:=hq hw 4 rfl rfl); (try obtain rfl:=hq hw 9 rfl rfl); (try obtain rfl:=hq hw 10 rfl rfl); (try obtain rfl:=hq hw 11 rfl rfl); refine np ?_; simp only[B9,A5,A6,A2,A,B,C,E,F,J]; exact ih _ _ _ _ _ _ _ _ _ _ _ _)
  ·intro h0 hw;obtain rfl:=hq hw 6 rfl rfl;refine np ?_;try simp only[B9,A5,A6,A2,A,B,C,E,F,J]
   refine Aq (es:=W X0.row ([x19]:N X0)) V (by simp only[St.fresh,zA,zB,Ah]; simp[AV.cells,V1.cells,AC.uses]) ?_;try simp only[A2,A,B,C,E,F,J]
   exact A7b F_w0 caps_w0 a0 x8 v9 v10 v11 v12 v13 v14 v15 v16 v17 x19 h22 h23 _ b0 b1 b2 b3 b4 b5 b9 b10 b11 b12 b13
  ·intro h0 hw;obtain rfl:=hq hw 13 rfl rfl;refine np ?_;try simp only[B9,A5,A6,A2,A,B,C,E,F,J]
   refine Aq (es:=W rI ([v9]:N P)) V (by simp only[St.fresh,zA,zB,Ah]; simp[AV.cells,V1.cells,AC.uses]) ?_;try simp only[A2,A,B,C,E,F,J]
   exact A7c F_w0 caps_w0 a0 x8 v9 v10 v11 v12 v13 v14 v15 v16 v17 x19 h22 h23 _ b0 b1 b2 b3 b4 b5 b6 b9 b10 b11 b12
abbrev BC(a0:Xf)(x8:N X0)(v9:P)(wo5_ wo11_:AV)(c0_ c1_:Q)(c2_ c3_:Q)(c4_ c5_:Q)(c6_ c7_:Q)(c8_ c9_:Q)(c10_ c11_:Q)(c12_ c13_:Q)(c14_ c15_:Q)(c17_ c18_:Q)(bx_:N (U × N AC))(rs_:Rows):St:=⟨[(0,vc (.pb 99999999999 0)),(3,vc (aI (a0.plan.length:P))),(61,vc (aL (W X0.row x8))),(62,vc (aI (x8.length:P))),(63,vc (aI v9)),(101,bif c0_ then vc (.pb 99999999999 0) else .undef),(102,bif c1_ then vc (.pb 99999999999 0) else .undef),(103,bif c2_ then vc (.pb 99999999999 0) else .undef),(104,bif c3_ then vc (.pb 99999999999 0) else .undef),(105,bif c4_ then vc (.pb 99999999999 14) else .undef),(106,bif c5_ then wo5_ else .undef),(107,bif c6_ then vc (aI (a0.plan.length:P)) else .undef),(108,bif c7_ then vc (.own 90000) else .undef),(109,bif c8_ then vc (.pb 99999999999 0) else .undef),(110,bif c9_ then vc (.pb 99999999999 0) else .undef),(111,bif c10_ then vc (.pb 99999999999 15) else .undef),(112,bif c11_ then wo11_ else .undef),(113,bif c12_ then vc (aI (a0.plan.length:P)) else .undef),(114,bif c13_ then vc (.own 90001) else .undef),(115,bif c14_ then vc (.pb 99999999999 0) else .undef),(116,bif c15_ then vc (.pb 99999999999 14) else .undef),(117,bif c17_ then vc (.pb 99999999999 0) else .undef),(118,bif c18_ then vc (.pb 99999999999 15) else .undef)],bx_,rs_⟩
abbrev FY(F_w0:FuncId)(caps_w0:N D)(a0:Xf)(x8:N X0)(v9:P)(r24:Xf)(p25 p26:U × U):St:=(BC a0 x8 v9 (vc (.undef)) (vc (.undef)) T T T T T T T T T T T T T T T T T T [(99999999999,([aI r24.h.Forecast.Tide.Mean,aL (W Y r24.h.Forecast.Tide.Parts),aL (W X9.row r24.h.Forecast.Surges),aL (W X7.row r24.h.Chart.Points),aL (W X2.row r24.h.Chart.Segments),aL (W X6.row r24.h.Fleet),aI r24.h.Regime.Gap,aB r24.h.Regime.NoMeet]++dm r24.h.Crew.row++ [aL (W (rL X0.row) r24.choices),.dat (.clo F_w0 caps_w0),.own 90000,.own 90001,.own 90002,aI r24.least.i0,aI r24.least.i1,aB r24.found]))] [(90000,4,W X0.row (r24.plan.take p25.2)),(90001,1,W rI (r24.choice.take p26.2)),(90002,1,W rI r24.best)])
theorem A7e(F_w0:FuncId)(caps_w0:N D)(a0:Xf)(x8:N X0)(v9:P)(r24:Xf)(p25)(p26)(h25:bnd (r24.plan.length:P) (a0.plan.length:P) 0 r24.plan.length=H p25)(h26:bnd (r24.choice.length:P) (a0.plan.length:P) 0 r24.choice.length=H p26):∀(f:U) (b17:Q),Ad X Jz (FY F_w0 caps_w0 a0 x8 v9 r24 p25 p26) f [T,T,T,T,T,T,T,T,T,T,T,T,T,T,T,T,T,b17,T,T] (BC a0 x8 v9 (vc (.undef)) (vc (.undef)) T T T T T T T T T T T T T T T T b17 T [(99999999999,([aI r24.h.Forecast.Tide.Mean,aL (W Y r24.h.Forecast.Tide.Parts),aL (W X9.row r24.h.Forecast.Surges),aL (W X7.row r24.h.Chart.Points),aL (W X2.row r24.h.Chart.Segments),aL (W X6.row r24.h.Fleet),aI r24.h.Regime.Gap,aB r24.h.Regime.NoMeet]++dm r24.h.Crew.row++ [aL (W (rL X0.row) r24.choices),.dat (.clo F_w0 caps_w0),.own 90000,.own 90001,.own 90002,aI r24.least.i0,aI r24.least.i1,aB r24.found]))] [(90000,4,W X0.row (r24.plan.take p25.2)),(90001,1,W rI (r24.choice.take p26.2)),(90002,1,W rI r24.best)]):=by
 intro f
 induction f with
 | zero=>
  intro b17 h;obtain rfl:b17=T:=I.1 h b17 (by simp);rfl
 | succ f ih=>
  intro b17;refine Af ⟨?_,?_,?_,?_,?_,?_,?_,?_,?_,?_,?_,?_,?_,?_,?_,?_,?_,?_,?_,?_,⟨⟩⟩<;>try first | (intro h; cases h; done) | (intro h0 hw; obtain rfl:=hz h0 rfl; refine np ?_; simp only[BC,A5,A6,A2,A,B,C,E,F,J]; exact ih _)
theorem cQ(F_w0:FuncId)(caps_w0:N D)(a0:Xf)(x8:N X0)(v9:P)(r24:Xf)(p25)(p26)(h25:bnd (r24.plan.length:P) (a0.plan.length:P) 0 r24.plan.length=H p25)(h26:bnd (r24.choice.length:P) (a0.plan.length:P) 0 r24.choice.length=H p26):∀(f:U) (b1 b8:Q) (b9 b10:Q) (b14 b17 b18:Q),Ad X Jz (FY F_w0 caps_w0 a0 x8 v9 r24 p25 p26) f [T,b1,T,T,T,T,T,T,b8,b9,b10,T,T,T,b14,T,T,b17,b18,G] (BC a0 x8 v9 (vc (.undef)) (vc (.undef)) T b1 T T T T T T b8 b9 b10 T T T b14 T b17 b18 [(99999999999,([aI r24.h.Forecast.Tide.Mean,aL (W Y r24.h.Forecast.Tide.Parts),aL (W X9.row r24.h.Forecast.Surges),aL (W X7.row r24.h.Chart.Points),aL (W X2.row r24.h.Chart.Segments),aL (W X6.row r24.h.Fleet),aI r24.h.Regime.Gap,aB r24.h.Regime.NoMeet]++dm r24.h.Crew.row++ [aL (W (rL X0.row) r24.choices),.dat (.clo F_w0 caps_w0),.own 90000,.undef,.own 90002,aI r24.least.i0,aI r24.least.i1,aB r24.found]))] [(90000,4,W X0.row (r24.plan.take p25.2)),(90001,1,W rI (r24.choice.take p26.2)),(90002,1,W rI r24.best)]):=by
 intro f
 induction f with
 | zero=>intro b1 b8 b9 b10 b14 b17 b18 h; simp at h
 | succ f ih=>
  intro b1 b8 b9 b10 b14 b17 b18;refine Af ⟨?_,?_,?_,?_,?_,?_,?_,?_,?_,?_,?_,?_,?_,?_,?_,?_,?_,?_,?_,?_,⟨⟩⟩<;>try first | (intro h; cases h; done) | (intro h0 hw; obtain rfl:=hz h0 rfl; (try obtain rfl:=hq hw 1 rfl rfl); (try obtain rfl:=hq hw 8 rfl rfl); (try obtain rfl:=hq hw 9 rfl rfl); (try obtain rfl:=hq hw 10 rfl rfl); (try obtain rfl:=hq hw 14 rfl rfl); (try obtain rfl:=hq hw 17 rfl rfl); refine np ?_; simp only[BC,A5,A6,A2,A,B,C,E,F,J]; exact ih _ _ _ _ _ _ _)
  ·intro h0 hw;obtain rfl:=hq hw 1 rfl rfl;obtain rfl:=hq hw 8 rfl rfl;obtain rfl:=hq hw 9 rfl rfl;obtain rfl:=hq hw 10 rfl rfl;obtain rfl:=hq hw 14 rfl rfl;obtain rfl:=hq hw 18 rfl rfl;refine np ?_;try simp only[BC,A5,A6,A2,A,B,C,E,F,J]
   exact A7e F_w0 caps_w0 a0 x8 v9 r24 p25 p26 h25 h26 _ b17
theorem cR(F_w0:FuncId)(caps_w0:N D)(a0:Xf)(x8:N X0)(v9:P)(r24:Xf)(p25)(p26)(h25:bnd (r24.plan.length:P) (a0.plan.length:P) 0 r24.plan.length=H p25)(h26:bnd (r24.choice.length:P) (a0.plan.length:P) 0 r24.choice.length=H p26):∀(f:U) (b0 b1:Q) (b2 b3:Q) (b4 b8:Q) (b9 b10:Q) (b14 b15:Q),Ad X Jz (FY F_w0 caps_w0 a0 x8 v9 r24 p25 p26) f [b0,b1,b2,b3,b4,T,T,T,b8,b9,b10,T,T,T,b14,b15,G,G,G,G] (BC a0 x8 v9 (vc (.undef)) (vc (.undef)) b0 b1 b2 b3 b4 T T T b8 b9 b10 T T T b14 b15 G G [(99999999999,([aI r24.h.Forecast.Tide.Mean,aL (W Y r24.h.Forecast.Tide.Parts),aL (W X9.row r24.h.Forecast.Surges),aL (W X7.row r24.h.Chart.Points),aL (W X2.row r24.h.Chart.Segments),aL (W X6.row r24.h.Fleet),aI r24.h.Regime.Gap,aB r24.h.Regime.NoMeet]++dm r24.h.Crew.row++ [aL (W (rL X0.row) r24.choices),.dat (.clo F_w0 caps_w0),.undef,.undef,.own 90002,aI r24.least.i0,aI r24.least.i1,aB r24.found]))] [(90000,4,W X0.row (r24.plan.take p25.2)),(90001,1,W rI (r24.choice.take p26.2)),(90002,1,W rI r24.best)]):=by
 intro f
 induction f with
 | zero=>intro b0 b1 b2 b3 b4 b8 b9 b10 b14 b15 h; simp at h
 | succ f ih=>
  intro b0 b1 b2 b3 b4 b8 b9 b10 b14 b15;refine Af ⟨?_,?_,?_,?_,?_,?_,?_,?_,?_,?_,?_,?_,?_,?_,?_,?_,?_,?_,?_,?_,⟨⟩⟩<;>try first | (intro h; cases h; done) | (intro _ hw; simp at hw; done) | (intro h0 hw; obtain rfl:=hz h0 rfl; (try obtain rfl:=hq hw 0 rfl rfl); (try obtain rfl:=hq hw 2 rfl rfl); (try obtain rfl:=hq hw 3 rfl rfl); (try obtain rfl:=hq hw 4 rfl rfl); (try obtain rfl:=hq hw 8 rfl rfl); (try obtain rfl:=hq hw 9 rfl rfl); (try obtain rfl:=hq hw 14 rfl rfl); refine np ?_; simp only[BC,A5,A6,A2,A,B,C,E,F,J]; exact ih _ _ _ _ _ _ _ _ _ _)
  ·intro h0 hw;obtain rfl:=hq hw 0 rfl rfl;obtain rfl:=hq hw 2 rfl rfl;obtain rfl:=hq hw 3 rfl rfl;obtain rfl:=hq hw 4 rfl rfl;obtain rfl:=hq hw 15 rfl rfl;refine np ?_;try simp only[BC,A5,A6,A2,A,B,C,E,F,J]
   exact cQ F_w0 caps_w0 a0 x8 v9 r24 p25 p26 h25 h26 _ b1 b8 b9 b10 b14 G G
theorem A7f(F_w0:FuncId)(caps_w0:N D)(a0:Xf)(x8:N X0)(v9:P)(r24:Xf)(p25)(p26)(h25:bnd (r24.plan.length:P) (a0.plan.length:P) 0 r24.plan.length=H p25)(h26:bnd (r24.choice.length:P) (a0.plan.length:P) 0 r24.choice.length=H p26):∀(f:U) (b1 b8:Q) (b9 b10:Q) (b12 b14:Q),Ad X Jz (FY F_w0 caps_w0 a0 x8 v9 r24 p25 p26) f [T,b1,T,T,T,T,T,T,b8,b9,b10,T,b12,G,b14,T,T,G,G,G] (BC a0 x8 v9 (vc (.undef)) (vc (.own 90001)) T b1 T T T T T T b8 b9 b10 T b12 G b14 T G G [(99999999999,([aI r24.h.Forecast.Tide.Mean,aL (W Y r24.h.Forecast.Tide.Parts),aL (W X9.row r24.h.Forecast.Surges),aL (W X7.row r24.h.Chart.Points),aL (W X2.row r24.h.Chart.Segments),aL (W X6.row r24.h.Fleet),aI r24.h.Regime.Gap,aB r24.h.Regime.NoMeet]++dm r24.h.Crew.row++ [aL (W (rL X0.row) r24.choices),.dat (.clo F_w0 caps_w0),.own 90000,.own 90001,.own 90002,aI r24.least.i0,aI r24.least.i1,aB r24.found]))] [(90000,4,W X0.row (r24.plan.take p25.2)),(90001,1,W rI r24.choice),(90002,1,W rI r24.best)]):=by
 intro f
 induction f with
 | zero=>intro b1 b8 b9 b10 b12 b14 h; simp at h
 | succ f ih=>
  intro b1 b8 b9 b10 b12 b14;refine Af ⟨?_,?_,?_,?_,?_,?_,?_,?_,?_,?_,?_,?_,?_,?_,?_,?_,?_,?_,?_,?_,⟨⟩⟩<;>try first | (intro h; cases h; done) | (intro _ hw; simp at hw; done) | (intro h0 hw; obtain rfl:=hz h0 rfl; (try obtain rfl:=hq hw 8 rfl rfl); (try obtain rfl:=hq hw 9 rfl rfl); refine np ?_; simp only[BC,A5,A6,A2,A,B,C,E,F,J]; exact ih _ _ _ _ _ _)
  ·intro h0 hw;obtain rfl:=hq hw 12 rfl rfl;refine⟨[],[(L,.cut 114)],V,V,?_⟩;try simp only[BC,A5,A6,zE,zD,A2,A,B,C,E,F,J]
   refine IY V V h26 (by rfl) ?_;try simp only[A2,A,B,C,E,F,J]
   exact cQ F_w0 caps_w0 a0 x8 v9 r24 p25 p26 h25 h26 _ b1 b8 b9 b10 b14 G G
theorem A7g(F_w0:FuncId)(caps_w0:N D)(a0:Xf)(x8:N X0)(v9:P)(r24:Xf)(p25)(p26)(h25:bnd (r24.plan.length:P) (a0.plan.length:P) 0 r24.plan.length=H p25)(h26:bnd (r24.choice.length:P) (a0.plan.length:P) 0 r24.choice.length=H p26):∀(f:U) (b0 b1:Q) (b2 b3:Q) (b4 b8:Q) (b9 b10:Q) (b11 b12:Q) (b14 b15:Q),Ad X Jz (FY F_w0 caps_w0 a0 x8 v9 r24 p25 p26) f [b0,b1,b2,b3,b4,T,T,T,b8,b9,b10,b11,b12,G,b14,b15,G,G,G,G] (BC a0 x8 v9 (vc (.undef)) (vc (.own 90001)) b0 b1 b2 b3 b4 T T T b8 b9 b10 b11 b12 G b14 b15 G G [(99999999999,([aI r24.h.Forecast.Tide.Mean,aL (W Y r24.h.Forecast.Tide.Parts),aL (W X9.row r24.h.Forecast.Surges),aL (W X7.row r24.h.Chart.Points),aL (W X2.row r24.h.Chart.Segments),aL (W X6.row r24.h.Fleet),aI r24.h.Regime.Gap,aB r24.h.Regime.NoMeet]++dm r24.h.Crew.row++ [aL (W (rL X0.row) r24.choices),.dat (.clo F_w0 caps_w0),.undef,.own 90001,.own 90002,aI r24.least.i0,aI r24.least.i1,aB r24.found]))] [(90000,4,W X0.row (r24.plan.take p25.2)),(90001,1,W rI r24.choice),(90002,1,W rI r24.best)]):=by
 intro f
 induction f with
 | zero=>intro b0 b1 b2 b3 b4 b8 b9 b10 b11 b12 b14 b15 h; simp at h
 | succ f ih=>
  intro b0 b1 b2 b3 b4 b8 b9 b10 b11 b12 b14 b15;refine Af ⟨?_,?_,?_,?_,?_,?_,?_,?_,?_,?_,?_,?_,?_,?_,?_,?_,?_,?_,?_,?_,⟨⟩⟩<;>try first | (intro h; cases h; done) | (intro _ hw; simp at hw; done) | (intro h0 hw; obtain rfl:=hz h0 rfl; (try obtain rfl:=hq hw 0 rfl rfl); (try obtain rfl:=hq hw 2 rfl rfl); (try obtain rfl:=hq hw 3 rfl rfl); (try obtain rfl:=hq hw 4 rfl rfl); (try obtain rfl:=hq hw 8 rfl rfl); (try obtain rfl:=hq hw 9 rfl rfl); (try obtain rfl:=hq hw 10 rfl rfl); (try obtain rfl:=hq hw 11 rfl rfl); (try obtain rfl:=hq hw 14 rfl rfl); refine np ?_; simp only[BC,A5,A6,A2,A,B,C,E,F,J]; exact ih _ _ _ _ _ _ _ _ _ _ _ _)
  ·intro h0 hw;obtain rfl:=hq hw 11 rfl rfl;obtain rfl:=hq hw 12 rfl rfl;refine⟨[],[(L,.cut 114)],V,V,?_⟩;try simp only[BC,A5,A6,zE,zD,A2,A,B,C,E,F,J]
   refine IY V V h26 (by rfl) ?_;try simp only[A2,A,B,C,E,F,J]
   exact cR F_w0 caps_w0 a0 x8 v9 r24 p25 p26 h25 h26 _ b0 b1 b2 b3 b4 b8 b9 b10 b14 b15
  ·intro h0 hw;obtain rfl:=hq hw 0 rfl rfl;obtain rfl:=hq hw 2 rfl rfl;obtain rfl:=hq hw 3 rfl rfl;obtain rfl:=hq hw 4 rfl rfl;obtain rfl:=hq hw 11 rfl rfl;obtain rfl:=hq hw 15 rfl rfl;refine np ?_;try simp only[BC,A5,A6,A2,A,B,C,E,F,J]
   exact A7f F_w0 caps_w0 a0 x8 v9 r24 p25 p26 h25 h26 _ b1 b8 b9 b10 b12 b14
theorem A7h(F_w0:FuncId)(caps_w0:N D)(a0:Xf)(x8:N X0)(v9:P)(r24:Xf)(p25)(p26)(h25:bnd (r24.plan.length:P) (a0.plan.length:P) 0 r24.plan.length=H p25)(h26:bnd (r24.choice.length:P) (a0.plan.length:P) 0 r24.choice.length=H p26):∀(f:U) (b0 b1:Q) (b2 b3:Q) (b4 b5:Q) (b6 b8:Q) (b9 b10:Q),Ad X Jz (FY F_w0 caps_w0 a0 x8 v9 r24 p25 p26) f [b0,b1,b2,b3,b4,b5,b6,G,b8,b9,b10,T,T,T,G,G,G,G,G,G] (BC a0 x8 v9 (vc (.own 90000)) (vc (.undef)) b0 b1 b2 b3 b4 b5 b6 G b8 b9 b10 T T T G G G G [(99999999999,([aI r24.h.Forecast.Tide.Mean,aL (W Y r24.h.Forecast.Tide.Parts),aL (W X9.row r24.h.Forecast.Surges),aL (W X7.row r24.h.Chart.Points),aL (W X2.row r24.h.Chart.Segments),aL (W X6.row r24.h.Fleet),aI r24.h.Regime.Gap,aB r24.h.Regime.NoMeet]++dm r24.h.Crew.row++ [aL (W (rL X0.row) r24.choices),.dat (.clo F_w0 caps_w0),.own 90000,.undef,.own 90002,aI r24.least.i0,aI r24.least.i1,aB r24.found]))] [(90000,4,W X0.row r24.plan),(90001,1,W rI (r24.choice.take p26.2)),(90002,1,W rI r24.best)]):=by
 intro f
 induction f with
 | zero=>intro b0 b1 b2 b3 b4 b5 b6 b8 b9 b10 h; simp at h
 | succ f ih=>
  intro b0 b1 b2 b3 b4 b5 b6 b8 b9 b10;refine Af ⟨?_,?_,?_,?_,?_,?_,?_,?_,?_,?_,?_,?_,?_,?_,?_,?_,?_,?_,?_,?_,⟨⟩⟩<;>try first | (intro h; cases h; done) | (intro _ hw; simp at hw; done) | (intro h0 hw; obtain rfl:=hz h0 rfl; (try obtain rfl:=hq hw 2 rfl rfl); (try obtain rfl:=hq hw 3 rfl rfl); (try obtain rfl:=hq hw 4 rfl rfl); (try obtain rfl:=hq hw 8 rfl rfl); (try obtain rfl:=hq hw 9 rfl rfl); refine np ?_; simp only[BC,A5,A6,A2,A,B,C,E,F,J]; exact ih _ _ _ _ _ _ _ _ _ _)
  ·intro h0 hw;obtain rfl:=hq hw 5 rfl rfl;obtain rfl:=hq hw 6 rfl rfl;refine⟨[],[(L,.cut 108)],V,V,?_⟩;try simp only[BC,A5,A6,zE,zD,A2,A,B,C,E,F,J]
   refine IY V V h25 (by rfl) ?_;try simp only[A2,A,B,C,E,F,J]
   exact cR F_w0 caps_w0 a0 x8 v9 r24 p25 p26 h25 h26 _ b0 b1 b2 b3 b4 b8 b9 b10 G G
theorem A7i(F_w0:FuncId)(caps_w0:N D)(a0:Xf)(x8:N X0)(v9:P)(r24:Xf)(p25)(p26)(h25:bnd (r24.plan.length:P) (a0.plan.length:P) 0 r24.plan.length=H p25)(h26:bnd (r24.choice.length:P) (a0.plan.length:P) 0 r24.choice.length=H p26):∀(f:U) (b0 b1:Q) (b2 b3:Q) (b4 b5:Q) (b6 b8:Q) (b9 b10:Q) (b11 b12:Q),Ad X Jz (FY F_w0 caps_w0 a0 x8 v9 r24 p25 p26) f [b0,b1,b2,b3,b4,b5,b6,G,b8,b9,b10,b11,b12,G,G,G,G,G,G,G] (BC a0 x8 v9 (vc (.own 90000)) (vc (.own 90001)) b0 b1 b2 b3 b4 b5 b6 G b8 b9 b10 b11 b12 G G G G G [(99999999999,([aI r24.h.Forecast.Tide.Mean,aL (W Y r24.h.Forecast.Tide.Parts),aL (W X9.row r24.h.Forecast.Surges),aL (W X7.row r24.h.Chart.Points),aL (W X2.row r24.h.Chart.Segments),aL (W X6.row r24.h.Fleet),aI r24.h.Regime.Gap,aB r24.h.Regime.NoMeet]++dm r24.h.Crew.row++ [aL (W (rL X0.row) r24.choices),.dat (.clo F_w0 caps_w0),.own 90000,.own 90001,.own 90002,aI r24.least.i0,aI r24.least.i1,aB r24.found]))] [(90000,4,W X0.row r24.plan),(90001,1,W rI r24.choice),(90002,1,W rI r24.best)]):=by
 intro f
 induction f with
 | zero=>intro b0 b1 b2 b3 b4 b5 b6 b8 b9 b10 b11 b12 h; simp at h
 | succ f ih=>
  intro b0 b1 b2 b3 b4 b5 b6 b8 b9 b10 b11 b12;refine Af ⟨?_,?_,?_,?_,?_,?_,?_,?_,?_,?_,?_,?_,?_,?_,?_,?_,?_,?_,?_,?_,⟨⟩⟩<;>try first | (intro _ hw; simp at hw; done) | (intro h0 hw; obtain rfl:=hz h0 rfl; (try obtain rfl:=hq hw 2 rfl rfl); (try obtain rfl:=hq hw 3 rfl rfl); (try obtain rfl:=hq hw 4 rfl rfl); (try obtain rfl:=hq hw 8 rfl rfl); (try obtain rfl:=hq hw 9 rfl rfl); (try obtain rfl:=hq hw 10 rfl rfl); refine np ?_; simp only[BC,A5,A6,A2,A,B,C,E,F,J]; exact ih _ _ _ _ _ _ _ _ _ _ _ _)
  ·intro h0 hw;obtain rfl:=hq hw 5 rfl rfl;obtain rfl:=hq hw 6 rfl rfl;refine⟨[],[(L,.cut 108)],V,V,?_⟩;try simp only[BC,A5,A6,zE,zD,A2,A,B,C,E,F,J]
   refine IY V V h25 (by rfl) ?_;try simp only[A2,A,B,C,E,F,J]
   exact A7g F_w0 caps_w0 a0 x8 v9 r24 p25 p26 h25 h26 _ b0 b1 b2 b3 b4 b8 b9 b10 b11 b12 G G
  ·intro h0 hw;obtain rfl:=hq hw 11 rfl rfl;obtain rfl:=hq hw 12 rfl rfl;refine⟨[],[(L,.cut 114)],V,V,?_⟩;try simp only[BC,A5,A6,zE,zD,A2,A,B,C,E,F,J]
   refine IY V V h26 (by rfl) ?_;try simp only[A2,A,B,C,E,F,J]
   exact A7h F_w0 caps_w0 a0 x8 v9 r24 p25 p26 h25 h26 _ b0 b1 b2 b3 b4 b5 b6 b8 b9 b10
def eK:=fun F_w0 caps_w0 (a0:Xf) x8 (k_:P→X4→(N (N X0))→P→P→Q→(N X0)→(N P)→(N P)→O Xf)=>∀{v9 v10 v11 v12 v13 v14 v15 v16 v17} {zr},k_ v9 v10 v11 v12 v13 v14 v15 v16 v17=H zr→Kh X 96 QN 21 [0,3,61,62,63] [99999999999] [90000,90001,90002] ⟨[(0,vc (.pb 99999999999 0)),pI 3 (a0.plan.length:P),pL 61 X0.row x8,pI 62 (x8.length:P),pI 63 v9],[(99999999999,([aI v10.Forecast.Tide.Mean,aM Y v10.Forecast.Tide.Parts,aM X9.row v10.Forecast.Surges,aM X7.row v10.Chart.Points,aM X2.row v10.Chart.Segments,aM X6.row v10.Fleet,aI v10.Regime.Gap,aB v10.Regime.NoMeet]++dm v10.Crew.row++ [aM (rL X0.row) v11,.dat (.clo F_w0 caps_w0),.own 90000,.own 90001,.own 90002,aI v12,aI v13,aB v14]))],[(90000,4,W X0.row v15),(90001,1,W rI v16),(90002,1,W rI v17)]⟩ (D2 [] [] (D0 F_w0 caps_w0 zr) (D1 zr))
def eJ:=fun F_w0 caps_w0 (a0:Xf) (r1:Xj) (k_:Q→O Xf)=>∀{v5} {zr},k_ v5=H zr→Kh X 96 QN 8 [0,2] [99999999999,2] [90000,90001,90002] ⟨[(0,vc (.pb 99999999999 0)),pB 2],[(99999999999,([aI a0.h.Forecast.Tide.Mean,aM Y a0.h.Forecast.Tide.Parts,aM X9.row a0.h.Forecast.Surges,aM X7.row a0.h.Chart.Points,aM X2.row a0.h.Chart.Segments,aM X6.row a0.h.Fleet,aI a0.h.Regime.Gap,aB a0.h.Regime.NoMeet]++dm a0.h.Crew.row++ [aM (rL X0.row) a0.choices,.dat (.clo F_w0 caps_w0),.own 90000,.own 90001,.own 90002,aI a0.least.i0,aI a0.least.i1,aB v5])),(2,[aI r1.i0,aI r1.i1])],[(90000,4,W X0.row a0.plan),(90001,1,W rI a0.choice),(90002,1,W rI a0.best)]⟩ (D2 [] [] (D0 F_w0 caps_w0 zr) (D1 zr))
theorem A7j{w0:(N X0)→O Xj}{rec_:Xf→O Xf}{F_w0 caps_w0}(hF_w0:BA X F_w0=T)(h_w0:∀z0 zr,w0 z0=H zr→FC X F_w0 ([.sc (.sl (W X0.row z0))]++caps_w0.map .sc) [.ag [.v (.int .i64 zr.i0),.v (.int .i64 zr.i1)]])(h_rec:∀(a0:Xf) zr,rec_ a0=H zr→FCz X 96 [.p] (D0 F_w0 caps_w0 a0) (D1 a0) (D0 F_w0 caps_w0 zr) (D1 zr) []){a0 x8}{n:U}:eK F_w0 caps_w0 a0 x8 (DU w0 rec_ a0 x8 n):=by
 induction n with
 | zero=>intro _ _ _ _ _ _ _ _ _ r h; cases h
 | succ n ih=>
  intro v9 v10 v11 v12 v13 v14 v15 v16 v17 r h σ hσ S hS;refine ev hS ?_;rw[DU] at h;refine AM (AA ?_);obtain⟨h18,h⟩|⟨h18,h⟩:=ic h
  ·obtain⟨x19,h19,h⟩:=ob h;try simp only[hσ,h18,h19,A,B,C,E,F,J]
   refine Bv ?_;try simp only[h18,h19,A,B,C,E,F,J]
   refine An ?_;obtain⟨r20,h20,h⟩:=ob h;try simp only[h18,h19,A,B,C,E,F,J]
   refine O4 (Ag A1h h20) (by first | rfl | kernel_rfl) (E2 V) V (uf V) ?_;obtain⟨h21,h⟩|⟨h21,h⟩:=ic h
   ·try simp only[h18,h19,h21,A,B,C,E,F,J]
    obtain⟨h22,h⟩:=AR h;obtain⟨h23,h⟩:=AR h;refine E3 (ks:= [0,3,4,5,61,62,63]) (bs:= [99999999999,5]) (rs:= [90000,90001,90002]) (τ:=(Ef F_w0 caps_w0 a0 x8 v9 v10 v11 v12 v13 v14 v15 v16 v17 x19)) V (A7d F_w0 caps_w0 a0 x8 v9 v10 v11 v12 v13 v14 v15 v16 v17 x19 h22 h23 _ G G G G G G G G G G G G) ?_;simp only[Ef,B9,A5];try simp only[h18,h19,h21,h22,h23,A,B,C,E,F,J]
    refine KX ?_;obtain⟨r24,h24,h⟩:=ob h;try simp only[h18,h19,h21,h22,h23,A,B,C,E,F,J]
    refine GQ (h_rec _ _ h24) 99999999999 [90000,90001,90002] rfl V V V (by decide) V V V ?_;try simp only[h18,h19,h21,h22,h23,A,B,C,E,F,J]
    obtain⟨p25,h25,h⟩:=ob h;obtain⟨p26,h26,h⟩:=ob h;refine E3 (ks:= [0,3,61,62,63]) (bs:= [99999999999]) (rs:= [90000,90001,90002]) (τ:=(FY F_w0 caps_w0 a0 x8 v9 r24 p25 p26)) V (A7i F_w0 caps_w0 a0 x8 v9 r24 p25 p26 h25 h26 _ G G G G G G G G G G G G) ?_;simp only[FY,BC,A5];try simp only[h18,h19,h21,h22,h23,A,B,C,E,F,J]
    refine ih h ?_ (by kernel_rfl);try simp only[h18,h19,h21,h22,h23,A,B,C,E,F,J,pL,aM,Z]
   ·try simp only[h18,h19,h21,A,B,C,E,F,J]
    refine ih h ?_ (by kernel_rfl);try simp only[h18,h19,h21,A,B,C,E,F,J,pL,aM,Z]
  ·try simp only[hσ,h18,A,B,C,E,F,J]
   cases h;exact⟨trivial,[90000,90001,90002],by decide,by decide,V,V⟩
theorem cS{w0:(N X0)→O Xj}{rec_:Xf→O Xf}{F_w0 caps_w0}(hF_w0:BA X F_w0=T)(h_w0:∀z0 zr,w0 z0=H zr→FC X F_w0 ([.sc (.sl (W X0.row z0))]++caps_w0.map .sc) [.ag [.v (.int .i64 zr.i0),.v (.int .i64 zr.i1)]])(h_rec:∀(a0:Xf) zr,rec_ a0=H zr→FCz X 96 [.p] (D0 F_w0 caps_w0 a0) (D1 a0) (D0 F_w0 caps_w0 zr) (D1 zr) []){a0 r1}:eJ F_w0 caps_w0 a0 r1 (HY w0 rec_ a0 r1):=by
 intro v5 r h σ hσ S hS;refine ev hS ?_;refine AA ?_;unfold HY at h;obtain⟨h6,h⟩|⟨h6,h⟩:=ic h
 ·try simp only[hσ,h6,A,B,C,E,F,J]
  obtain⟨r7,h7,h⟩:=ob h;refine E3 (ks:= [0,2]) (bs:= [99999999999,2]) (rs:= [90000,90001,90002]) (τ:=(Jw F_w0 caps_w0 a0 r1 r7)) V (A66 F_w0 caps_w0 a0 r1 v5 r7 h7 _ G G G G G G G G) ?_;simp only[Jw,CK,A5];try simp only[h6,A,B,C,E,F,J]
  cases h;exact⟨trivial,[90000,90001,3008],by decide,by decide,V,V⟩
 ·obtain⟨x8,h8,h⟩:=ob h;try simp only[hσ,h6,h8,A,B,C,E,F,J]
  refine A7j hF_w0 h_w0 h_rec h ?_ (by kernel_rfl);try simp only[h6,h8,A,B,C,E,F,J,pL,aM,Z]
theorem nB:BM X 96=H ((Ei X 96 QN).strip,[],120):=by kernel_rfl
theorem A1o(w0:(N X0)→O Xj)(rec_:Xf→O Xf)(a0 r:Xf)(F_w0:FuncId)(caps_w0:N D)(hF_w0:BA X F_w0=T)(h_w0:∀z0 zr,w0 z0=H zr→FC X F_w0 ([.sc (.sl (W X0.row z0))]++caps_w0.map .sc) [.ag [.v (.int .i64 zr.i0),.v (.int .i64 zr.i1)]])(h_rec:∀(a0:Xf) zr,rec_ a0=H zr→FCz X 96 [.p] (D0 F_w0 caps_w0 a0) (D1 a0) (D0 F_w0 caps_w0 zr) (D1 zr) [])(h:Mz w0 rec_ a0=H r):FCz X 96 [.p] (D0 F_w0 caps_w0 a0) (D1 a0) (D0 F_w0 caps_w0 r) (D1 r) []:=by
 unfold Mz at h;refine Pn (σ:=⟨[(0,vc (.pb 99999999999 0))],[(99999999999,[aI a0.h.Forecast.Tide.Mean,aL (W Y a0.h.Forecast.Tide.Parts),aL (W X9.row a0.h.Forecast.Surges),aL (W X7.row a0.h.Chart.Points),aL (W X2.row a0.h.Chart.Segments),aL (W X6.row a0.h.Fleet),aI a0.h.Regime.Gap,aB a0.h.Regime.NoMeet,aI a0.h.Crew.Tugs,aI a0.h.Crew.Pilots,aI a0.h.Crew.Rest,aL (W rI a0.h.Crew.Moves),aL (W (rL X0.row) a0.choices),.dat (.clo F_w0 caps_w0),.own 90000,.own 90001,.own 90002,aI a0.least.i0,aI a0.least.i1,aB a0.found])],[(90000,4,W X0.row a0.plan),(90001,1,W rI a0.choice),(90002,1,W rI a0.best)]⟩) mixed nB V V V V ?_;refine F4 QN ?_;intro S hS;refine ev hS ?_;try simp only[A,B,C,E,F,J]
 refine An ?_;obtain⟨r1,h1,h⟩:=ob h;try simp only[A,B,C,E,F,J]
 refine pY (h_w0 _ _ h1) hF_w0 (by first | rfl | kernel_rfl) (by first | rfl | kernel_rfl) (E2 V) V (uf V) ?_;try simp only[A,B,C,E,F,J]
 refine O5 (m:= .box 2 [aI (0:P),aI (0:P)]) V V (OL V V) ?_;try simp only[A,B,C,E,F,J]
 refine An ?_;try simp only[A,B,C,E,F,J]
 refine An ?_;obtain⟨h2,h⟩|⟨h2,h⟩:=ic h
 ·obtain⟨r3,h3,h⟩:=ob h;try simp only[h2,A,B,C,E,F,J]
  refine BF (Ag A1q h3) ?_;obtain⟨h4,h⟩|⟨h4,h⟩:=ic h
  ·try simp only[h2,h4,A,B,C,E,F,J]
   refine cS hF_w0 h_w0 h_rec h ?_ (by kernel_rfl);try simp only[h2,h4,A,B,C,E,F,J,pL,aM,Z]
  ·try simp only[h2,h4,A,B,C,E,F,J]
   cases h;exact⟨trivial,[90000,90001,90002],by decide,by decide,V,V⟩
 ·try simp only[h2,A,B,C,E,F,J]
  refine cS hF_w0 h_w0 h_rec h ?_ (by kernel_rfl);try simp only[h2,A,B,C,E,F,J,pL,aM,Z]
theorem A1p(w0:(N X0)→O Xj)(F_w0:FuncId)(caps_w0:N D)(hF_w0:BA X F_w0=T)(h_w0:∀z0 zr,w0 z0=H zr→FC X F_w0 ([.sc (.sl (W X0.row z0))]++caps_w0.map .sc) [.ag [.v (.int .i64 zr.i0),.v (.int .i64 zr.i1)]]):∀(n:U) (a0 r:Xf),Du w0 n a0=H r→FCz X 96 [.p] (D0 F_w0 caps_w0 a0) (D1 a0) (D0 F_w0 caps_w0 r) (D1 r) []:=by
 intro n
 induction n with
 | zero=>intro _ r h; cases h
 | succ n ih=>intro a0 r h; rw[Du] at h; exact A1o w0 (Du w0 n) a0 r F_w0 caps_w0 hF_w0 h_w0 ih h
theorem A1n{w0}{a0}{r}(F_w0:FuncId)(caps_w0:N D)(hF_w0:BA X F_w0=T)(h_w0:∀z0 zr,w0 z0=H zr→FC X F_w0 ([.sc (.sl (W X0.row z0))]++caps_w0.map .sc) [.ag [.v (.int .i64 zr.i0),.v (.int .i64 zr.i1)]])(h:SG w0 a0=H r):FCz X 96 [.p] (D0 F_w0 caps_w0 a0) (D1 a0) (D0 F_w0 caps_w0 r) (D1 r) []:=A1p w0 F_w0 caps_w0 hF_w0 h_w0 bigN a0 r h
def co:N (N U × AItem):= [([],(L,.mv 17 (S 9))),([0],(L,.nilc 18 (S 17))),([1],(L,.faddr 19 (S 18) 16)),([2],(L,.load 20 (S 19) G 1)),([],(L,.mv 21 (S 9))),([4],(L,.nilc 22 (S 21))),([5],(L,.faddr 23 (S 22) 17)),([6],(L,.load 24 (S 23) T 2)),([],(L,.mv 25 (S 9))),([8],(L,.nilc 26 (S 25))),([9],(L,.faddr 27 (S 26) 19)),([10],(L,.load 28 (S 27) G 1)),([3,0,1,2,3],(L,.mv 6 (S 20))),([7,12,0,1,2,3,4,5,6,7,12],(L,.store (S 7) (S 24) 2)),([11,13,0,1,2,3,4,5,6,7,8,9,10,11,12,13],(L,.mv 8 (S 28)))]
def qn:Hw:=([],[(3,5,(L,.ownb 14 14 143232 4)),(3,6,(L,.ownb 14 15 143296 1)),(3,7,(L,.ownb 14 16 143360 1))])
abbrev Jn(r1:Xf)(c0_ c1_:Q)(c2_ c3_:Q)(c4_ c5_:Q)(c6_ c7_:Q)(c8_ c9_:Q)(c10_ c11_:Q)(c12_ c14_:Q)(bx_:N (U × N AC))(rs_:Rows):St:=⟨[(7,vc (.pb 7 0)),(9,vc (.pb 14 0)),(17,bif c0_ then vc (.pb 14 0) else .undef),(18,bif c1_ then vc (.pb 14 0) else .undef),(19,bif c2_ then vc (.pb 14 16) else .undef),(20,bif c3_ then vc (.own 143360) else .undef),(21,bif c4_ then vc (.pb 14 0) else .undef),(22,bif c5_ then vc (.pb 14 0) else .undef),(23,bif c6_ then vc (.pb 14 17) else .undef),(24,bif c7_ then va [aI r1.least.i0,aI r1.least.i1] else .undef),(25,bif c8_ then vc (.pb 14 0) else .undef),(26,bif c9_ then vc (.pb 14 0) else .undef),(27,bif c10_ then vc (.pb 14 19) else .undef),(28,bif c11_ then vc (aB r1.found) else .undef),(6,bif c12_ then vc (.own 143360) else .undef),(8,bif c14_ then vc (aB r1.found) else .undef)],bx_,rs_⟩
abbrev RF(F_a2:FuncId)(caps_a2:N D)(r1:Xf):St:=(Jn r1 T T T T T T T T T T T T T T [(7,[aI r1.least.i0,aI r1.least.i1]),(14,([aI r1.h.Forecast.Tide.Mean,aL (W Y r1.h.Forecast.Tide.Parts),aL (W X9.row r1.h.Forecast.Surges),aL (W X7.row r1.h.Chart.Points),aL (W X2.row r1.h.Chart.Segments),aL (W X6.row r1.h.Fleet),aI r1.h.Regime.Gap,aB r1.h.Regime.NoMeet]++dm r1.h.Crew.row++ [aL (W (rL X0.row) r1.choices),.dat (.clo F_a2 caps_a2),.own 143232,.own 143296,.own 143360,aI r1.least.i0,aI r1.least.i1,aB r1.found]))] [(143232,4,W X0.row r1.plan),(143296,1,W rI r1.choice),(143360,1,W rI r1.best)])
theorem A7l(F_a2:FuncId)(caps_a2:N D)(r1:Xf):∀(f:U) (b8 b9:Q) (b10 b11 b14:Q),Ad X co (RF F_a2 caps_a2 r1) f [T,T,T,T,T,T,T,T,b8,b9,b10,b11,T,T,b14] (Jn r1 T T T T T T T T b8 b9 b10 b11 T b14 [(7,[aI r1.least.i0,aI r1.least.i1]),(14,([aI r1.h.Forecast.Tide.Mean,aL (W Y r1.h.Forecast.Tide.Parts),aL (W X9.row r1.h.Forecast.Surges),aL (W X7.row r1.h.Chart.Points),aL (W X2.row r1.h.Chart.Segments),aL (W X6.row r1.h.Fleet),aI r1.h.Regime.Gap,aB r1.h.Regime.NoMeet]++dm r1.h.Crew.row++ [aL (W (rL X0.row) r1.choices),.dat (.clo F_a2 caps_a2),.own 143232,.own 143296,.own 143360,aI r1.least.i0,aI r1.least.i1,aB r1.found]))] [(143232,4,W X0.row r1.plan),(143296,1,W rI r1.choice),(143360,1,W rI r1.best)]):=by
 intro f
 induction f with
 | zero=>
  intro b8 b9 b10 b11 b14 h;obtain rfl:b8=T:=I.1 h b8 (by simp);obtain rfl:b9=T:=I.1 h b9 (by simp);obtain rfl:b10=T:=I.1 h b10 (by simp);obtain rfl:b11=T:=I.1 h b11 (by simp);obtain rfl:b14=T:=I.1 h b14 (by simp);rfl
 | succ f ih=>
  intro b8 b9 b10 b11 b14;refine Af ⟨?_,?_,?_,?_,?_,?_,?_,?_,?_,?_,?_,?_,?_,?_,?_,⟨⟩⟩<;>try first | (intro h; cases h; done) | (intro h0 hw; obtain rfl:=hz h0 rfl; (try obtain rfl:=hq hw 8 rfl rfl); (try obtain rfl:=hq hw 9 rfl rfl); (try obtain rfl:=hq hw 10 rfl rfl); (try obtain rfl:=hq hw 11 rfl rfl); refine np ?_; simp only[Jn,A5,A6,A2,A,B,C,E,F,J]; exact ih _ _ _ _ _)
theorem A7m(F_a2:FuncId)(caps_a2:N D)(r1:Xf):∀(f:U) (b0 b1:Q) (b2 b3:Q) (b4 b5:Q) (b6 b7:Q) (b8 b9:Q) (b10 b11 b12:Q),Ad X co (RF F_a2 caps_a2 r1) f [b0,b1,b2,b3,b4,b5,b6,b7,b8,b9,b10,b11,b12,G,G] (Jn r1 b0 b1 b2 b3 b4 b5 b6 b7 b8 b9 b10 b11 b12 G [(7,[aI (0:P),aI (0:P)]),(14,([aI r1.h.Forecast.Tide.Mean,aL (W Y r1.h.Forecast.Tide.Parts),aL (W X9.row r1.h.Forecast.Surges),aL (W X7.row r1.h.Chart.Points),aL (W X2.row r1.h.Chart.Segments),aL (W X6.row r1.h.Fleet),aI r1.h.Regime.Gap,aB r1.h.Regime.NoMeet]++dm r1.h.Crew.row++ [aL (W (rL X0.row) r1.choices),.dat (.clo F_a2 caps_a2),.own 143232,.own 143296,.own 143360,aI r1.least.i0,aI r1.least.i1,aB r1.found]))] [(143232,4,W X0.row r1.plan),(143296,1,W rI r1.choice),(143360,1,W rI r1.best)]):=by
 intro f
 induction f with
 | zero=>intro b0 b1 b2 b3 b4 b5 b6 b7 b8 b9 b10 b11 b12 h; simp at h
 | succ f ih=>
  intro b0 b1 b2 b3 b4 b5 b6 b7 b8 b9 b10 b11 b12;refine Af ⟨?_,?_,?_,?_,?_,?_,?_,?_,?_,?_,?_,?_,?_,?_,?_,⟨⟩⟩<;>try first | (intro _ hw; simp at hw; done) | (intro h0 hw; obtain rfl:=hz h0 rfl; (try obtain rfl:=hq hw 0 rfl rfl); (try obtain rfl:=hq hw 1 rfl rfl); (try obtain rfl:=hq hw 2 rfl rfl); (try obtain rfl:=hq hw 3 rfl rfl); (try obtain rfl:=hq hw 4 rfl rfl); (try obtain rfl:=hq hw 5 rfl rfl); (try obtain rfl:=hq hw 6 rfl rfl); (try obtain rfl:=hq hw 8 rfl rfl); (try obtain rfl:=hq hw 9 rfl rfl); (try obtain rfl:=hq hw 10 rfl rfl); refine np ?_; simp only[Jn,A5,A6,A2,A,B,C,E,F,J]; exact ih _ _ _ _ _ _ _ _ _ _ _ _ _)
  ·intro h0 hw;obtain rfl:=hq hw 0 rfl rfl;obtain rfl:=hq hw 1 rfl rfl;obtain rfl:=hq hw 2 rfl rfl;obtain rfl:=hq hw 3 rfl rfl;obtain rfl:=hq hw 4 rfl rfl;obtain rfl:=hq hw 5 rfl rfl;obtain rfl:=hq hw 6 rfl rfl;obtain rfl:=hq hw 7 rfl rfl;obtain rfl:=hq hw 12 rfl rfl;refine np ?_;try simp only[Jn,A5,A6,A2,A,B,C,E,F,J]
   exact A7l F_a2 caps_a2 r1 _ b8 b9 b10 b11 G
theorem A1k{a0}{a1}{a2}{r}(F_a2:FuncId)(caps_a2:N D)(hF_a2:BA X F_a2=T)(h_a2:∀z0 zr,a2 z0=H zr→FC X F_a2 ([.sc (.sl (W X0.row z0))]++caps_a2.map .sc) [.ag [.v (.int .i64 zr.i0),.v (.int .i64 zr.i1)]])(h:Q0 a0 a1 a2=H r):FC X 56 [.ag (X4.row a0),.sc (.sl (W (rL X0.row) a1)),.sc (.clo F_a2 caps_a2)] [.sc (.o 1 (W rI r.1)),.ag [.v (.int .i64 r.2.1.i0),.v (.int .i64 r.2.1.i1)],.sc (.v (.bool r.2.2))]:=by
 unfold Q0 at h;refine A4 mixed qn [6,.c 7 T 2,8] 29 ?_;intro S hS;refine ev hS ?_;simp only[A,B,C,E,F,J];try simp only[A,B,C,E,F,J]
 refine BE ?_;try simp only[A,B,C,E,F,J]
 refine Bv ?_;try simp only[A,B,C,E,F,J]
 refine BE ?_;try simp only[A,B,C,E,F,J]
 refine FE (cs':= [aI a0.Forecast.Tide.Mean,aL (W Y a0.Forecast.Tide.Parts),aL (W X9.row a0.Forecast.Surges),aL (W X7.row a0.Chart.Points),aL (W X2.row a0.Chart.Segments),aL (W X6.row a0.Fleet),aI a0.Regime.Gap,aB a0.Regime.NoMeet,aI a0.Crew.Tugs,aI a0.Crew.Pilots,aI a0.Crew.Rest,aL (W rI a0.Crew.Moves),aL (W (rL X0.row) a1),.dat (.clo F_a2 caps_a2),.own 143232,.nil,.nil,aI (0:P),aI (0:P),aB G]) V V V V ?_;try simp only[A,B,C,E,F,J]
 refine FE (cs':= [aI a0.Forecast.Tide.Mean,aL (W Y a0.Forecast.Tide.Parts),aL (W X9.row a0.Forecast.Surges),aL (W X7.row a0.Chart.Points),aL (W X2.row a0.Chart.Segments),aL (W X6.row a0.Fleet),aI a0.Regime.Gap,aB a0.Regime.NoMeet,aI a0.Crew.Tugs,aI a0.Crew.Pilots,aI a0.Crew.Rest,aL (W rI a0.Crew.Moves),aL (W (rL X0.row) a1),.dat (.clo F_a2 caps_a2),.own 143232,.own 143296,.nil,aI (0:P),aI (0:P),aB G]) V V V V ?_;try simp only[A,B,C,E,F,J]
 refine FE (cs':= [aI a0.Forecast.Tide.Mean,aL (W Y a0.Forecast.Tide.Parts),aL (W X9.row a0.Forecast.Surges),aL (W X7.row a0.Chart.Points),aL (W X2.row a0.Chart.Segments),aL (W X6.row a0.Fleet),aI a0.Regime.Gap,aB a0.Regime.NoMeet,aI a0.Crew.Tugs,aI a0.Crew.Pilots,aI a0.Crew.Rest,aL (W rI a0.Crew.Moves),aL (W (rL X0.row) a1),.dat (.clo F_a2 caps_a2),.own 143232,.own 143296,.own 143360,aI (0:P),aI (0:P),aB G]) V V V V ?_;try simp only[A,B,C,E,F,J]
 refine KX ?_;obtain⟨r1,h1,h⟩:=ob h;try simp only[A,B,C,E,F,J]
 refine GQ (A1n F_a2 caps_a2 hF_a2 h_a2 h1) 14 [143232,143296,143360] rfl V V V (by decide) V V V ?_;try simp only[A,B,C,E,F,J]
 refine E3 (ks:= [7,9]) (bs:= [7,14]) (rs:= [143232,143296,143360]) (τ:=(RF F_a2 caps_a2 r1)) V (A7m F_a2 caps_a2 r1 _ G G G G G G G G G G G G G) ?_;simp only[RF,Jn,A5];try simp only[A,B,C,E,F,J]
 cases h;try simp only[P5,A,B,C,E,F,J]
 trivial
def XS:Hw:=([(8,[3,6,7,8],[],[])],[])
def dP:=fun a0 (k_:P→P→O P)=>∀{v1 v2} {zr},k_ v1 v2=H zr→Kh X 98 XS 8 [3,6,7,8] [] [] ⟨[pI 3 v1,pL 6 X0.row a0,pI 7 (a0.length:P),pI 8 v2],[],[]⟩ (A7 [2] [.sc (.v (.int .i64 zr))])
theorem A7n{a0}{n:U}:dP a0 (HB a0 n):=by
 induction n with
 | zero=>intro _ _ r h; cases h
 | succ n ih=>
  intro v1 v2 r h σ hσ;rw[HB] at h;exact gc
instance B0e:Ct 98 (∀{a0} {r},LX a0=H r→FC X 98 [.sc (.sl (W X0.row a0))] [.sc (.v (.int .i64 r))]):=by
 refine⟨fun h=> ?_⟩;unfold LX at h;refine A4 mixed XS [2] 18 ?_;have k0:= @A7n;exact gc
theorem A1b{a0}{r}(h:Mo a0=H r):FC X 58 [.sc (.sl (W X0.row a0))] [.ag [.v (.int .i64 r.i0),.v (.int .i64 r.i1)]]:=by
 unfold Mo at h;refine A4 mixed h0 [.c 2 T 2] 6 ?_;exact gc
instance A98:Ct 27 (∀{a0} {a1} {r},LQ a0 a1=H r→FC X 27 [.ag (X4.row a0),.sc (.sl (W zC a1))] [.sc (.o 1 (W rI r.1)),.sc (.v (.int .i64 r.2.1)),.sc (.v (.bool r.2.2))]):=by
 refine⟨fun{a0} {a1} {r} h=> ?_⟩;unfold LQ at h;refine A4 mixed h0 [4,5,6] 27 ?_;intro S hS;refine ev hS ?_;simp only[A,B,C,E,F,J];try simp only[A,B,C,E,F,J]
 refine BE ?_;obtain⟨r1,h1,h⟩:=ob h;try simp only[A,B,C,E,F,J]
 refine AE (Ag A0u h1) ?_;obtain⟨h2,h⟩|⟨h2,h⟩:=ic h
 ·try simp only[h2,A,B,C,E,F,J]
  refine An ?_;obtain⟨r3,h3,h⟩:=ob h;try simp only[h2,A,B,C,E,F,J]
  refine BF (Ag A1a h3) ?_;obtain⟨r4,h4,h⟩:=ob h;try simp only[h2,A,B,C,E,F,J]
  refine O4 (A1k 58 [] (by kernel_rfl) (fun z0 zr zh=>A1b zh) h4) (by first | rfl | kernel_rfl) (Db V ⟨Dc,V,V,V,⟨⟩⟩) V (uf V) ?_;try simp only[h2,A,B,C,E,F,J]
  refine O5 (m:= .box 8 [aI (0:P),aI (0:P)]) V V (OL V V) ?_;try simp only[h2,A,B,C,E,F,J]
  refine An ?_;try simp only[h2,A,B,C,E,F,J]
  refine An ?_;try simp only[h2,A,B,C,E,F,J]
  cases h;trivial
 ·try simp only[h2,A,B,C,E,F,J]
  cases h;trivial
def XT:Hw:=([(14,[1,12,13,14],[],[])],[])
def dY:=fun a1 (k_:P→O Q)=>∀{v2} {zr},k_ v2=H zr→Kh X 99 XT 14 [1,12,13,14] [] [] ⟨[pL 1 rI a1,pL 12 rI a1,pI 13 (a1.length:P),pI 14 v2],[],[]⟩ (A7 [4] [.sc (.v (.bool zr))])
theorem A7o{a1}{n:U}:dY a1 (HH a1 n):=by
 induction n with
 | zero=>intro _ r h; cases h
 | succ n ih=>
  intro v2 r h σ hσ;rw[HH] at h;exact gc
instance B0t:Ct 99 (∀{a0} {a1} {r},K0 a0 a1=H r→FC X 99 [.sc (.sl (W zC a0)),.sc (.sl (W rI a1))] [.sc (.v (.bool r))]):=by
 refine⟨fun h=> ?_⟩;unfold K0 at h;refine A4 mixed XT [4] 33 ?_;have k0:= @A7o;exact gc
def T9:Hw:=([(8,[0,3,6,7,8],[],[]),(21,[0,3,4,6,7,8,24],[],[])],[])
def dO:=fun a0 v1 v2 (k_:Q→O P)=>∀{v7} {zr},k_ v7=H zr→Kh X 139 T9 21 [0,3,4,6,7,8,24] [] [] ⟨[pL 0 X0.row a0,pI 3 v1,pI 4 v2,pL 6 X0.row a0,pI 7 (a0.length:P),pI 8 v2,(24,vc (aB v7))],[],[]⟩ (A7 [2] [.sc (.v (.int .i64 zr))])
def UJ:=fun a0 (k_:P→P→O P)=>∀{v1 v2} {zr},k_ v1 v2=H zr→Kh X 139 T9 8 [0,3,6,7,8] [] [] ⟨[pL 0 X0.row a0,pI 3 v1,pL 6 X0.row a0,pI 7 (a0.length:P),pI 8 v2],[],[]⟩ (A7 [2] [.sc (.v (.int .i64 zr))])
theorem cT{a0 v1 v2}{Om}(qu:UJ a0 Om):dO a0 v1 v2 (LW a0 v1 v2 Om):=by
 intro v7 r h σ hσ;unfold LW at h;have k0:= @qu;exact gc
theorem A7p{a0}{n:U}:UJ a0 (HA a0 n):=by
 induction n with
 | zero=>intro _ _ r h; cases h
 | succ n ih=>
  intro v1 v2 r h σ hσ S hS;refine ev hS ?_;rw[HA] at h;refine AM (AA ?_);obtain⟨h3,h⟩|⟨h3,h⟩:=ic h
  ·obtain⟨x4,h4,h⟩:=ob h;try simp only[hσ,h3,h4,A,B,C,E,F,J]
   refine Bv ?_;try simp only[h3,h4,A,B,C,E,F,J]
   refine An ?_;obtain⟨h5,h⟩|⟨h5,h⟩:=ic h
   ·try simp only[h3,h4,h5,A,B,C,E,F,J]
    refine cT ih h ?_ (by kernel_rfl);try simp only[h3,h4,h5,A,B,C,E,F,J,pL,aM,Z]
   ·obtain⟨x6,h6,h⟩:=ob h;try simp only[h3,h4,h5,h6,A,B,C,E,F,J]
    refine cT ih h ?_ (by kernel_rfl);try simp only[h3,h4,h5,h6,A,B,C,E,F,J,pL,aM,Z]
  ·try simp only[hσ,h3,A,B,C,E,F,J]
   cases h;exact t0
instance A0z:Ct 139 (∀{a0} {r},PP a0=H r→FC X 139 [.sc (.sl (W X0.row a0))] [.sc (.v (.int .i64 r))]):=by
 refine⟨fun h=> ?_⟩;unfold PP at h;refine A4 mixed T9 [2] 28 ?_;have k0:= @A7p;exact gc
instance A00:Ct 100 (∀{a0} {a1} {r},LZ a0 a1=H r→FC X 100 [.ag (X4.row a0),.ag (zC a1)] [.sc (.v (.int .i64 r))]):=by
 refine⟨fun{a0} {a1} {r} h=> ?_⟩;unfold LZ at h;refine A4 mixed h0 [4] 18 ?_;intro S hS;refine ev hS ?_;simp only[A,B,C,E,F,J];try simp only[A,B,C,E,F,J]
 refine BE ?_;try simp only[A,B,C,E,F,J]
 refine BE ?_;obtain⟨r1,h1,h⟩:=ob h;try simp only[A,B,C,E,F,J]
 refine AE (Ag bW h1) ?_;obtain⟨h2,h⟩|⟨h2,h⟩:=ic h
 ·try simp only[h2,A,B,C,E,F,J]
  cases h;exact t0
 ·obtain⟨r3,h3,h⟩:=ob h;try simp only[h2,A,B,C,E,F,J]
  refine E4 (Ag A0z h3) V (E2 V) V (uf V) ?_;obtain⟨x4,h4,h⟩:=ob h;have h4n:=Ay h4;try simp only[h2,h4,h4n,A,B,C,E,F,J]
  cases h;exact t0
def QO:Hw:=([(8,[3,5,7,15,16,17],[3,5],[960]),(22,[3,5,7,9,15,16,17,23,24,25],[3,5,9],[960,1472]),(37,[3,5,7,9,12,15,16,17,23,24,25,52],[3,5,9],[960,1472])],[])
def db:=fun v7 r1 v3 r6 v8 (a0:X4) (a2:Xb) (x5:X0) (k_:P→Q→O P)=>∀{v15 v16} {zr},k_ v15 v16=H zr→Kh X 101 QO 37 [3,5,7,9,12,15,16,17,23,24,25,52] [3,5,9] [960,1472] ⟨[pB 3,pB 5,pI 7 v7,pB 9,pI 12 v15,pW 15 960,pI 16 (r1.length:P),pI 17 v3,pW 23 1472,pI 24 (r6.length:P),pI 25 v8,(52,vc (aB v16))],[(3,([aI a0.Forecast.Tide.Mean,aM Y a0.Forecast.Tide.Parts,aM X9.row a0.Forecast.Surges,aM X7.row a0.Chart.Points,aM X2.row a0.Chart.Segments,aM X6.row a0.Fleet,aI a0.Regime.Gap,aB a0.Regime.NoMeet]++dm a0.Crew.row)),(5,(dm a2.row)),(9,(dm x5.row))],[(960,4,W X0.row r1),(1472,4,W X0.row r6)]⟩ (A7 [6] [.sc (.v (.int .i64 zr))])
def UM:=fun r1 v3 r6 (a0:X4) (a2:Xb) (x5:X0) (k_:P→P→O P)=>∀{v7 v8} {zr},k_ v7 v8=H zr→Kh X 101 QO 22 [3,5,7,9,15,16,17,23,24,25] [3,5,9] [960,1472] ⟨[pB 3,pB 5,pI 7 v7,pB 9,pW 15 960,pI 16 (r1.length:P),pI 17 v3,pW 23 1472,pI 24 (r6.length:P),pI 25 v8],[(3,([aI a0.Forecast.Tide.Mean,aM Y a0.Forecast.Tide.Parts,aM X9.row a0.Forecast.Surges,aM X7.row a0.Chart.Points,aM X2.row a0.Chart.Segments,aM X6.row a0.Fleet,aI a0.Regime.Gap,aB a0.Regime.NoMeet]++dm a0.Crew.row)),(5,(dm a2.row)),(9,(dm x5.row))],[(960,4,W X0.row r1),(1472,4,W X0.row r6)]⟩ (A7 [6] [.sc (.v (.int .i64 zr))])
def UL:=fun r1 (a0:X4) (a2:Xb) (k_:P→P→O P)=>∀{v2 v3} {zr},k_ v2 v3=H zr→Kh X 101 QO 8 [3,5,7,15,16,17] [3,5] [960] ⟨[pB 3,pB 5,pI 7 v2,pW 15 960,pI 16 (r1.length:P),pI 17 v3],[(3,([aI a0.Forecast.Tide.Mean,aM Y a0.Forecast.Tide.Parts,aM X9.row a0.Forecast.Surges,aM X7.row a0.Chart.Points,aM X2.row a0.Chart.Segments,aM X6.row a0.Fleet,aI a0.Regime.Gap,aB a0.Regime.NoMeet]++dm a0.Crew.row)),(5,(dm a2.row))],[(960,4,W X0.row r1)]⟩ (A7 [6] [.sc (.v (.int .i64 zr))])
theorem Uo{v7 r1 v3 r6 v8 a0 a2 x5}{On}(qx:UM r1 v3 r6 a0 a2 x5 On):db v7 r1 v3 r6 v8 a0 a2 x5 (K4 v7 r1 v3 r6 v8 a0 a2 x5 On):=by
 intro v15 v16 r h σ hσ;unfold K4 at h;have k0:= @qx;exact gc
theorem A7q{r1 v3 r6 a0 a2 x5}{J3}(qw:UL r1 a0 a2 J3){n:U}:UM r1 v3 r6 a0 a2 x5 (Gf r1 v3 r6 a0 a2 x5 J3 n):=by
 induction n with
 | zero=>intro _ _ r h; cases h
 | succ n ih=>
  intro v7 v8 r h σ hσ S hS;refine ev hS ?_;rw[Gf] at h;refine AM (AA ?_);obtain⟨h9,h⟩|⟨h9,h⟩:=ic h
  ·obtain⟨x10,h10,h⟩:=ob h;have h10n:=Ay h10;try simp only[hσ,h9,h10,h10n,A,B,C,E,F,J]
   refine Bv ?_;obtain⟨h11,h⟩|⟨h11,h⟩:=ic h
   ·obtain⟨r12,h12,h⟩:=ob h;try simp only[h9,h10,h10n,h11,A,B,C,E,F,J]
    refine AE (Ag Ub h12) ?_;try simp only[h9,h10,h10n,h11,A,B,C,E,F,J]
    refine Uo ih h ?_ (by kernel_rfl);try simp only[h9,h10,h10n,h11,A,B,C,E,F,J,pL,aM,Z]
   ·obtain⟨h13,h⟩|⟨h13,h⟩:=ic h
    ·obtain⟨r14,h14,h⟩:=ob h;try simp only[h9,h10,h10n,h11,h13,A,B,C,E,F,J]
     refine AE (Ag Ub h14) ?_;try simp only[h9,h10,h10n,h11,h13,A,B,C,E,F,J]
     refine Uo ih h ?_ (by kernel_rfl);try simp only[h9,h10,h10n,h11,h13,A,B,C,E,F,J,pL,aM,Z]
    ·try simp only[h9,h10,h10n,h11,h13,A,B,C,E,F,J]
     refine Uo ih h ?_ (by kernel_rfl);try simp only[h9,h10,h10n,h11,h13,A,B,C,E,F,J,pL,aM,Z]
  ·try simp only[hσ,h9,A,B,C,E,F,J]
   refine qw h ?_ (by kernel_rfl);try simp only[h9,A,B,C,E,F,J,pL,aM,Z]
theorem A7r{r1 a0 a2}{n:U}:UL r1 a0 a2 (K3 r1 a0 a2 n):=by
 induction n with
 | zero=>intro _ _ r h; cases h
 | succ n ih=>
  intro v2 v3 r h σ hσ S hS;refine ev hS ?_;rw[K3] at h;refine AM (AA ?_);obtain⟨h4,h⟩|⟨h4,h⟩:=ic h
  ·obtain⟨x5,h5,h⟩:=ob h;have h5n:=Ay h5;try simp only[hσ,h4,h5,h5n,A,B,C,E,F,J]
   refine Bv ?_;obtain⟨r6,h6,h⟩:=ob h;try simp only[h4,h5,h5n,A,B,C,E,F,J]
   refine AE (Ag bW h6) ?_;try simp only[h4,h5,h5n,A,B,C,E,F,J]
   refine A7q ih h ?_ (by kernel_rfl);try simp only[h4,h5,h5n,A,B,C,E,F,J,pL,aM,Z]
  ·try simp only[hσ,h4,A,B,C,E,F,J]
   cases h;exact t0
instance A03:Ct 101 (∀{a0} {a1} {a2} {r},Mb a0 a1 a2=H r→FC X 101 [.ag (X4.row a0),.ag (zC a1),.ag (zC a2)] [.sc (.v (.int .i64 r))]):=by
 refine⟨fun h=> ?_⟩;unfold Mb at h;refine A4 mixed QO [6] 57 ?_;have k0:= @A7r;exact gc
def QP:Hw:=([(5,[1,2,3,21],[3],[]),(16,[1,3,8,22,23,24],[3],[]),(40,[1,3,8,11,22,23,24],[3],[])],[])
def dI:=fun a1 v6 a2 v7 (a0:X4) (k_:P→O (P × Q))=>∀{v17} {zr},k_ v17=H zr→Kh X 61 QP 40 [1,3,8,11,22,23,24] [3] [] ⟨[pL 1 zC a1,pB 3,pI 8 v6,pI 11 v17,pL 22 rI a2,pI 23 (a2.length:P),pI 24 v7],[(3,([aI a0.Forecast.Tide.Mean,aM Y a0.Forecast.Tide.Parts,aM X9.row a0.Forecast.Surges,aM X7.row a0.Chart.Points,aM X2.row a0.Chart.Segments,aM X6.row a0.Fleet,aI a0.Regime.Gap,aB a0.Regime.NoMeet]++dm a0.Crew.row))],[]⟩ (A7 [6,7] [.sc (.v (.int .i64 zr.1)),.sc (.v (.bool zr.2))])
def UE:=fun a1 a2 (a0:X4) (k_:P→P→O (P × Q))=>∀{v6 v7} {zr},k_ v6 v7=H zr→Kh X 61 QP 16 [1,3,8,22,23,24] [3] [] ⟨[pL 1 zC a1,pB 3,pI 8 v6,pL 22 rI a2,pI 23 (a2.length:P),pI 24 v7],[(3,([aI a0.Forecast.Tide.Mean,aM Y a0.Forecast.Tide.Parts,aM X9.row a0.Forecast.Surges,aM X7.row a0.Chart.Points,aM X2.row a0.Chart.Segments,aM X6.row a0.Fleet,aI a0.Regime.Gap,aB a0.Regime.NoMeet]++dm a0.Crew.row))],[]⟩ (A7 [6,7] [.sc (.v (.int .i64 zr.1)),.sc (.v (.bool zr.2))])
def dH:=fun a1 a2 (a0:X4) (k_:Q→O (P × Q))=>∀{v4} {zr},k_ v4=H zr→Kh X 61 QP 5 [1,2,3,21] [3] [] ⟨[pL 1 zC a1,pL 2 rI a2,pB 3,(21,vc (aB v4))],[(3,([aI a0.Forecast.Tide.Mean,aM Y a0.Forecast.Tide.Parts,aM X9.row a0.Forecast.Surges,aM X7.row a0.Chart.Points,aM X2.row a0.Chart.Segments,aM X6.row a0.Fleet,aI a0.Regime.Gap,aB a0.Regime.NoMeet]++dm a0.Crew.row))],[]⟩ (A7 [6,7] [.sc (.v (.int .i64 zr.1)),.sc (.v (.bool zr.2))])
theorem Up{a1 v6 a2 v7 a0}{R4}(qp:UE a1 a2 a0 R4):dI a1 v6 a2 v7 a0 (G7 a1 v6 a2 v7 a0 R4):=by
 intro v17 r h σ hσ;unfold G7 at h;have k0:= @qp;exact gc
theorem A7s{a1 a2 a0}{n:U}:UE a1 a2 a0 (G6 a1 a2 a0 n):=by
 induction n with
 | zero=>intro _ _ r h; cases h
 | succ n ih=>
  intro v6 v7 r h σ hσ S hS;refine ev hS ?_;rw[G6] at h;refine AM (AA ?_);obtain⟨h8,h⟩|⟨h8,h⟩:=ic h
  ·obtain⟨x9,h9,h⟩:=ob h;obtain⟨h10,h⟩|⟨h10,h⟩:=ic h
   ·try simp only[hσ,h8,h9,h10,A,B,C,E,F,J]
    refine An ?_;obtain⟨x11,h11,h⟩:=ob h;obtain⟨r12,h12,h⟩:=ob h;try simp only[h8,h9,h10,h11,A,B,C,E,F,J]
    refine BF (Ag A00 h12) ?_;try simp only[h8,h9,h10,h11,A,B,C,E,F,J]
    refine Up ih h ?_ (by kernel_rfl);try simp only[h8,h9,h10,h11,A,B,C,E,F,J,pL,aM,Z]
   ·obtain⟨h13,h⟩|⟨h13,h⟩:=ic h
    ·try simp only[hσ,h8,h9,h10,h13,A,B,C,E,F,J]
     refine An ?_;obtain⟨x14,h14,h⟩:=ob h;obtain⟨x15,h15,h⟩:=ob h;obtain⟨r16,h16,h⟩:=ob h;try simp only[h8,h9,h10,h13,h14,h15,A,B,C,E,F,J]
     refine BF (Ag A03 h16) ?_;try simp only[h8,h9,h10,h13,h14,h15,A,B,C,E,F,J]
     refine Up ih h ?_ (by kernel_rfl);try simp only[h8,h9,h10,h13,h14,h15,A,B,C,E,F,J,pL,aM,Z]
    ·try simp only[hσ,h8,h9,h10,h13,A,B,C,E,F,J]
     refine Up ih h ?_ (by kernel_rfl);try simp only[h8,h9,h10,h13,A,B,C,E,F,J,pL,aM,Z]
  ·try simp only[hσ,h8,A,B,C,E,F,J]
   cases h;trivial
theorem A7t{a1 a2 a0}:dH a1 a2 a0 (LU a1 a2 a0):=by
 intro v4 r h σ hσ;unfold LU at h;have k0:= @A7s;exact gc
instance B0b:Ct 61 (∀{a0} {a1} {a2} {r},JU a0 a1 a2=H r→FC X 61 [.ag (X4.row a0),.sc (.sl (W zC a1)),.sc (.sl (W rI a2))] [.sc (.v (.int .i64 r.1)),.sc (.v (.bool r.2))]):=by
 refine⟨fun h=> ?_⟩;unfold JU at h;refine A4 mixed QP [6,7] 60 ?_;have k0:= @A7t;exact gc
abbrev CO(a0:X4)(a1:N Xb)(f:Q)(k:P)(b:N P):N (N D):= [X4.row a0,[.sl (W zC a1)],[.bool f],[.int .i64 k],[.sl (W rI b)]]
abbrev Lz(a0:X4)(a1:N Xb)(f:Q)(k:P)(b:N P):N (U × N AC):= [(99999999999,W AC.dat (X4.row a0)),(100000000000,[AC.dat (.sl (W zC a1))]),(100000000001,[AC.dat (.bool f)]),(100000000002,[AC.dat (.int .i64 k)]),(100000000003,[AC.dat (.sl (W rI b))])]
theorem A08{a0 a1 m f k b r}(h:Gi a0 a1 m f k b=H r):FCw X 60 [.r,.p 0,.p 1,.p 2,.p 3,.p 4] 1 (CO a0 a1 f k b) (W rI m) (CO a0 a1 r.1 r.2.1 r.2.2) (W rI m):=by
 unfold Gi at h;refine UB (σ:=⟨[(0,vc (.own 99999999999)),(1,vc (.pb 99999999999 0)),(2,vc (.pb 100000000000 0)),(3,vc (.pb 100000000001 0)),(4,vc (.pb 100000000002 0)),(5,vc (.pb 100000000003 0))],Lz a0 a1 f k b,[(99999999999,1,W rI m)]⟩) (c:=Ei X 60 ([],[(5,2,(L,.frz 1728))])) (nt:=29) mixed (by kernel_rfl) V V ?_;refine F4 ([],[(5,2,(L,.frz 1728))]) ?_;exact gc
def LA:Hw:=([(4,[0,1,4],[99999999999,100000000000,100000000001,100000000002,100000000003],[99999999999]),(13,[0,1,4],[99999999999,100000000000,100000000001,100000000002,100000000003],[99999999999]),(24,[0,1,4,5],[99999999999,100000000000,100000000001,100000000002,100000000003],[99999999999])],[])
def dn:=fun a0 a1 m f k b (k_:P→O (N P × Q × P × N P))=>∀{v zr},k_ v=H zr→Kh X 59 LA 4 [0,1,4] [99999999999,100000000000,100000000001,100000000002,100000000003] [99999999999] ⟨[(0,vc (.own 99999999999)),(1,vc (.clo 60 [99999999999,100000000000,100000000001,100000000002,100000000003])),pI 4 v],Lz a0 a1 f k b,[(99999999999,1,W rI m)]⟩ (Lv 1 (CO a0 a1 zr.2.1 zr.2.2.1 zr.2.2.2) (W rI zr.1))
def dp:=fun a0 a1 m f k b (k_:P→O (N P × Q × P × N P))=>∀{v zr},k_ v=H zr→Kh X 59 LA 13 [0,1,4] [99999999999,100000000000,100000000001,100000000002,100000000003] [99999999999] ⟨[(0,vc (.own 99999999999)),(1,vc (.clo 60 [99999999999,100000000000,100000000001,100000000002,100000000003])),pI 4 v],Lz a0 a1 f k b,[(99999999999,1,W rI m)]⟩ (Lv 1 (CO a0 a1 zr.2.1 zr.2.2.1 zr.2.2.2) (W rI zr.1))
def dq:=fun a0 a1 i (k_:P→N P→Q→P→N P→O (N P × Q × P × N P))=>∀{v m f k b zr},k_ v m f k b=H zr→Kh X 59 LA 24 [0,1,4,5] [99999999999,100000000000,100000000001,100000000002,100000000003] [99999999999] ⟨[(0,vc (.own 99999999999)),(1,vc (.clo 60 [99999999999,100000000000,100000000001,100000000002,100000000003])),pI 4 i,pI 5 v],Lz a0 a1 f k b,[(99999999999,1,W rI m)]⟩ (Lv 1 (CO a0 a1 zr.2.1 zr.2.2.1 zr.2.2.2) (W rI zr.1))
theorem te{rec_:N P→Q→P→N P→O (N P × Q × P × N P)}(l_rec:∀{m f k b r},rec_ m f k b=H r→r.1.length=m.length){i:P}:∀{n v m f k b r},DR rec_ i n v m f k b=H r→r.1.length=m.length:=by
 intro n
 induction n with
 | zero=>intro _ _ _ _ _ _ h; cases h
 | succ n ih=>
  intro v m f k b r h;rw[DR] at h;obtain⟨_,h⟩|⟨_,h⟩:=ic h
  ·obtain⟨x1,h1,h⟩:=ob h;obtain⟨_,h⟩|⟨_,h⟩:=ic h
   ·obtain⟨x2,h2,h⟩:=ob h;obtain⟨x3,h3,h⟩:=ob h;obtain⟨r4,h4,h⟩:=ob h;obtain⟨x5,h5,h⟩:=ob h;obtain⟨x6,h6,h⟩:=ob h;have:=l_rec h4;have:=ih h;simp only[List.length_set] at *
    omega
   ·exact ih h
  ·cases h; rfl
theorem YN{rec_:N P→Q→P→N P→O (N P × Q × P × N P)}(l_rec:∀{m f k b r},rec_ m f k b=H r→r.1.length=m.length){a0 a1 m f k b v r}(h:Gh rec_ a0 a1 m f k b v=H r):r.1.length=m.length:=by
 unfold Gh at h;obtain⟨_,h⟩|⟨_,h⟩:=ic h
 ·obtain⟨r1,h1,h⟩:=ob h;cases h; rfl
 ·exact te l_rec h
theorem td{rec_:N P→Q→P→N P→O (N P × Q × P × N P)}(l_rec:∀{m f k b r},rec_ m f k b=H r→r.1.length=m.length){a0 a1 m f k b}:∀{n v r},DQ rec_ a0 a1 m f k b n v=H r→r.1.length=m.length:=by
 intro n
 induction n with
 | zero=>intro _ _ h; cases h
 | succ n ih=>
  intro v r h;rw[DQ] at h;obtain⟨_,h⟩|⟨_,h⟩:=ic h
  ·obtain⟨x1,h1,h⟩:=ob h;obtain⟨_,h⟩|⟨_,h⟩:=ic h
   ·exact ih h
   ·exact YN l_rec h
  ·exact YN l_rec h
theorem YO{a0 a1}:∀{n m f k b r},Gj a0 a1 n m f k b=H r→r.1.length=m.length:=by
 intro n
 induction n with
 | zero=>intro _ _ _ _ _ h; cases h
 | succ n ih=>intro _ _ _ _ _ h; exact td ih h
theorem tc{a0 a1 m f k b r}(h:PX a0 a1 m f k b=H r):r.1.length=m.length:=YO h
section
variable {a0 : X4} {a1 : N Xb} {rec_ : N P → Q → P → N P → O (N P × Q × P × N P)} (h_rec : ∀ {m f k b r},rec_ m f k b = H r → FCw X 59 [.r,.clo 60 [0,1,2,3,4]] 1 (CO a0 a1 f k b) (W rI m) (CO a0 a1 r.2.1 r.2.2.1 r.2.2.2) (W rI r.1)) (l_rec : ∀ {m f k b r},rec_ m f k b = H r → r.1.length = m.length)
include h_rec l_rec
theorem A7u{i:P}{n:U}:dq a0 a1 i (DR rec_ i n):=by
 induction n with
 | zero=>intro _ _ _ _ _ _ h; cases h
 | succ n ih=>
  intro v m f k b zr h σ hσ S hS;refine ev hS ?_;rw[DR] at h;refine AM (AA ?_);obtain⟨h71,h⟩|⟨h71,h⟩:=ic h
  ·obtain⟨x1,h1,h⟩:=ob h;obtain⟨h72,h⟩|⟨h72,h⟩:=ic h
   ·obtain⟨x2,h2,h⟩:=ob h;obtain⟨x3,h3,h⟩:=ob h;obtain⟨r4,h4,h⟩:=ob h;obtain⟨x5,h5,h⟩:=ob h;obtain⟨x6,h6,h⟩:=ob h;have n1:=Ay h1;have n2:=Ay h2;have n3:=Ay h3;have n5:=Ay h5;have n6:=Ay h6;try simp only[hσ,h71,h1,n1,h72,h2,n2,A,B,C,E,F,J]
    refine CE (row:=rI) (y:=v) V V n2 V V (by rfl) ?_;try simp only[hσ,h71,h1,n1,h72,h2,h3,A,B,C,E,F,J]
    refine CE (row:=rI) (y:=i) V V n3 V V (by rfl) ?_;try simp only[hσ,h71,h1,n1,h72,h2,h3,A,B,C,E,F,J]
    refine KX (Wx (h_rec h4) [99999999999,100000000000,100000000001,100000000002,100000000003] 99999999999 ?_ (by rw[zF,zF]; exact l_rec h4));simp only[St.behindW,Dl];try simp only[hσ,h71,h5,A,B,C,E,F,J]
    refine CE (row:=rI) (y:=(-1:P)) V V n5 V V (by rfl) ?_;try simp only[hσ,h71,h5,h6,A,B,C,E,F,J]
    refine CE (row:=rI) (y:=(-1:P)) V V n6 V V (by rfl) ?_;try simp only[hσ,h71,h5,h6,A,B,C,E,F,J]
    refine ih h ?_ (by kernel_rfl);(try simp only[A,B,C,E,F,J,pL,aM,Z])<;>rfl
   ·have n1:=Ay h1;try simp only[hσ,h71,h1,n1,h72,A,B,C,E,F,J]
    refine ih h ?_ (by kernel_rfl);(try simp only[h71,h1,h72,A,B,C,E,F,J,pL,aM,Z])<;>rfl
  ·try simp only[hσ,h71,A,B,C,E,F,J]
   cases h;repeat' constructor
theorem cU{m f k b}:dp a0 a1 m f k b (Gh rec_ a0 a1 m f k b):=by
 intro v zr h σ hσ S hS;refine ev hS ?_;refine AA ?_;unfold Gh at h;obtain⟨h71,h⟩|⟨h71,h⟩:=ic h
 ·obtain⟨r1,h1,h⟩:=ob h;try simp only[hσ,h71,A,B,C,E,F,J]
  refine pV (A08 h1) [99999999999,100000000000,100000000001,100000000002,100000000003] 99999999999 ?_ V (by kernel_rfl);simp only[St.behindW,Dl];try simp only[hσ,h71,A,B,C,E,F,J]
  cases h;repeat' constructor
 ·try simp only[hσ,h71,A,B,C,E,F,J]
  refine A7u h_rec l_rec h ?_ (by kernel_rfl);(try simp only[h71,A,B,C,E,F,J,pL,aM,Z])<;>rfl
theorem A7w{m f k b}{n:U}:dn a0 a1 m f k b (DQ rec_ a0 a1 m f k b n):=by
 induction n with
 | zero=>intro _ _ h; cases h
 | succ n ih=>
  intro v zr h σ hσ S hS;refine ev hS ?_;rw[DQ] at h;refine AM (AA ?_);obtain⟨h71,h⟩|⟨h71,h⟩:=ic h
  ·obtain⟨x1,h1,h⟩:=ob h;obtain⟨h72,h⟩|⟨h72,h⟩:=ic h
   ·have n1:=Ay h1;try simp only[hσ,h71,h1,n1,h72,A,B,C,E,F,J]
    refine ih h ?_ (by kernel_rfl);(try simp only[h71,h1,h72,A,B,C,E,F,J,pL,aM,Z])<;>rfl
   ·have n1:=Ay h1;try simp only[hσ,h71,h1,n1,h72,A,B,C,E,F,J]
    refine cU h_rec l_rec h ?_ (by kernel_rfl);(try simp only[h71,h1,h72,A,B,C,E,F,J,pL,aM,Z])<;>rfl
  ·try simp only[hσ,h71,A,B,C,E,F,J]
   refine cU h_rec l_rec h ?_ (by kernel_rfl);(try simp only[h71,A,B,C,E,F,J,pL,aM,Z])<;>rfl
end
theorem A07{a0 a1 m f k b r}{rec_:N P→Q→P→N P→O (N P × Q × P × N P)}(h_rec:∀{m f k b r},rec_ m f k b=H r→FCw X 59 [.r,.clo 60 [0,1,2,3,4]] 1 (CO a0 a1 f k b) (W rI m) (CO a0 a1 r.2.1 r.2.2.1 r.2.2.2) (W rI r.1))(l_rec:∀{m f k b r},rec_ m f k b=H r→r.1.length=m.length)(h:DQ rec_ a0 a1 m f k b bigN 0=H r):FCw X 59 [.r,.clo 60 [0,1,2,3,4]] 1 (CO a0 a1 f k b) (W rI m) (CO a0 a1 r.2.1 r.2.2.1 r.2.2.2) (W rI r.1):=by
 refine UB (σ:=⟨[(0,vc (.own 99999999999)),(1,vc (.clo 60 [99999999999,100000000000,100000000001,100000000002,100000000003]))],Lz a0 a1 f k b,[(99999999999,1,W rI m)]⟩) (c:=Ei X 59 LA) (nt:=55) mixed (by kernel_rfl) V V ?_;refine F4 LA ?_;intro S hS;refine ev hS ?_;try simp only[A,B,C,E,F,J]
 refine A7w h_rec l_rec h ?_ (by kernel_rfl);(try simp only[A,B,C,E,F,J,pL,aM,Z])<;>rfl
theorem A09{a0 a1}:∀(n:U) {m f k b r},Gj a0 a1 n m f k b=H r→FCw X 59 [.r,.clo 60 [0,1,2,3,4]] 1 (CO a0 a1 f k b) (W rI m) (CO a0 a1 r.2.1 r.2.2.1 r.2.2.2) (W rI r.1):=by
 intro n
 induction n with
 | zero=>intro _ _ _ _ _ h; cases h
 | succ n ih=>intro _ _ _ _ _ h; exact A07 ih YO h
theorem A06{a0 a1 m f k b r}(h:PX a0 a1 m f k b=H r):FCw X 59 [.r,.clo 60 [0,1,2,3,4]] 1 (CO a0 a1 f k b) (W rI m) (CO a0 a1 r.2.1 r.2.2.1 r.2.2.2) (W rI r.1):=A09 bigN h
def XW:Hw:=([(16,[2,3,4,5,6,7,20,21],[2,3],[1152])],[])
def dF:=fun(a0:X4) a1 y4 (k_:P→(N P)→O ((N P) × P × Q))=>∀{v5 v6} {zr},k_ v5 v6=H zr→Kh X 28 XW 16 [2,3,4,5,6,7,20,21] [2,3] [1152] ⟨[pB 2,pB 3,(4,vc (.nil)),pI 5 (0:P),(6,vc (aB G)),pW 7 1152,pI 20 y4,pI 21 v5],[(2,([aI a0.Forecast.Tide.Mean,aM Y a0.Forecast.Tide.Parts,aM X9.row a0.Forecast.Surges,aM X7.row a0.Chart.Points,aM X2.row a0.Chart.Segments,aM X6.row a0.Fleet,aI a0.Regime.Gap,aB a0.Regime.NoMeet]++dm a0.Crew.row)),(3,[aM zC a1])],[(1152,1,W rI v6)]⟩ (A7 [4,5,6] [.sc (.v (.sl (W rI zr.1))),.sc (.v (.int .i64 zr.2.1)),.sc (.v (.bool zr.2.2))])
theorem A7x{a0 a1 y4}{n:U}:dF a0 a1 y4 (Ht a0 a1 y4 n):=by
 induction n with
 | zero=>intro _ _ r h; cases h
 | succ n ih=>
  intro v5 v6 r h σ hσ S hS;refine ev hS ?_;rw[Ht] at h;refine AM (AA ?_);obtain⟨h7,h⟩|⟨h7,h⟩:=ic h
  ·obtain⟨x8,h8,h⟩:=ob h;have h8n:=Ay h8;try simp only[hσ,h7,h8,A,B,C,E,F,J]
   refine CE (row:=rI) (y:=(-1:P)) V V h8n V V (by rfl) ?_;try simp only[h7,h8,A,B,C,E,F,J]
   refine ih h ?_ (by kernel_rfl);try simp only[h7,h8,A,B,C,E,F,J,pL,aM,Z]
  ·try simp only[hσ,h7,A,B,C,E,F,J]
   refine Bv ?_;try simp only[h7,A,B,C,E,F,J]
   refine Bv ?_;try simp only[h7,A,B,C,E,F,J]
   refine Bv ?_;obtain⟨r9,h9,h⟩:=ob h;try simp only[h7,A,B,C,E,F,J]
   refine KX (Wx (A06 h9) [2,3,11,10,9] 1152 ?_ (by rw[zF,zF]; exact tc h9));simp only[St.behindW,Dl];try simp only[h7,A,B,C,E,F,J]
   refine An ?_;try simp only[h7,A,B,C,E,F,J]
   cases h;trivial
instance A97:Ct 28 (∀{a0} {a1} {r},JT a0 a1=H r→FC X 28 [.ag (X4.row a0),.sc (.sl (W zC a1))] [.sc (.v (.sl (W rI r.1))),.sc (.v (.int .i64 r.2.1)),.sc (.v (.bool r.2.2))]):=by
 refine⟨fun h=> ?_⟩;unfold JT at h;refine A4 mixed XW [4,5,6] 34 ?_;have s0:= @Ea _ rI (0:P);have k0:= @A7x;exact gc
instance B0k:Ct 102 (∀{a0} {r},M2 a0=H r→FC X 102 [.sc (.int .i64 a0)] [.sc (.v (.str r))]):=by
 refine⟨fun{a0} {r} h=> ?_⟩;unfold M2 at h;refine A4 mixed h0 [2] 5 ?_;intro S hS;refine ev hS ?_;simp only[A,B,C,E,F,J];obtain⟨r1,h1,h⟩:=ob h;try simp only[A,B,C,E,F,J]
 refine AE (A2m _ _ h1) ?_;try simp only[A,B,C,E,F,J]
 cases h;exact t0
instance B1s:Ct 63 (∀{a0} {r},ME a0=H r→FC X 63 [.sc (Pv a0)] [.sc (.v (.str r))]):=by
 refine⟨fun h=> ?_⟩;unfold ME at h;refine A4 mixed h0 [2] 15 ?_;exact gc
instance B0p:Ct 64 (∀{a0} {a1} {r},JZ a0 a1=H r→FC X 64 [.sc (.sl (W rS a0)),.sc (.str a1)] [.sc (.v (.str r))]):=by
 refine⟨fun{a0} {a1} {r} h=> ?_⟩;unfold JZ at h;refine A4 mixed h0 [4] 8 ?_;intro S hS;refine ev hS ?_;simp only[A,B,C,E,F,J];obtain⟨r1,h1,h⟩:=ob h;try simp only[A,B,C,E,F,J]
 refine AE (A2n _ _ _ h1) ?_;try simp only[A,B,C,E,F,J]
 cases h;exact t0
def XX:Hw:=([(8,[3,7,8,9],[],[384])],[])
def eS:=fun a0 (k_:P→(N (N UInt8))→O (N UInt8))=>∀{v1 v2} {zr},k_ v1 v2=H zr→Kh X 29 XX 8 [3,7,8,9] [] [384] ⟨[pW 3 384,pL 7 rA a0,pI 8 (a0.length:P),pI 9 v1],[],[(384,1,W rS v2)]⟩ (A7 [2] [.sc (.v (.str zr))])
theorem A7y{a0}{n:U}:eS a0 (I4 a0 n):=by
 induction n with
 | zero=>intro _ _ r h; cases h
 | succ n ih=>
  intro v1 v2 r h σ hσ;rw[I4] at h;have s0:=fun(r5:(N UInt8))=> @Ap (W rS ([r5]:N (N UInt8)))
  exact gc
instance B1t:Ct 29 (∀{a0} {r},MF a0=H r→FC X 29 [.sc (.sl (W rA a0))] [.sc (.v (.str r))]):=by
 refine⟨fun h=> ?_⟩;unfold MF at h;refine A4 mixed XX [2] 21 ?_;have s0:= @Ap (W rS ([]:N (N UInt8)));have k0:= @A7y;exact gc
instance B0a:Ct 9 (∀{a0} {a1} {r},LS a0 a1=H r→FC X 9 [.ag (X4.row a0),.sc (.sl (W zC a1))] [.sc (.v (.str r))]):=by
 refine⟨fun h=> ?_⟩;unfold LS at h;refine A4 mixed h0 [4] 44 ?_;have s0:=fun(r3:(N P) × P × Q) (r5:(N P) × P × Q)=> @Ap (W rA ([(⟨T,([99,111,115,116]:N UInt8),0⟩:Xo),(⟨G,[],r3.2.1⟩:Xo),(⟨T,([98,111,117,110,100]:N UInt8),0⟩:Xo),(⟨G,[],r5.2.1⟩:Xo),(⟨T,([103,97,112]:N UInt8),0⟩:Xo),(⟨G,[],(IntKind.i64.wrap (r3.2.1 - r5.2.1))⟩:Xo)]:N Xo))
 exact gc
instance B11:Ct 145 (∀{a0} {a1} {r},ML a0 a1=H r→FC X 145 [.ag (Y a0),.ag (Y a1)] [.sc (.v (.bool r))]):=by
 refine⟨fun h=> ?_⟩;unfold ML at h;refine A4 mixed h0 [4] 20 ?_;exact gc
def XY:Hw:=([(14,[0,1,5],[],[])],[])
def eV:=fun a0 a1 (k_:P→O Q)=>∀{v2} {zr},k_ v2=H zr→Kh X 104 XY 14 [0,1,5] [] [] ⟨[pL 0 Y a0,pL 1 Y a1,pI 5 v2],[],[]⟩ (A7 [4] [.sc (.v (.bool zr))])
theorem A7z{a0 a1}{n:U}:eV a0 a1 (I7 a0 a1 n):=by
 induction n with
 | zero=>intro _ r h; cases h
 | succ n ih=>
  intro v2 r h σ hσ;rw[I7] at h;exact gc
instance B12:Ct 104 (∀{a0} {a1} {r},MM a0 a1=H r→FC X 104 [.sc (.sl (W Y a0)),.sc (.sl (W Y a1))] [.sc (.v (.bool r))]):=by
 refine⟨fun h=> ?_⟩;unfold MM at h;refine A4 mixed XY [4] 27 ?_;have k0:= @A7z;exact gc
instance B2c:Ct 65 (∀{a0} {a1} {r},Q5 a0 a1=H r→FC X 65 [.ag (Xl.row a0),.ag (Xl.row a1)] [.sc (.v (.bool r))]):=by
 refine⟨fun h=> ?_⟩;unfold Q5 at h;refine A4 mixed h0 [4] 16 ?_;exact gc
instance B2a:Ct 105 (∀{a0} {a1} {r},MT a0 a1=H r→FC X 105 [.ag (X9.row a0),.ag (X9.row a1)] [.sc (.v (.bool r))]):=by
 refine⟨fun h=> ?_⟩;unfold MT at h;refine A4 mixed h0 [4] 20 ?_;exact gc
def XZ:Hw:=([(14,[0,1,5],[],[])],[])
def eZ:=fun a0 a1 (k_:P→O Q)=>∀{v2} {zr},k_ v2=H zr→Kh X 66 XZ 14 [0,1,5] [] [] ⟨[pL 0 X9.row a0,pL 1 X9.row a1,pI 5 v2],[],[]⟩ (A7 [4] [.sc (.v (.bool zr))])
theorem A70{a0 a1}{n:U}:eZ a0 a1 (Ib a0 a1 n):=by
 induction n with
 | zero=>intro _ r h; cases h
 | succ n ih=>
  intro v2 r h σ hσ;rw[Ib] at h;exact gc
instance B2b:Ct 66 (∀{a0} {a1} {r},MU a0 a1=H r→FC X 66 [.sc (.sl (W X9.row a0)),.sc (.sl (W X9.row a1))] [.sc (.v (.bool r))]):=by
 refine⟨fun h=> ?_⟩;unfold MU at h;refine A4 mixed XZ [4] 27 ?_;have k0:= @A70;exact gc
instance B1y:Ct 30 (∀{a0} {a1} {r},MI a0 a1=H r→FC X 30 [.ag (Xd.row a0),.ag (Xd.row a1)] [.sc (.v (.bool r))]):=by
 refine⟨fun h=> ?_⟩;unfold MI at h;refine A4 mixed h0 [4] 17 ?_;exact gc
instance B13:Ct 106 (∀{a0} {a1} {r},MN a0 a1=H r→FC X 106 [.ag (X7.row a0),.ag (X7.row a1)] [.sc (.v (.bool r))]):=by
 refine⟨fun h=> ?_⟩;unfold MN at h;refine A4 mixed h0 [4] 15 ?_;exact gc
def Y0:Hw:=([(14,[0,1,5],[],[])],[])
def eW:=fun a0 a1 (k_:P→O Q)=>∀{v2} {zr},k_ v2=H zr→Kh X 67 Y0 14 [0,1,5] [] [] ⟨[pL 0 X7.row a0,pL 1 X7.row a1,pI 5 v2],[],[]⟩ (A7 [4] [.sc (.v (.bool zr))])
theorem A71{a0 a1}{n:U}:eW a0 a1 (I8 a0 a1 n):=by
 induction n with
 | zero=>intro _ r h; cases h
 | succ n ih=>
  intro v2 r h σ hσ;rw[I8] at h;exact gc
instance B14:Ct 67 (∀{a0} {a1} {r},MO a0 a1=H r→FC X 67 [.sc (.sl (W X7.row a0)),.sc (.sl (W X7.row a1))] [.sc (.v (.bool r))]):=by
 refine⟨fun h=> ?_⟩;unfold MO at h;refine A4 mixed Y0 [4] 27 ?_;have k0:= @A71;exact gc
instance B16:Ct 107 (∀{a0} {a1} {r},MP a0 a1=H r→FC X 107 [.ag (X2.row a0),.ag (X2.row a1)] [.sc (.v (.bool r))]):=by
 refine⟨fun h=> ?_⟩;unfold MP at h;refine A4 mixed h0 [4] 30 ?_;exact gc
def Y1:Hw:=([(14,[0,1,5],[],[])],[])
def eX:=fun a0 a1 (k_:P→O Q)=>∀{v2} {zr},k_ v2=H zr→Kh X 68 Y1 14 [0,1,5] [] [] ⟨[pL 0 X2.row a0,pL 1 X2.row a1,pI 5 v2],[],[]⟩ (A7 [4] [.sc (.v (.bool zr))])
theorem A72{a0 a1}{n:U}:eX a0 a1 (I9 a0 a1 n):=by
 induction n with
 | zero=>intro _ r h; cases h
 | succ n ih=>
  intro v2 r h σ hσ;rw[I9] at h;exact gc
instance B17:Ct 68 (∀{a0} {a1} {r},MQ a0 a1=H r→FC X 68 [.sc (.sl (W X2.row a0)),.sc (.sl (W X2.row a1))] [.sc (.v (.bool r))]):=by
 refine⟨fun h=> ?_⟩;unfold MQ at h;refine A4 mixed Y1 [4] 27 ?_;have k0:= @A72;exact gc
instance B1w:Ct 31 (∀{a0} {a1} {r},MH a0 a1=H r→FC X 31 [.ag (X1.row a0),.ag (X1.row a1)] [.sc (.v (.bool r))]):=by
 refine⟨fun h=> ?_⟩;unfold MH at h;refine A4 mixed h0 [4] 17 ?_;exact gc
instance B18:Ct 69 (∀{a0} {a1} {r},MR a0 a1=H r→FC X 69 [.ag (X6.row a0),.ag (X6.row a1)] [.sc (.v (.bool r))]):=by
 refine⟨fun h=> ?_⟩;unfold MR at h;refine A4 mixed h0 [4] 35 ?_;exact gc
def Y2:Hw:=([(14,[0,1,5],[],[])],[])
def eY:=fun a0 a1 (k_:P→O Q)=>∀{v2} {zr},k_ v2=H zr→Kh X 32 Y2 14 [0,1,5] [] [] ⟨[pL 0 X6.row a0,pL 1 X6.row a1,pI 5 v2],[],[]⟩ (A7 [4] [.sc (.v (.bool zr))])
theorem A73{a0 a1}{n:U}:eY a0 a1 (Ia a0 a1 n):=by
 induction n with
 | zero=>intro _ r h; cases h
 | succ n ih=>
  intro v2 r h σ hσ;rw[Ia] at h;exact gc
instance B19:Ct 32 (∀{a0} {a1} {r},MS a0 a1=H r→FC X 32 [.sc (.sl (W X6.row a0)),.sc (.sl (W X6.row a1))] [.sc (.v (.bool r))]):=by
 refine⟨fun h=> ?_⟩;unfold MS at h;refine A4 mixed Y2 [4] 27 ?_;have k0:= @A73;exact gc
instance B15:Ct 33 (∀{a0} {a1} {r},Q4 a0 a1=H r→FC X 33 [.ag (Xh.row a0),.ag (Xh.row a1)] [.sc (.v (.bool r))]):=by
 refine⟨fun h=> ?_⟩;unfold Q4 at h;refine A4 mixed h0 [4] 15 ?_;exact gc
def Y3:Hw:=([(14,[0,1,5],[],[])],[])
def eU:=fun a0 a1 (k_:P→O Q)=>∀{v2} {zr},k_ v2=H zr→Kh X 70 Y3 14 [0,1,5] [] [] ⟨[pL 0 rI a0,pL 1 rI a1,pI 5 v2],[],[]⟩ (A7 [4] [.sc (.v (.bool zr))])
theorem A74{a0 a1}{n:U}:eU a0 a1 (I6 a0 a1 n):=by
 induction n with
 | zero=>intro _ r h; cases h
 | succ n ih=>
  intro v2 r h σ hσ;rw[I6] at h;exact gc
instance B10:Ct 70 (∀{a0} {a1} {r},MK a0 a1=H r→FC X 70 [.sc (.sl (W rI a0)),.sc (.sl (W rI a1))] [.sc (.v (.bool r))]):=by
 refine⟨fun h=> ?_⟩;unfold MK at h;refine A4 mixed Y3 [4] 26 ?_;have k0:= @A74;exact gc
instance B1x:Ct 34 (∀{a0} {a1} {r},Q3 a0 a1=H r→FC X 34 [.ag (Xm.row a0),.ag (Xm.row a1)] [.sc (.v (.bool r))]):=by
 refine⟨fun h=> ?_⟩;unfold Q3 at h;refine A4 mixed h0 [4] 26 ?_;exact gc
instance B1z:Ct 10 (∀{a0} {a1} {r},MJ a0 a1=H r→FC X 10 [.ag (X4.row a0),.ag (X4.row a1)] [.sc (.v (.bool r))]):=by
 refine⟨fun h=> ?_⟩;unfold MJ at h;refine A4 mixed h0 [4] 35 ?_;exact gc
instance B1u:Ct 35 (∀{a0} {a1} {r},Q2 a0 a1=H r→FC X 35 [.ag (zC a0),.ag (zC a1)] [.sc (.v (.bool r))]):=by
 refine⟨fun h=> ?_⟩;unfold Q2 at h;refine A4 mixed h0 [4] 30 ?_;exact gc
def Y4:Hw:=([(14,[0,1,5],[],[])],[])
def eT:=fun a0 a1 (k_:P→O Q)=>∀{v2} {zr},k_ v2=H zr→Kh X 11 Y4 14 [0,1,5] [] [] ⟨[pL 0 zC a0,pL 1 zC a1,pI 5 v2],[],[]⟩ (A7 [4] [.sc (.v (.bool zr))])
theorem A75{a0 a1}{n:U}:eT a0 a1 (I5 a0 a1 n):=by
 induction n with
 | zero=>intro _ r h; cases h
 | succ n ih=>
  intro v2 r h σ hσ;rw[I5] at h;exact gc
instance B1v:Ct 11 (∀{a0} {a1} {r},MG a0 a1=H r→FC X 11 [.sc (.sl (W zC a0)),.sc (.sl (W zC a1))] [.sc (.v (.bool r))]):=by
 refine⟨fun h=> ?_⟩;unfold MG at h;refine A4 mixed Y4 [4] 27 ?_;have k0:= @A75;exact gc
theorem w_laws_FnExactBoundLine(a0:X4)(a1:N Xb)(r:Q)(h:Q1 a0 a1=H r):FC X 3 [.ag (X4.row a0),.sc (.sl (W zC a1))] [.sc (.v (.bool r))]:=by
 unfold Q1 at h;refine A4 mixed h0 [4] 45 ?_;exact gc
end Go.Vi
