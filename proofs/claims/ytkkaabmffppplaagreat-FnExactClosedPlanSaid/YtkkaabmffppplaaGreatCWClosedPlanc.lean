/-
Walks. No condition.
-/
import Derived.Test.YtkkaabmffppplaaGreatCNf
import Derived.Test.YtkkaabmffppplaaGreatChecked
import Derived.Test.YtkkaabmffppplaaGreatCVi44
import Derived.KernelRfl
import Derived.Test.YtkkaabmffppplaaGreatCWClosedPlanb
namespace Go.Vi
open Go.Proofs
set_option linter.all false
set_option maxRecDepth 4000
set_option maxHeartbeats 2000000
open Nat renaming reduceBEq → C, reduceMul → E, reduceAdd → F, reduceDiv → G, le_of_ble_eq_true → uf
open Int renaming reduceBEq → I
attribute [local irreducible] go B5 HL
open List renaming map → Y, all_eq_true → zD, cons_append → zG, nil_append → zH, all_cons → zJ
open Tryz renaming prog → Z
open Int renaming toNat → zA
open Xb renaming row → zB
open Xc renaming row → zC
open Xd renaming row → zE
open Xa renaming row → zF
open Xe renaming row → zI
open Bool renaming true → T, false → L
open Option renaming some → N, none → O
open _root_ renaming List → P, Option → Q, Int → U, Bool → V, Nat → W, rfl → X
def RO:Hw:=([(14,[1,20,21,22],[1],[]),(37,[1,41,42,43],[1],[]),(59,[1,6,41,42,43,86,87,88],[1,6],[])],[])
def gl:=fun(a0:X3) v11 (x13:X2) y24 y25 (k_:U→Q V)=>∀{v26} {zr},k_ v26=N zr→Kh Z 78 RO 59 [1,6,41,42,43,86,87,88] [1,6] [] ⟨[pB 1,pB 6,pL 41 X2.row a0.Segments,pI 42 (a0.Segments.length:U),pI 43 v11,pL 86 X2.row y24,pI 87 y25,pI 88 v26],[(1,[aM X8.row a0.Points,aM X2.row a0.Segments]),(6,(dm x13.row))],[]⟩ (A5 [2] [.sc (.v (.bool zr))])
def WA:=fun(a0:X3) (k_:U→Q V)=>∀{v11} {zr},k_ v11=N zr→Kh Z 78 RO 37 [1,41,42,43] [1] [] ⟨[pB 1,pL 41 X2.row a0.Segments,pI 42 (a0.Segments.length:U),pI 43 v11],[(1,[aM X8.row a0.Points,aM X2.row a0.Segments])],[]⟩ (A5 [2] [.sc (.v (.bool zr))])
def gk:=fun(a0:X3) (k_:U→Q V)=>∀{v3} {zr},k_ v3=N zr→Kh Z 78 RO 14 [1,20,21,22] [1] [] ⟨[pB 1,pL 20 X8.row a0.Points,pI 21 (a0.Points.length:U),pI 22 v3],[(1,[aM X8.row a0.Points,aM X2.row a0.Segments])],[]⟩ (A5 [2] [.sc (.v (.bool zr))])
theorem B0w{a0 v11 x13 y24 y25}{Pu}(vD:WA a0 Pu){n:W}:gl a0 v11 x13 y24 y25 (Ij a0 v11 x13 y24 y25 Pu n):=by
 induction n with
 | zero=>intro _ r h; cases h
 | succ n ih=>
  intro v26 r h σ hσ;rw[Ij] at h;have k0:= @vD;exact gc
theorem B0x{a0}{n:W}:WA a0 (EH a0 n):=by
 induction n with
 | zero=>intro _ r h; cases h
 | succ n ih=>
  intro v11 r h σ hσ;rw[EH] at h;have k0:= @B0w;exact gc
theorem B0z{a0}{n:W}:gk a0 (Ii a0 n):=by
 induction n with
 | zero=>intro _ r h; cases h
 | succ n ih=>
  intro v3 r h σ hσ;rw[Ii] at h;have k0:= @B0x;exact gc
instance A6c:Ct 78 (∀{a0} {r},Dn a0=N r→FC Z 78 [.ag (X3.row a0)] [.sc (.v (.bool r))]):=by
 refine⟨fun h=> ?_⟩;unfold Dn at h;refine A3 A2 RO [2] 100 ?_;have k0:= @B0z;exact gc
instance B7l:Ct 160 (∀{a0} {r},EJ a0=N r→FC Z 160 [.ag (X4.row a0)] [.sc (.v (.bool r))]):=by
 refine⟨fun h=> ?_⟩;unfold EJ at h;refine A3 A2 h0 [2] 26 ?_;exact gc
def Zl:Hw:=([(6,[1,7,8,9],[],[])],[])
def iC:=fun a1 a0 (k_:U→Q U)=>∀{v1} {zr},k_ v1=N zr→Kh Z 161 Zl 6 [1,7,8,9] [] [] ⟨[(1,vc (aS a1)),pL 7 X4.row a0,pI 8 (a0.length:U),pI 9 v1],[],[]⟩ (A5 [4] [.sc (.v (.int .i64 zr))])
theorem B00{a1 a0}{n:W}:iC a1 a0 (IA a1 a0 n):=by
 induction n with
 | zero=>intro _ r h; cases h
 | succ n ih=>
  intro v1 r h σ hσ;rw[IA] at h;exact gc
instance B7k:Ct 161 (∀{a0} {a1} {r},Nk a0 a1=N r→FC Z 161 [.sc (.sl (Y X4.row a0)),.sc (.str a1)] [.sc (.v (.int .i64 r))]):=by
 refine⟨fun h=> ?_⟩;unfold Nk at h;refine A3 A2 Zl [4] 20 ?_;have k0:= @B00;exact gc
def Zm:Hw:=([(14,[0,8,9,10],[],[])],[])
def gu:=fun a0 (k_:U→Q V)=>∀{v2} {zr},k_ v2=N zr→Kh Z 119 Zm 14 [0,8,9,10] [] [] ⟨[pL 0 X4.row a0,pL 8 X4.row a0,pI 9 (a0.length:U),pI 10 v2],[],[]⟩ (A5 [2] [.sc (.v (.bool zr))])
theorem B01{a0}{n:W}:gu a0 (It a0 n):=by
 induction n with
 | zero=>intro _ r h; cases h
 | succ n ih=>
  intro v2 r h σ hσ;rw[It] at h;exact gc
instance B6y:Ct 119 (∀{a0} {r},KQ a0=N r→FC Z 119 [.sc (.sl (Y X4.row a0))] [.sc (.v (.bool r))]):=by
 refine⟨fun h=> ?_⟩;unfold KQ at h;refine A3 A2 Zm [2] 27 ?_;have k0:= @B01;exact gc
instance B7h:Ct 120 (∀{a0} {r},QT a0=N r→FC Z 120 [.ag (Xj.row a0)] [.sc (.v (.bool r))]):=by
 refine⟨fun h=> ?_⟩;unfold QT at h;refine A3 A2 h0 [2] 6 ?_;exact gc
def Zn:Hw:=([(14,[8,9,10],[],[])],[])
def iU:=fun a0 (k_:U→Q V)=>∀{v2} {zr},k_ v2=N zr→Kh Z 162 Zn 14 [8,9,10] [] [] ⟨[pL 8 rI a0,pI 9 (a0.length:U),pI 10 v2],[],[]⟩ (A5 [2] [.sc (.v (.bool zr))])
theorem B02{a0}{n:W}:iU a0 (GZ a0 n):=by
 induction n with
 | zero=>intro _ r h; cases h
 | succ n ih=>
  intro v2 r h σ hσ;rw[GZ] at h;exact gc
instance B71:Ct 162 (∀{a0} {r},GY a0=N r→FC Z 162 [.sc (.sl (Y rI a0))] [.sc (.v (.bool r))]):=by
 refine⟨fun h=> ?_⟩;unfold GY at h;refine A3 A2 Zn [2] 18 ?_;have k0:= @B02;exact gc
instance B6w:Ct 121 (∀{a0} {r},N1 a0=N r→FC Z 121 [.ag (Xo.row a0)] [.sc (.v (.bool r))]):=by
 refine⟨fun h=> ?_⟩;unfold N1 at h;refine A3 A2 h0 [2] 21 ?_;exact gc
instance B62:Ct 76 (∀{a0} {r},KR a0=N r→FC Z 76 [.ag (X6.row a0)] [.sc (.v (.bool r))]):=by
 refine⟨fun h=> ?_⟩;unfold KR at h;refine A3 A2 h0 [2] 26 ?_;exact gc
instance B7v:Ct 77 (∀{a0} {a1} {r},L1 a0 a1=N r→FC Z 77 [.ag (X6.row a0),.ag (zC a1)] [.sc (.v (.bool r))]):=by
 refine⟨fun h=> ?_⟩;unfold L1 at h;refine A3 A2 h0 [4] 47 ?_;exact gc
def Ul:Hw:=([(14,[1,2,17,18,19],[2],[]),(36,[1,2,6,17,18,19,30,31,32],[2,6],[])],[])
def gj:=fun a1 v4 (a0:X6) (x6:Xc) y10 y11 (k_:U→Q V)=>∀{v12} {zr},k_ v12=N zr→Kh Z 36 Ul 36 [1,2,6,17,18,19,30,31,32] [2,6] [] ⟨[pL 1 zC a1,pB 2,pB 6,pL 17 zC a1,pI 18 (a1.length:U),pI 19 v4,pL 30 zC y10,pI 31 y11,pI 32 v12],[(2,([aI a0.Forecast.Tide.Mean,aM zE a0.Forecast.Tide.Parts,aM zF a0.Forecast.Surges,aM X8.row a0.Chart.Points,aM X2.row a0.Chart.Segments,aM X4.row a0.Fleet,aI a0.Regime.Gap,aB a0.Regime.NoMeet]++dm a0.Crew.row)),(6,(dm x6.row))],[]⟩ (A5 [4] [.sc (.v (.bool zr))])
def Wz:=fun a1 (a0:X6) (k_:U→Q V)=>∀{v4} {zr},k_ v4=N zr→Kh Z 36 Ul 14 [1,2,17,18,19] [2] [] ⟨[pL 1 zC a1,pB 2,pL 17 zC a1,pI 18 (a1.length:U),pI 19 v4],[(2,([aI a0.Forecast.Tide.Mean,aM zE a0.Forecast.Tide.Parts,aM zF a0.Forecast.Surges,aM X8.row a0.Chart.Points,aM X2.row a0.Chart.Segments,aM X4.row a0.Fleet,aI a0.Regime.Gap,aB a0.Regime.NoMeet]++dm a0.Crew.row))],[]⟩ (A5 [4] [.sc (.v (.bool zr))])
theorem B03{a1 v4 a0 x6 y10 y11}{Pt}(vC:Wz a1 a0 Pt){n:W}:gj a1 v4 a0 x6 y10 y11 (Fx a1 v4 a0 x6 y10 y11 Pt n):=by
 induction n with
 | zero=>intro _ r h; cases h
 | succ n ih=>
  intro v12 r h σ hσ;rw[Fx] at h;have k0:= @vC;exact gc
theorem B04{a1 a0}{n:W}:Wz a1 a0 (E9 a1 a0 n):=by
 induction n with
 | zero=>intro _ r h; cases h
 | succ n ih=>
  intro v4 r h σ hσ;rw[E9] at h;have k0:= @B03;exact gc
instance A6b:Ct 36 (∀{a0} {a1} {r},MY a0 a1=N r→FC Z 36 [.ag (X6.row a0),.sc (.sl (Y zC a1))] [.sc (.v (.bool r))]):=by
 refine⟨fun h=> ?_⟩;unfold MY at h;refine A3 A2 Ul [4] 43 ?_;have k0:= @B04;exact gc
def Zp:Hw:=([(14,[2,15,16,17],[2],[])],[])
def gp:=fun a1 (a0:X3) (k_:U→Q V)=>∀{v4} {zr},k_ v4=N zr→Kh Z 37 Zp 14 [2,15,16,17] [2] [] ⟨[pB 2,pL 15 X7.row a1,pI 16 (a1.length:U),pI 17 v4],[(2,[aM X8.row a0.Points,aM X2.row a0.Segments])],[]⟩ (A5 [4] [.sc (.v (.bool zr))])
theorem B05{a1 a0}{n:W}:gp a1 a0 (Io a1 a0 n):=by
 induction n with
 | zero=>intro _ r h; cases h
 | succ n ih=>
  intro v4 r h σ hσ;rw[Io] at h;exact gc
instance W9:Ct 37 (∀{a0} {a1} {r},GN a0 a1=N r→FC Z 37 [.ag (X3.row a0),.sc (.sl (Y X7.row a1))] [.sc (.v (.bool r))]):=by
 refine⟨fun h=> ?_⟩;unfold GN at h;refine A3 A2 Zp [4] 46 ?_;have k0:= @B05;exact gc
instance W8:Ct 80 (∀{a0} {a1} {r},KO a0 a1=N r→FC Z 80 [.ag (X6.row a0),.ag (zC a1)] [.sc (.v (.bool r))]):=by
 refine⟨fun h=> ?_⟩;unfold KO at h;refine A3 A2 h0 [4] 12 ?_;exact gc
instance SS:Ct 135 (∀{a0} {r},Ec a0=N r→FC Z 135 [.sc (.sl (Y rI a0))] [.sc (.o 1 (Y rI r))]):=by
 refine⟨fun h=> ?_⟩;unfold Ec at h;refine A3 A2 h0 [2] 8 ?_;have s0:= @Et _ rI (0:U);exact gc
instance eg:Ct 218 (∀{a0} {a1} {r},KY a0 a1=N r→FC Z 218 [.ag (X2.row a0),.sc (.int .i64 a1)] [.sc (.v (.int .i64 r))]):=by
 refine⟨fun h=> ?_⟩;unfold KY at h;refine A3 A2 h0 [4] 18 ?_;exact gc
def B49:P (P W × AItem):= [([],(O,.mv 18 (S 5))),([],(O,.mv 19 (S 5))),([1],(O,.nilc 20 (S 19))),([2],(O,.load 21 (S 20) L 1)),([],(O,.mv 22 (S 3))),([4],(O,.call 23 135 [(S 22)])),([5],(O,.bslice 24 1 [.sl []] 1 [(0,(S 23))])),([3,6,5],(O,.app 25 1 24 (S 21) (S 24))),([0,0,1,2,3,4,5,6,7],(O,.nilc 26 (S 18))),([8,7,7,0,1,2,3,4,5,6,7],(O,.store (S 26) (S 25) 1))]
def B5a:P (P W × AItem):= [([],(O,.load 48 (S 6) T 2)),([],(O,.mv 49 (S 14))),([],(O,.mv 50 (S 2))),([],(O,.mv 51 (S 3))),([3],(O,.call 52 135 [(S 51)])),([],(O,.mv 53 (S 12))),([5],(O,.bslice 54 1 [.int .i64 0] 1 [(0,(S 53))])),([4,6,4],(O,.app 55 1 8 (S 52) (S 54))),([],(O,.load 56 (S 10) T 8)),([],(O,.mv 57 (S 5))),([0,1,2,7,8,9,7],(O,.call 58 194 [(S 48),(S 49),(S 50),(S 55),(S 56),(S 57)]))]
def RP:Hw:=([(15,[1,2,3,5,6,10,30,31,32],[99999999999,6,10],[90000]),(30,[1,2,3,5,6,10,12,14,30,31,32,47],[99999999999,6,10],[90000])],[])
abbrev HY(a3:P U)(wo3_ wo5_:AV)(c0_ c1_:V)(c2_ c3_:V)(c4_ c5_:V)(c6_ c7_ c8_:V)(bx_:P (W × P AC))(rs_:Rows):St:=⟨[(3,vc (aL (Y rI a3))),(5,vc (.pb 99999999999 0)),(18,bif c0_ then vc (.pb 99999999999 0) else .undef),(19,bif c1_ then vc (.pb 99999999999 0) else .undef),(20,bif c2_ then vc (.pb 99999999999 0) else .undef),(21,bif c3_ then wo3_ else .undef),(22,bif c4_ then vc (aL (Y rI a3)) else .undef),(23,bif c5_ then wo5_ else .undef),(24,bif c6_ then vc (.own 1536) else .undef),(25,bif c7_ then vc (.own 90000) else .undef),(26,bif c8_ then vc (.pb 99999999999 0) else .undef)],bx_,rs_⟩
abbrev VQ(a3:P U)(a5:P (P U))(r2:(P U)):St:=(HY a3 (vc (.undef)) (vc (aL (Y rI r2))) T T T T T T T T T [(99999999999,[.own 90000])] [(90000,1,Y (rL rI) (a5++([r2]:P (P U)))),(1536,1,Y (rL rI) ([r2]:P (P U)))])
def Fh:=fun a3 (a5:P (P U)) r2 (f:W) (c0:V) (c1:V) (c2:V) (c3:V) (c4:V) (c5:V) (c6:V) (c7:V) (c8:V) (c9:V) c10 c11 c12 c13=>BZ Z B49 (VQ a3 a5 r2) f [c0,c1,c2,c3,c4,c5,c6,c7,c8,c9] (HY a3 (vc ((c10))) (vc ((c11))) c0 c1 c2 c3 c4 c5 c6 c7 c8 [(99999999999,[(c12)])] c13)
def Pl:=fun(rec_:X3→U→U→(P U)→X9→(P (P U))→Q (P (P U))) a3 (a5:P (P U)) r2=>(∀(a0:X3) (a1:U) (a2:U) (a3:P U) (a4:X9) (a5:P (P U)) zr,rec_ a0 a1 a2 a3 a4 a5=N zr→FCz Z 194 [.d (.ag (X3.row a0)),.d (.sc (.int .i64 a1)),.d (.sc (.int .i64 a2)),.d (.sc (.sl (Y rI a3))),.d (.ag (X9.row a4)),.p] [.r 0] [(1,Y (rL rI) a5)] [.r 0] [(1,Y (rL rI) zr)] [])∧(Ec a3=N r2)∧((Ad a5.length ([r2]:P (P U)).length 24)=T)
theorem B06{rec_ a3 a5 r2}(H:Pl rec_ a3 a5 r2):∀(f:W),Fh a3 a5 r2 f T T T T T T T T T T .undef (aL (Y rI r2)) (.own 90000) [(90000,1,Y (rL rI) (a5++([r2]:P (P U)))),(1536,1,Y (rL rI) ([r2]:P (P U)))]:=by
 obtain⟨h_rec,h2,h3⟩:=id H;unfold Fh HY;intro f
 induction f with
 | zero=>intro h; rfl
 | succ f ih=>
  refine Ag ⟨?_,?_,?_,?_,?_,?_,?_,?_,?_,?_,⟨⟩⟩<;>try first | (intro h; cases h; done)
theorem B07{rec_ a3 a5 r2}(H:Pl rec_ a3 a5 r2):∀(f:W) (b0 b1:V) (b2 b8:V),Fh a3 a5 r2 f b0 b1 b2 T T T T T b8 L .undef (aL (Y rI r2)) .undef [(90000,1,Y (rL rI) (a5++([r2]:P (P U)))),(1536,1,Y (rL rI) ([r2]:P (P U)))]:=by
 obtain⟨h_rec,hr2,hg3⟩:=id H;unfold Fh HY;intro f
 induction f with
 | zero=>intros; intro h; simp at h
 | succ f ih=>
  intros;refine Ag ⟨?_,?_,?_,?_,?_,?_,?_,?_,?_,?_,⟨⟩⟩<;>try exact gi
  ·intro h0 hw;obtain rfl:=hq hw 0 rfl rfl;obtain rfl:=hq hw 1 rfl rfl;obtain rfl:=hq hw 2 rfl rfl;obtain rfl:=hq hw 8 rfl rfl;refine np ?_;try simp only[A7,A8,A4,C,E,F,G,I,J]
   exact B06 H ..
theorem B08{rec_ a3 a5 r2}(H:Pl rec_ a3 a5 r2):∀(f:W) (b0 b1:V) (b2 b3:V),Fh a3 a5 r2 f b0 b1 b2 b3 T T T L L L (.own 90000) (aL (Y rI r2)) (.own 90000) [(90000,1,Y (rL rI) a5),(1536,1,Y (rL rI) ([r2]:P (P U)))]:=by
 obtain⟨h_rec,hr2,hg3⟩:=id H;unfold Fh HY;intro f
 induction f with
 | zero=>intros; intro h; simp at h
 | succ f ih=>
  intros;refine Ag ⟨?_,?_,?_,?_,?_,?_,?_,?_,?_,?_,⟨⟩⟩<;>try exact gi
  ·intro h0 hw;obtain rfl:=hq hw 3 rfl rfl;refine np ?_;try simp only[hg3,A7,A8,A4,C,E,F,G,I,J]
   exact B07 H ..
theorem B09{rec_ a3 a5 r2}(H:Pl rec_ a3 a5 r2):∀(f:W) (b0 b1:V) (b2 b3:V),Fh a3 a5 r2 f b0 b1 b2 b3 T T L L L L (.own 90000) (.own 1472) (.own 90000) [(90000,1,Y (rL rI) a5),(1472,1,Y rI r2)]:=by
 obtain⟨h_rec,hr2,hg3⟩:=id H;unfold Fh HY;intro f
 induction f with
 | zero=>intros; intro h; simp at h
 | succ f ih=>
  intros;refine Ag ⟨?_,?_,?_,?_,?_,?_,?_,?_,?_,?_,⟨⟩⟩<;>try exact gi
  ·intro h0 hw;refine⟨[(O,.frz 1472)],[],X,X,?_⟩;try simp only[A7,A8,zH,zG,A4,C,E,F,G,I,J]
   refine El ?_;try simp only[A4,C,E,F,G,I,J]
   refine Au (Y (rL rI) ([r2]:P (P U))) ?_;try simp only[A4,C,E,F,G,I,J]
   exact B08 H ..
theorem B1a{rec_ a3 a5 r2}(H:Pl rec_ a3 a5 r2):∀(f:W) (b0 b1:V) (b2 b3 b4:V),Fh a3 a5 r2 f b0 b1 b2 b3 b4 L L L L L (.own 90000) (.own 1472) (.own 90000) [(90000,1,Y (rL rI) a5)]:=by
 obtain⟨h_rec,hr2,hg3⟩:=id H;unfold Fh HY;intro f
 induction f with
 | zero=>intros; intro h; simp at h
 | succ f ih=>
  intros;refine Ag ⟨?_,?_,?_,?_,?_,?_,?_,?_,?_,?_,⟨⟩⟩<;>try exact gi
  ·intro h0 hw;obtain rfl:=hq hw 4 rfl rfl;refine np ?_;try simp only[A7,A8,A4,C,E,F,G,I,J]
   refine LY (Ab SS hr2) X (by simp only[St.fresh,zJ,List.all_nil,D4]; simp[AV.cells,V1.cells,AC.uses]) (uf X) ?_;try simp only[A4,C,E,F,G,I,J]
   exact B09 H ..
abbrev Gv(a1 a2:U)(a3:P U)(v6 r11:U)(a0:X3)(y7:X9)(wo4_ wo7_:AV)(c0_ c1_:V)(c2_ c3_:V)(c4_ c5_:V)(c6_ c7_:V)(c8_ c9_ c10_:V)(bx_:P (W × P AC))(rs_:Rows):St:=⟨[(1,vc (aI a1)),(2,vc (aI a2)),(3,vc (aL (Y rI a3))),(5,vc (.pb 99999999999 0)),(6,vc (.pb 6 0)),(10,vc (.pb 10 0)),(12,vc (aI v6)),(14,vc (aI r11)),(30,vc (aL (Y X2.row a0.Segments))),(31,vc (aI (a0.Segments.length:U))),(32,vc (aI v6)),(48,bif c0_ then va [aL (Y X8.row a0.Points),aL (Y X2.row a0.Segments)] else .undef),(49,bif c1_ then vc (aI r11) else .undef),(50,bif c2_ then vc (aI a2) else .undef),(51,bif c3_ then vc (aL (Y rI a3)) else .undef),(52,bif c4_ then wo4_ else .undef),(53,bif c5_ then vc (aI v6) else .undef),(54,bif c6_ then vc (.own 3456) else .undef),(55,bif c7_ then wo7_ else .undef),(56,bif c8_ then va [aB y7.i0,aB y7.i1,aB y7.i2,aB y7.i3,aB y7.i4,aB y7.i5,aB y7.i6,aB y7.i7] else .undef),(57,bif c9_ then vc (.pb 99999999999 0) else .undef),(58,bif c10_ then .tup [] else .undef)],bx_,rs_⟩
abbrev VR(a1 a2:U)(a3:P U)(v6 r11:U)(a0:X3)(y7:X9)(r18:(P U))(r20:(P (P U))):St:=(Gv a1 a2 a3 v6 r11 a0 y7 (vc (.undef)) (vc (aL (Y rI (r18++([v6]:P U))))) T T T T T T T T T T T [(99999999999,[.own 90000]),(6,[aL (Y X8.row a0.Points),aL (Y X2.row a0.Segments)]),(10,[aB y7.i0,aB y7.i1,aB y7.i2,aB y7.i3,aB y7.i4,aB y7.i5,aB y7.i6,aB y7.i7])] [(90000,1,Y (rL rI) r20),(3456,1,Y rI ([v6]:P U))])
def E3:=fun(a1:U) a2 a3 v6 r11 a0 y7 r18 r20 (f:W) (c0:V) (c1:V) (c2:V) (c3:V) (c4:V) (c5:V) (c6:V) (c7:V) (c8:V) (c9:V) (c10:V) c11 c12 c13=>BZ Z B5a (VR a1 a2 a3 v6 r11 a0 y7 r18 r20) f [c0,c1,c2,c3,c4,c5,c6,c7,c8,c9,c10] (Gv a1 a2 a3 v6 r11 a0 y7 (vc ((c11))) (vc ((c12))) c0 c1 c2 c3 c4 c5 c6 c7 c8 c9 c10 [(99999999999,[.own 90000]),(6,[aL (Y X8.row a0.Points),aL (Y X2.row a0.Segments)]),(10,[aB y7.i0,aB y7.i1,aB y7.i2,aB y7.i3,aB y7.i4,aB y7.i5,aB y7.i6,aB y7.i7])] c13)
def M1:=fun(rec_:X3→U→U→(P U)→X9→(P (P U))→Q (P (P U))) (a1:U) a2 a3 v6 r11 a0 y7 v8 r18 r20=>(∀(a0:X3) (a1:U) (a2:U) (a3:P U) (a4:X9) (a5:P (P U)) zr,rec_ a0 a1 a2 a3 a4 a5=N zr→FCz Z 194 [.d (.ag (X3.row a0)),.d (.sc (.int .i64 a1)),.d (.sc (.int .i64 a2)),.d (.sc (.sl (Y rI a3))),.d (.ag (X9.row a4)),.p] [.r 0] [(1,Y (rL rI) a5)] [.r 0] [(1,Y (rL rI) zr)] [])∧(Ec a3=N r18)∧((Ad r18.length ([v6]:P U).length 8)=T)∧(rec_ a0 r11 a2 (r18++([v6]:P U)) y7 v8=N r20)
theorem B1b{rec_ a1 a2 a3 v6 r11 a0 y7 v8 r18 r20}(H:M1 rec_ a1 a2 a3 v6 r11 a0 y7 v8 r18 r20):∀(f:W),E3 a1 a2 a3 v6 r11 a0 y7 r18 r20 f T T T T T T T T T T T .undef (aL (Y rI (r18++([v6]:P U)))) [(90000,1,Y (rL rI) r20),(3456,1,Y rI ([v6]:P U))]:=by
 obtain⟨h_rec,h18,h19,h20⟩:=id H;unfold E3 Gv;intro f
 induction f with
 | zero=>intro h; rfl
 | succ f ih=>
  refine Ag ⟨?_,?_,?_,?_,?_,?_,?_,?_,?_,?_,?_,⟨⟩⟩<;>try first | (intro h; cases h; done)
theorem B1c{rec_ a1 a2 a3 v6 r11 a0 y7 v8 r18 r20}(H:M1 rec_ a1 a2 a3 v6 r11 a0 y7 v8 r18 r20):∀(f:W) (b0 b1:V) (b2 b8 b9:V),E3 a1 a2 a3 v6 r11 a0 y7 r18 r20 f b0 b1 b2 T T T T T b8 b9 L .undef (.own 3328) [(90000,1,Y (rL rI) v8),(3328,1,Y rI (r18++([v6]:P U))),(3456,1,Y rI ([v6]:P U))]:=by
 obtain⟨h_rec,hr18,hg19,hr20⟩:=id H;unfold E3 Gv;intro f
 induction f with
 | zero=>intros; intro h; simp at h
 | succ f ih=>
  intros;refine Ag ⟨?_,?_,?_,?_,?_,?_,?_,?_,?_,?_,?_,⟨⟩⟩<;>try exact gi
  ·intro h0 hw;obtain rfl:=hq hw 0 rfl rfl;obtain rfl:=hq hw 1 rfl rfl;obtain rfl:=hq hw 2 rfl rfl;obtain rfl:=hq hw 8 rfl rfl;obtain rfl:=hq hw 9 rfl rfl;refine⟨[(O,.frz 3328)],[],X,X,?_⟩;try simp only[A7,A8,zH,zG,A4,C,E,F,G,I,J]
   refine El ?_;try simp only[A4,C,E,F,G,I,J]
   refine HA (h_rec _ _ _ _ _ _ _ hr20) 99999999999 [90000] rfl X X X (by decide) X X X ?_;try simp only[A4,C,E,F,G,I,J]
   exact B1b H ..
theorem fP{rec_ a1 a2 a3 v6 r11 a0 y7 v8 r18 r20}(H:M1 rec_ a1 a2 a3 v6 r11 a0 y7 v8 r18 r20):∀(f:W) (b0 b1:V) (b2 b8 b9:V),E3 a1 a2 a3 v6 r11 a0 y7 r18 r20 f b0 b1 b2 T T T T L b8 b9 L (.own 3328) (.own 3328) [(90000,1,Y (rL rI) v8),(3328,1,Y rI r18),(3456,1,Y rI ([v6]:P U))]:=by
 obtain⟨h_rec,hr18,hg19,hr20⟩:=id H;unfold E3 Gv;intro f
 induction f with
 | zero=>intros; intro h; simp at h
 | succ f ih=>
  intros;refine Ag ⟨?_,?_,?_,?_,?_,?_,?_,?_,?_,?_,?_,⟨⟩⟩<;>try exact gi
  ·intro h0 hw;refine np ?_;try simp only[hg19,A7,A8,A4,C,E,F,G,I,J]
   exact B1c H ..
theorem B1e{rec_ a1 a2 a3 v6 r11 a0 y7 v8 r18 r20}(H:M1 rec_ a1 a2 a3 v6 r11 a0 y7 v8 r18 r20):∀(f:W) (b0 b1:V) (b2 b5:V) (b8 b9:V),E3 a1 a2 a3 v6 r11 a0 y7 r18 r20 f b0 b1 b2 T T b5 L L b8 b9 L (.own 3328) (.own 3328) [(90000,1,Y (rL rI) v8),(3328,1,Y rI r18)]:=by
 obtain⟨h_rec,hr18,hg19,hr20⟩:=id H;unfold E3 Gv;intro f
 induction f with
 | zero=>intros; intro h; simp at h
 | succ f ih=>
  intros;refine Ag ⟨?_,?_,?_,?_,?_,?_,?_,?_,?_,?_,?_,⟨⟩⟩<;>try exact gi
  ·intro h0 hw;obtain rfl:=hq hw 5 rfl rfl;refine np ?_;try simp only[A7,A8,A4,C,E,F,G,I,J]
   refine Au (Y rI ([v6]:P U)) ?_;try simp only[A4,C,E,F,G,I,J]
   exact fP H ..
theorem B1f{rec_ a1 a2 a3 v6 r11 a0 y7 v8 r18 r20}(H:M1 rec_ a1 a2 a3 v6 r11 a0 y7 v8 r18 r20):∀(f:W) (b0 b1:V) (b2 b3:V) (b8 b9:V),E3 a1 a2 a3 v6 r11 a0 y7 r18 r20 f b0 b1 b2 b3 L T T L b8 b9 L (.own 3328) (.own 3328) [(90000,1,Y (rL rI) v8),(3456,1,Y rI ([v6]:P U))]:=by
 obtain⟨h_rec,hr18,hg19,hr20⟩:=id H;unfold E3 Gv;intro f
 induction f with
 | zero=>intros; intro h; simp at h
 | succ f ih=>
  intros;refine Ag ⟨?_,?_,?_,?_,?_,?_,?_,?_,?_,?_,?_,⟨⟩⟩<;>try exact gi
  ·intro h0 hw;obtain rfl:=hq hw 3 rfl rfl;refine kp [1,2,3,5,6,10,12,14,30,31,32,48,49,50,51,52,53,54,55,56,57,58] [99999999999,6,10] [90000,3328,3456] ?_;try simp only[A7,A8,zH,zG,A4,C,E,F,G,I,J]
   refine LY (Ab SS hr18) X (by simp only[St.fresh,zJ,List.all_nil,D4]; simp[AV.cells,V1.cells,AC.uses]) (uf X) ?_;try simp only[A4,C,E,F,G,I,J]
   exact fP H ..
theorem B1g{rec_ a1 a2 a3 v6 r11 a0 y7 v8 r18 r20}(H:M1 rec_ a1 a2 a3 v6 r11 a0 y7 v8 r18 r20):∀(f:W) (b0 b1:V) (b2 b3:V) (b5 b8 b9:V),E3 a1 a2 a3 v6 r11 a0 y7 r18 r20 f b0 b1 b2 b3 L b5 L L b8 b9 L (.own 3328) (.own 3328) [(90000,1,Y (rL rI) v8)]:=by
 obtain⟨h_rec,hr18,hg19,hr20⟩:=id H;unfold E3 Gv;intro f
 induction f with
 | zero=>intros; intro h; simp at h
 | succ f ih=>
  intros;refine Ag ⟨?_,?_,?_,?_,?_,?_,?_,?_,?_,?_,?_,⟨⟩⟩<;>try exact gi
  ·intro h0 hw;obtain rfl:=hq hw 3 rfl rfl;refine np ?_;try simp only[A7,A8,A4,C,E,F,G,I,J]
   refine LY (Ab SS hr18) X (by simp only[St.fresh,zJ,List.all_nil,D4]; simp[AV.cells,V1.cells,AC.uses]) (uf X) ?_;try simp only[A4,C,E,F,G,I,J]
   exact B1e H ..
  ·intro h0 hw;obtain rfl:=hq hw 5 rfl rfl;refine np ?_;try simp only[A7,A8,A4,C,E,F,G,I,J]
   refine Au (Y rI ([v6]:P U)) ?_;try simp only[A4,C,E,F,G,I,J]
   exact B1f H ..
def gn:=fun a1 a2 a3 v6 r11 (a0:X3) (y7:X9) v8 (k_:V→Q (P (P U)))=>∀{v16} {zr},k_ v16=N zr→Kh Z 194 RP 30 [1,2,3,5,6,10,12,14,30,31,32,47] [99999999999,6,10] [90000] ⟨[pI 1 a1,pI 2 a2,pL 3 rI a3,(5,vc (.pb 99999999999 0)),pB 6,pB 10,pI 12 v6,pI 14 r11,pL 30 X2.row a0.Segments,pI 31 (a0.Segments.length:U),pI 32 v6,(47,vc (aB v16))],[(99999999999,[.own 90000]),(6,[aM X8.row a0.Points,aM X2.row a0.Segments]),(10,[aB y7.i0,aB y7.i1,aB y7.i2,aB y7.i3,aB y7.i4,aB y7.i5,aB y7.i6,aB y7.i7])],[(90000,1,Y (rL rI) v8)]⟩ (Dj [] [] [.r 0] [(1,Y (rL rI) zr)])
def WC:=fun a1 a2 a3 (a0:X3) (y7:X9) (k_:U→(P (P U))→Q (P (P U)))=>∀{v6 v8} {zr},k_ v6 v8=N zr→Kh Z 194 RP 15 [1,2,3,5,6,10,30,31,32] [99999999999,6,10] [90000] ⟨[pI 1 a1,pI 2 a2,pL 3 rI a3,(5,vc (.pb 99999999999 0)),pB 6,pB 10,pL 30 X2.row a0.Segments,pI 31 (a0.Segments.length:U),pI 32 v6],[(99999999999,[.own 90000]),(6,[aM X8.row a0.Points,aM X2.row a0.Segments]),(10,[aB y7.i0,aB y7.i1,aB y7.i2,aB y7.i3,aB y7.i4,aB y7.i5,aB y7.i6,aB y7.i7])],[(90000,1,Y (rL rI) v8)]⟩ (Dj [] [] [.r 0] [(1,Y (rL rI) zr)])
theorem fQ{rec_:X3→U→U→(P U)→X9→(P (P U))→Q (P (P U))}(h_rec:∀(a0:X3) (a1 a2:U) (a3:P U) (a4:X9) (a5:P (P U)) zr,rec_ a0 a1 a2 a3 a4 a5=N zr→FCz Z 194 [.d (.ag (X3.row a0)),.d (.sc (.int .i64 a1)),.d (.sc (.int .i64 a2)),.d (.sc (.sl (Y rI a3))),.d (.ag (X9.row a4)),.p] [.r 0] [(1,Y (rL rI) a5)] [.r 0] [(1,Y (rL rI) zr)] []){a1 a2 a3 v6 r11 a0 y7 v8}{Pv}(aR:WC a1 a2 a3 a0 y7 Pv):gn a1 a2 a3 v6 r11 a0 y7 v8 (Im rec_ a1 a2 a3 v6 r11 a0 y7 v8 Pv):=by
 intro v16 r h σ hσ S hS;refine ev hS ?_;refine As ?_;unfold Im at h;obtain⟨h17,h⟩|⟨h17,h⟩:=ic h
 ·refine sg ?_;obtain⟨r18,h18,h⟩:=ob h;obtain⟨h19,h⟩:=B2 h;obtain⟨r20,h20,h⟩:=ob h;refine Em (ks:= [1,2,3,5,6,10,12,14,30,31,32]) (bs:= [99999999999,6,10]) (rs:= [90000]) (τ:=(VR a1 a2 a3 v6 r11 a0 y7 r18 r20)) X (B1g ⟨h_rec,h18,h19,h20⟩ _ L L L L L L L) ?_;simp only[VR,Gv,A7];refine sg ?_;exact aR h sq kr
 ·refine sg ?_;exact aR h sq kr
theorem B1h{rec_:X3→U→U→(P U)→X9→(P (P U))→Q (P (P U))}(h_rec:∀(a0:X3) (a1 a2:U) (a3:P U) (a4:X9) (a5:P (P U)) zr,rec_ a0 a1 a2 a3 a4 a5=N zr→FCz Z 194 [.d (.ag (X3.row a0)),.d (.sc (.int .i64 a1)),.d (.sc (.int .i64 a2)),.d (.sc (.sl (Y rI a3))),.d (.ag (X9.row a4)),.p] [.r 0] [(1,Y (rL rI) a5)] [.r 0] [(1,Y (rL rI) zr)] []){a1 a2 a3 a0 y7}{n:W}:WC a1 a2 a3 a0 y7 (GL rec_ a1 a2 a3 a0 y7 n):=by
 induction n with
 | zero=>intro _ _ r h; cases h
 | succ n ih=>
  intro v6 v8 r h σ hσ S hS;refine ev hS ?_;rw[GL] at h;refine AB (As ?_);obtain⟨h9,h⟩|⟨h9,h⟩:=ic h
  ·obtain⟨x10,h10,h⟩:=ob h;obtain⟨r11,h11,h⟩:=ob h;refine sg ?_;refine AF (Ab eg h11) ?_;obtain⟨h12,h⟩|⟨h12,h⟩:=ic h
   ·obtain⟨h13,h⟩:=B2 h;refine sg ?_;refine Pc X X h13 ?_;obtain⟨x14,h14,h⟩:=ob h;have h14n:=Am h14;have hA15:([aB y7.i0,aB y7.i1,aB y7.i2,aB y7.i3,aB y7.i4,aB y7.i5,aB y7.i6,aB y7.i7]:P AC)[zA r11]?=N (aB x14):=XO h14n;refine sg ?_;exact fQ h_rec ih h sq kr
   ·refine sg ?_;exact fQ h_rec ih h sq kr
  ·refine sg ?_;cases h;exact⟨trivial,[90000],by decide,by decide,X,X⟩
theorem qm:AE Z 194=N ((Bp Z 194 RP).strip,[],60):=by kernel_rfl
theorem A6e(rec_:X3→U→U→(P U)→X9→(P (P U))→Q (P (P U)))(a0:X3)(a1 a2:U)(a3:P U)(a4:X9)(a5:P (P U))(r:(P (P U)))(h_rec:∀(a0:X3) (a1 a2:U) (a3:P U) (a4:X9) (a5:P (P U)) zr,rec_ a0 a1 a2 a3 a4 a5=N zr→FCz Z 194 [.d (.ag (X3.row a0)),.d (.sc (.int .i64 a1)),.d (.sc (.int .i64 a2)),.d (.sc (.sl (Y rI a3))),.d (.ag (X9.row a4)),.p] [.r 0] [(1,Y (rL rI) a5)] [.r 0] [(1,Y (rL rI) zr)] [])(h:QQ rec_ a0 a1 a2 a3 a4 a5=N r):FCz Z 194 [.d (.ag (X3.row a0)),.d (.sc (.int .i64 a1)),.d (.sc (.int .i64 a2)),.d (.sc (.sl (Y rI a3))),.d (.ag (X9.row a4)),.p] [.r 0] [(1,Y (rL rI) a5)] [.r 0] [(1,Y (rL rI) r)] []:=by
 unfold QQ at h;refine Qs (σ:=⟨[(0,va [aL (Y X8.row a0.Points),aL (Y X2.row a0.Segments)]),(1,vc (aI a1)),(2,vc (aI a2)),(3,vc (aL (Y rI a3))),(4,va [aB a4.i0,aB a4.i1,aB a4.i2,aB a4.i3,aB a4.i4,aB a4.i5,aB a4.i6,aB a4.i7]),(5,vc (.pb 99999999999 0))],[(99999999999,[.own 90000])],[(90000,1,Y (rL rI) a5)]⟩) A2 qm X X X X ?_;refine Bt RP ?_;intro S hS;refine ev hS ?_;refine sg ?_;obtain⟨h1,h⟩|⟨h1,h⟩:=ic h
 ·refine sg ?_;obtain⟨r2,h2,h⟩:=ob h;obtain⟨h3,h⟩:=B2 h;refine Em (ks:= [3,5]) (bs:= [99999999999]) (rs:= [90000]) (τ:=(VQ a3 a5 r2)) X (B1a ⟨h_rec,h2,h3⟩ _ L L L L L) ?_;simp only[VQ,HY,A7];refine sg ?_;cases h;exact⟨trivial,[90000],by decide,by decide,X,X⟩
 ·obtain⟨h4,h⟩:=B2 h;refine sg ?_;refine Pc X X h4 ?_;have hA5:BQ [aB a4.i0,aB a4.i1,aB a4.i2,aB a4.i3,aB a4.i4,aB a4.i5,aB a4.i6,aB a4.i7] (zA a1) [aB T]= [aB ((X9.set a4 (zA a1) T)).i0,aB ((X9.set a4 (zA a1) T)).i1,aB ((X9.set a4 (zA a1) T)).i2,aB ((X9.set a4 (zA a1) T)).i3,aB ((X9.set a4 (zA a1) T)).i4,aB ((X9.set a4 (zA a1) T)).i5,aB ((X9.set a4 (zA a1) T)).i6,aB ((X9.set a4 (zA a1) T)).i7]:=X9.set_eq a4 (Fs h4);have hA5g:C8 [aB a4.i0,aB a4.i1,aB a4.i2,aB a4.i3,aB a4.i4,aB a4.i5,aB a4.i6,aB a4.i7] (zA a1+1)=T:=Tu (Fs h4);have hA5h:C8 [aB a4.i1,aB a4.i2,aB a4.i3,aB a4.i4,aB a4.i5,aB a4.i6,aB a4.i7] (zA a1)=T:=Tv (c:=aB a4.i0) (Fs h4);refine sg ?_;exact B1h h_rec h sq kr
theorem A6f:∀(n:W) (a0:X3) (a1:U) (a2:U) (a3:P U) (a4:X9) (a5:P (P U)) (r:(P (P U))),GM n a0 a1 a2 a3 a4 a5=N r→FCz Z 194 [.d (.ag (X3.row a0)),.d (.sc (.int .i64 a1)),.d (.sc (.int .i64 a2)),.d (.sc (.sl (Y rI a3))),.d (.ag (X9.row a4)),.p] [.r 0] [(1,Y (rL rI) a5)] [.r 0] [(1,Y (rL rI) r)] []:=by
 intro n
 induction n with
 | zero=>intro _ _ _ _ _ _ r h; cases h
 | succ n ih=>intro a0 a1 a2 a3 a4 a5 r h; rw[GM] at h; exact A6e (GM n) a0 a1 a2 a3 a4 a5 r ih h
theorem A6d{a0}{a1}{a2}{a3}{a4}{a5}{r}(h:TT a0 a1 a2 a3 a4 a5=N r):FCz Z 194 [.d (.ag (X3.row a0)),.d (.sc (.int .i64 a1)),.d (.sc (.int .i64 a2)),.d (.sc (.sl (Y rI a3))),.d (.ag (X9.row a4)),.p] [.r 0] [(1,Y (rL rI) a5)] [.r 0] [(1,Y (rL rI) r)] []:=A6f bigN a0 a1 a2 a3 a4 a5 r h
instance A6j:Ct 163 (∀{a0} {a1} {a2} {r},Ni a0 a1 a2=N r→FC Z 163 [.ag (X3.row a0),.sc (.int .i64 a1),.sc (.int .i64 a2)] [.sc (.o 1 (Y (rL rI) r))]):=by
 refine⟨fun{a0} {a1} {a2} {r} h=> ?_⟩;unfold Ni at h;refine A3 A2 h0 [6] 34 ?_;intro S hS;refine ev hS ?_;obtain⟨r1,hr1,h⟩:=ob h;refine sg ?_;refine AF (Ab A6c hr1) ?_;obtain⟨hb2,h⟩|⟨hb2,h⟩:=ic h
 ·obtain⟨r3,hr3,h⟩:=ob h;refine sg ?_;refine AF (Ab SU hr3) ?_;obtain⟨hb4,h⟩|⟨hb4,h⟩:=ic h
  ·obtain⟨r5,hr5,h⟩:=ob h;refine sg ?_;refine AF (Ab SU hr5) ?_;obtain⟨hb6,h⟩|⟨hb6,h⟩:=ic h
   ·refine sg ?_;refine Bc (es:=Y (rL rI) ([]:P (P U))) ?_;refine sg ?_;refine RL ?_;obtain⟨r7,hr7,h⟩:=ob h;refine sg ?_;refine HA (A6d hr7) 7 [1728] rfl X X X (by decide) X X X ?_;refine sg ?_;cases h;exact t0
   ·refine sg ?_;cases h;exact t0
  ·refine sg ?_;cases h;exact t0
 ·refine sg ?_;cases h;exact t0
def Zq:Hw:=([(16,[2,5,11,12,13],[2],[])],[])
def iB:=fun a1 (a0:X3) (k_:U→U→Q U)=>∀{v3 v4} {zr},k_ v3 v4=N zr→Kh Z 164 Zq 16 [2,5,11,12,13] [2] [] ⟨[pB 2,pI 5 v3,pL 11 rI a1,pI 12 (a1.length:U),pI 13 v4],[(2,[aM X8.row a0.Points,aM X2.row a0.Segments])],[]⟩ (A5 [4] [.sc (.v (.int .i64 zr))])
theorem B1i{a1 a0}{n:W}:iB a1 a0 (Iz a1 a0 n):=by
 induction n with
 | zero=>intro _ _ r h; cases h
 | succ n ih=>
  intro v3 v4 r h σ hσ;rw[Iz] at h;exact gc
instance ee:Ct 164 (∀{a0} {a1} {r},GS a0 a1=N r→FC Z 164 [.ag (X3.row a0),.sc (.sl (Y rI a1))] [.sc (.v (.int .i64 r))]):=by
 refine⟨fun h=> ?_⟩;unfold GS at h;refine A3 A2 Zq [4] 33 ?_;have k0:= @B1i;exact gc
def Zr:Hw:=([(18,[3,9,22,23,24],[3],[960])],[])
def gh:=fun r1 (a0:X3) (k_:(P U)→U→Q ((P U) × V))=>∀{v4 v5} {zr},k_ v4 v5=N zr→Kh Z 128 Zr 18 [3,9,22,23,24] [3] [960] ⟨[pB 3,pL 9 rI v4,pW 22 960,pI 23 (r1.length:U),pI 24 v5],[(3,[aM X8.row a0.Points,aM X2.row a0.Segments])],[(960,1,Y (rL rI) r1)]⟩ (A5 [6,7] [.sc (.v (.sl (Y rI zr.1))),.sc (.v (.bool zr.2))])
theorem B1j{r1 a0}{n:W}:gh r1 a0 (Fw r1 a0 n):=by
 induction n with
 | zero=>intro _ _ r h; cases h
 | succ n ih=>
  intro v4 v5 r h σ hσ S hS;refine ev hS ?_;rw[Fw] at h;refine AB (As ?_);obtain⟨h6,h⟩|⟨h6,h⟩:=ic h
  ·obtain⟨x7,h7,h⟩:=ob h;have h7n:=Am h7;obtain⟨r9,h9,h⟩:=ob h;refine sg ?_;refine D6 (Ab ee h9) ?_;obtain⟨r10,h10,h⟩:=ob h;refine sg ?_;refine AF (Ab ee h10) ?_;refine sg ?_;obtain⟨h11,h⟩|⟨h11,h⟩:=ic h
   ·refine sg ?_;exact ih h sq kr
   ·refine sg ?_;exact ih h sq kr
  ·refine sg ?_;cases h;trivial
instance A6a:Ct 128 (∀{a0} {a1} {a2} {r},MX a0 a1 a2=N r→FC Z 128 [.ag (X3.row a0),.sc (.int .i64 a1),.sc (.int .i64 a2)] [.sc (.v (.sl (Y rI r.1))),.sc (.v (.bool r.2))]):=by
 refine⟨fun{a0} {a1} {a2} {r} h=> ?_⟩;unfold MX at h;refine A3 A2 Zr [6,7] 38 ?_;intro S hS;refine ev hS ?_;obtain⟨r1,h1,h⟩:=ob h;refine sg ?_;refine AF (Ab A6j h1) ?_;obtain⟨h2,h⟩|⟨h2,h⟩:=ic h
 ·refine sg ?_;cases h;trivial
 ·obtain⟨x3,h3,h⟩:=ob h;have h3n:=Am h3;refine sg ?_;exact B1j h sq kr
def Um:Hw:=([(20,[1,3,8,9,22,23,24],[3,8],[1344]),(44,[1,3,8,9,22,23,24,47],[3,8],[1344])],[])
def gm:=fun r14 a2 v6 (a0:X3) (v7:X9) v8 (k_:V→Q ((P U) × V))=>∀{v19} {zr},k_ v19=N zr→Kh Z 195 Um 44 [1,3,8,9,22,23,24,47] [3,8] [1344] ⟨[pI 1 r14,pB 3,pB 8,pW 9 1344,pL 22 rI a2,pI 23 (a2.length:U),pI 24 v6,(47,vc (aB v19))],[(3,[aM X8.row a0.Points,aM X2.row a0.Segments]),(8,[aB v7.i0,aB v7.i1,aB v7.i2,aB v7.i3,aB v7.i4,aB v7.i5,aB v7.i6,aB v7.i7])],[(1344,1,Y rI v8)]⟩ (A5 [6,7] [.sc (.o 1 (Y rI zr.1)),.sc (.v (.bool zr.2))])
def WB:=fun a2 (a0:X3) (k_:U→U→X9→(P U)→Q ((P U) × V))=>∀{v5 v6 v7 v8} {zr},k_ v5 v6 v7 v8=N zr→Kh Z 195 Um 20 [1,3,8,9,22,23,24] [3,8] [1344] ⟨[pI 1 v5,pB 3,pB 8,pW 9 1344,pL 22 rI a2,pI 23 (a2.length:U),pI 24 v6],[(3,[aM X8.row a0.Points,aM X2.row a0.Segments]),(8,[aB v7.i0,aB v7.i1,aB v7.i2,aB v7.i3,aB v7.i4,aB v7.i5,aB v7.i6,aB v7.i7])],[(1344,1,Y rI v8)]⟩ (A5 [6,7] [.sc (.o 1 (Y rI zr.1)),.sc (.v (.bool zr.2))])
theorem fR{r14 a2 v6 a0 v7 v8}{Sd}(vE:WB a2 a0 Sd):gm r14 a2 v6 a0 v7 v8 (Il r14 a2 v6 a0 v7 v8 Sd):=by
 intro v19 r h σ hσ S hS;refine ev hS ?_;refine As ?_;unfold Il at h;obtain⟨h20,h⟩|⟨h20,h⟩:=ic h
 ·refine sg ?_;cases h;trivial
 ·obtain⟨h21,h⟩:=B2 h;refine sg ?_;refine Pc X X h21 ?_;have hA22:BQ [aB v7.i0,aB v7.i1,aB v7.i2,aB v7.i3,aB v7.i4,aB v7.i5,aB v7.i6,aB v7.i7] (zA r14) [aB T]= [aB ((X9.set v7 (zA r14) T)).i0,aB ((X9.set v7 (zA r14) T)).i1,aB ((X9.set v7 (zA r14) T)).i2,aB ((X9.set v7 (zA r14) T)).i3,aB ((X9.set v7 (zA r14) T)).i4,aB ((X9.set v7 (zA r14) T)).i5,aB ((X9.set v7 (zA r14) T)).i6,aB ((X9.set v7 (zA r14) T)).i7]:=X9.set_eq v7 (Fs h21);have hA22g:C8 [aB v7.i0,aB v7.i1,aB v7.i2,aB v7.i3,aB v7.i4,aB v7.i5,aB v7.i6,aB v7.i7] (zA r14+1)=T:=Tu (Fs h21);have hA22h:C8 [aB v7.i1,aB v7.i2,aB v7.i3,aB v7.i4,aB v7.i5,aB v7.i6,aB v7.i7] (zA r14)=T:=Tv (c:=aB v7.i0) (Fs h21);refine sg ?_;refine Bc (es:=Y rI ([r14]:P U)) ?_;obtain⟨h23,h⟩:=B2 h;refine sg ?_;exact vE h sq kr
theorem B1k{a2 a0}{n:W}:WB a2 a0 (GK a2 a0 n):=by
 induction n with
 | zero=>intro _ _ _ _ r h; cases h
 | succ n ih=>
  intro v5 v6 v7 v8 r h σ hσ S hS;refine ev hS ?_;rw[GK] at h;refine AB (As ?_);obtain⟨h9,h⟩|⟨h9,h⟩:=ic h
  ·obtain⟨x10,h10,h⟩:=ob h;obtain⟨r11,h11,h⟩:=ob h;refine sg ?_;refine AF (Ab SU h11) ?_;obtain⟨h12,h⟩|⟨h12,h⟩:=ic h
   ·obtain⟨x13,h13,h⟩:=ob h;obtain⟨r14,h14,h⟩:=ob h;refine sg ?_;refine AF (Ab eg h14) ?_;obtain⟨h15,h⟩|⟨h15,h⟩:=ic h
    ·refine sg ?_;exact fR ih h sq kr
    ·obtain⟨h16,h⟩:=B2 h;refine sg ?_;refine Pc X X h16 ?_;obtain⟨x17,h17,h⟩:=ob h;have h17n:=Am h17;have hA18:([aB v7.i0,aB v7.i1,aB v7.i2,aB v7.i3,aB v7.i4,aB v7.i5,aB v7.i6,aB v7.i7]:P AC)[zA r14]?=N (aB x17):=XO h17n;refine sg ?_;exact fR ih h sq kr
   ·refine sg ?_;cases h;trivial
  ·refine sg ?_;cases h;trivial
instance B6u:Ct 195 (∀{a0} {a1} {a2} {r},Ik a0 a1 a2=N r→FC Z 195 [.ag (X3.row a0),.sc (.int .i64 a1),.sc (.sl (Y rI a2))] [.sc (.o 1 (Y rI r.1)),.sc (.v (.bool r.2))]):=by
 refine⟨fun{a0} {a1} {a2} {r} h=> ?_⟩;unfold Ik at h;refine A3 A2 Um [6,7] 56 ?_;intro S hS;refine ev hS ?_;obtain⟨r1,h1,h⟩:=ob h;refine sg ?_;refine AF (Ab SU h1) ?_;obtain⟨h2,h⟩|⟨h2,h⟩:=ic h
 ·obtain⟨h3,h⟩:=B2 h;refine sg ?_;refine Pc X X h3 ?_;have hA4:BQ [aB L,aB L,aB L,aB L,aB L,aB L,aB L,aB L] (zA a1) [aB T]= [aB ((X9.set (⟨L,L,L,L,L,L,L,L⟩:X9) (zA a1) T)).i0,aB ((X9.set (⟨L,L,L,L,L,L,L,L⟩:X9) (zA a1) T)).i1,aB ((X9.set (⟨L,L,L,L,L,L,L,L⟩:X9) (zA a1) T)).i2,aB ((X9.set (⟨L,L,L,L,L,L,L,L⟩:X9) (zA a1) T)).i3,aB ((X9.set (⟨L,L,L,L,L,L,L,L⟩:X9) (zA a1) T)).i4,aB ((X9.set (⟨L,L,L,L,L,L,L,L⟩:X9) (zA a1) T)).i5,aB ((X9.set (⟨L,L,L,L,L,L,L,L⟩:X9) (zA a1) T)).i6,aB ((X9.set (⟨L,L,L,L,L,L,L,L⟩:X9) (zA a1) T)).i7]:=X9.set_eq (⟨L,L,L,L,L,L,L,L⟩:X9) (Fs h3);have hA4g:C8 [aB L,aB L,aB L,aB L,aB L,aB L,aB L,aB L] (zA a1+1)=T:=Tu (Fs h3);have hA4h:C8 [aB L,aB L,aB L,aB L,aB L,aB L,aB L] (zA a1)=T:=Tv (c:=aB L) (Fs h3);refine sg ?_;refine Bc (es:=Y rI ([a1]:P U)) ?_;refine sg ?_;exact B1k h sq kr
 ·refine sg ?_;cases h;trivial
instance ef:Ct 165 (∀{a0} {a1} {a2} {r},Eb a0 a1 a2=N r→FC Z 165 [.ag (X3.row a0),.sc (.int .i64 a1),.sc (.sl (Y rI a2))] [.sc (.o 1 (Y rI r))]):=by
 refine⟨fun h=> ?_⟩;unfold Eb at h;refine A3 A2 h0 [6] 20 ?_;exact gc
instance B7i:Ct 196 (∀{a0} {a1} {a2} {r},Fz a0 a1 a2=N r→FC Z 196 [.ag (X3.row a0),.sc (.int .i64 a1),.sc (.sl (Y rI a2))] [.sc (.v (.bool r))]):=by
 refine⟨fun h=> ?_⟩;unfold Fz at h;refine A3 A2 h0 [6] 20 ?_;exact gc
instance eh:Ct 197 (∀{a0} {a1} {r},FA a0 a1=N r→FC Z 197 [.ag (X4.row a0),.ag (X2.row a1)] [.sc (.v (.int .i64 r))]):=by
 refine⟨fun h=> ?_⟩;unfold FA at h;refine A3 A2 h0 [4] 12 ?_;exact gc
instance B73:Ct 219 (∀{a0} {a1} {a2} {r},IJ a0 a1 a2=N r→FC Z 219 [.ag (X3.row a0),.sc (.int .i64 a1),.ag (X4.row a2)] [.sc (.v (.bool r))]):=by
 refine⟨fun h=> ?_⟩;unfold IJ at h;refine A3 A2 h0 [6] 20 ?_;exact gc
instance B7n:Ct 253 (∀{a0} {r},QV a0=N r→FC Z 253 [.ag (X4.row a0)] [.sc (.v (.int .i64 r))]):=by
 refine⟨fun h=> ?_⟩;unfold QV at h;refine A3 A2 h0 [2] 11 ?_;exact gc
instance B7m:Ct 240 (∀{a0} {r},QU a0=N r→FC Z 240 [.ag (X4.row a0)] [.sc (.v (.int .i64 r))]):=by
 refine⟨fun h=> ?_⟩;unfold QU at h;refine A3 A2 h0 [2] 9 ?_;exact gc
instance B67:Ct 222 (∀{a0} {a1} {a2} {r},N9 a0 a1 a2=N r→FC Z 222 [.ag (X3.row a0),.sc (.int .i64 a1),.ag (X4.row a2)] [.sc (.v (.int .i64 r))]):=by
 refine⟨fun h=> ?_⟩;unfold N9 at h;refine A3 A2 h0 [6] 21 ?_;exact gc
def RU:Hw:=([(10,[0,3,4,5],[],[384]),(35,[0,3,4,5],[],[384]),(36,[0,3,4,5],[],[384])],[])
def ik:=fun F_a0 caps_a0 v2 (k_:V→(P X5)→Q (P X5))=>∀{v11 v12} {zr},k_ v11 v12=N zr→Kh Z 237 RU 36 [0,3,4,5] [] [384] ⟨[(0,vc (.dat (.clo F_a0 caps_a0))),pW 3 384,(4,vc (aB v11)),pI 5 v2],[],[(384,2,Y X5.row v12)]⟩ (A5 [2] [.sc (.o 2 (Y X5.row zr))])
def ij:=fun F_a0 caps_a0 v2 (k_:(P X5)→Q (P X5))=>∀{v9} {zr},k_ v9=N zr→Kh Z 237 RU 35 [0,3,4,5] [] [384] ⟨[(0,vc (.dat (.clo F_a0 caps_a0))),pW 3 384,(4,vc (aB T)),pI 5 v2],[],[(384,2,Y X5.row v9)]⟩ (A5 [2] [.sc (.o 2 (Y X5.row zr))])
def Ta:=fun F_a0 caps_a0 (k_:V→U→(P X5)→Q (P X5))=>∀{v1 v2 v3} {zr},k_ v1 v2 v3=N zr→Kh Z 237 RU 10 [0,3,4,5] [] [384] ⟨[(0,vc (.dat (.clo F_a0 caps_a0))),pW 3 384,(4,vc (aB v1)),pI 5 v2],[],[(384,2,Y X5.row v3)]⟩ (A5 [2] [.sc (.o 2 (Y X5.row zr))])
theorem fS{a0:U→Q V}{F_a0 caps_a0}(hF_a0:AW Z F_a0=T)(h_a0:∀z0 zr,a0 z0=N zr→FC Z F_a0 ([.sc (.int .i64 z0)]++caps_a0.map .sc) [.sc (.v (.bool zr))]){v2}{Gf}(aV:Ta F_a0 caps_a0 Gf):ik F_a0 caps_a0 v2 (IS a0 v2 Gf):=by
 intro v11 v12 r h σ hσ;unfold IS at h;have k0:= @aV;exact gc
theorem fT{a0:U→Q V}{F_a0 caps_a0}(hF_a0:AW Z F_a0=T)(h_a0:∀z0 zr,a0 z0=N zr→FC Z F_a0 ([.sc (.int .i64 z0)]++caps_a0.map .sc) [.sc (.v (.bool zr))]){v2}{Gf}(aV:Ta F_a0 caps_a0 Gf):ij F_a0 caps_a0 v2 (La a0 v2 Gf):=by
 intro v9 r h σ hσ;unfold La at h;have s0:=fun(x10:X5)=> @Ez _ X5.row ((⟨x10.From,v2⟩:X5))
 have k0:= @fS;exact gc
theorem B1l{a0:U→Q V}{F_a0 caps_a0}(hF_a0:AW Z F_a0=T)(h_a0:∀z0 zr,a0 z0=N zr→FC Z F_a0 ([.sc (.int .i64 z0)]++caps_a0.map .sc) [.sc (.v (.bool zr))]){n:W}:Ta F_a0 caps_a0 (FI a0 n):=by
 induction n with
 | zero=>intro _ _ _ r h; cases h
 | succ n ih=>
  intro v1 v2 v3 r h σ hσ S hS;refine ev hS ?_;rw[FI] at h;refine AB (As ?_);obtain⟨h4,h⟩|⟨h4,h⟩:=ic h
  ·obtain⟨r5,h5,h⟩:=ob h;refine sg ?_;refine JU (h_a0 _ _ h5) hF_a0 X X (B1 X) X (uf X) ?_;obtain⟨h6,h⟩|⟨h6,h⟩:=ic h
   ·obtain⟨h7,h⟩|⟨h7,h⟩:=ic h
    ·refine sg ?_;exact fT hF_a0 h_a0 ih h sq kr
    ·refine sg ?_;refine Bc (es:=Y X5.row ([(⟨v2,(0:U)⟩:X5)]:P X5)) ?_;obtain⟨h8,h⟩:=B2 h;refine sg ?_;exact fT hF_a0 h_a0 ih h sq kr
   ·refine sg ?_;exact fS hF_a0 h_a0 ih h sq kr
  ·refine sg ?_;cases h;exact t0
theorem A62{a0}{r}(F_a0:FuncId)(caps_a0:P D)(hF_a0:AW Z F_a0=T)(h_a0:∀z0 zr,a0 z0=N zr→FC Z F_a0 ([.sc (.int .i64 z0)]++caps_a0.map .sc) [.sc (.v (.bool zr))])(h:NG a0=N r):FC Z 237 [.sc (.clo F_a0 caps_a0)] [.sc (.o 2 (Y X5.row r))]:=by
 unfold NG at h;refine A3 A2 RU [2] 30 ?_;have s0:= @Aw (Y X5.row ([]:P X5));have k0:= @B1l;exact gc
instance B7t:Ct 259 (∀{a0} {a1} {r},Nq a0 a1=N r→FC Z 259 [.sc (.int .i64 a0),.sc (.int .i64 a1)] [.sc (.v (.int .i64 r))]):=by
 refine⟨fun h=> ?_⟩;unfold Nq at h;refine A3 A2 h0 [4] 46 ?_;exact gc
def Zs:Hw:=([(8,[1,5,11,12,13],[],[])],[])
def iF:=fun a1 (a0:Xn) (k_:U→U→Q U)=>∀{v1 v2} {zr},k_ v1 v2=N zr→Kh Z 251 Zs 8 [1,5,11,12,13] [] [] ⟨[pI 1 a1,pI 5 v1,pL 11 zE a0.Parts,pI 12 (a0.Parts.length:U),pI 13 v2],[],[]⟩ (A5 [4] [.sc (.v (.int .i64 zr))])
theorem B1m{a1 a0}{n:W}:iF a1 a0 (IC a1 a0 n):=by
 induction n with
 | zero=>intro _ _ r h; cases h
 | succ n ih=>
  intro v1 v2 r h σ hσ;rw[IC] at h;exact gc
instance B7s:Ct 251 (∀{a0} {a1} {r},QX a0 a1=N r→FC Z 251 [.ag (Xn.row a0),.sc (.int .i64 a1)] [.sc (.v (.int .i64 r))]):=by
 refine⟨fun h=> ?_⟩;unfold QX at h;refine A3 A2 Zs [4] 32 ?_;have k0:= @B1m;exact gc
def Zt:Hw:=([(8,[1,5,9,10,11],[],[])],[])
def gx:=fun a1 (a0:Xe) (k_:U→U→Q U)=>∀{v1 v2} {zr},k_ v1 v2=N zr→Kh Z 252 Zt 8 [1,5,9,10,11] [] [] ⟨[pI 1 a1,pI 5 v1,pL 9 zF a0.Surges,pI 10 (a0.Surges.length:U),pI 11 v2],[],[]⟩ (A5 [4] [.sc (.v (.int .i64 zr))])
theorem B1o{a1 a0}{n:W}:gx a1 a0 (Fy a1 a0 n):=by
 induction n with
 | zero=>intro _ _ r h; cases h
 | succ n ih=>
  intro v1 v2 r h σ hσ;rw[Fy] at h;exact gc
instance B60:Ct 252 (∀{a0} {a1} {r},N3 a0 a1=N r→FC Z 252 [.ag (zI a0),.sc (.int .i64 a1)] [.sc (.v (.int .i64 r))]):=by
 refine⟨fun h=> ?_⟩;unfold N3 at h;refine A3 A2 Zt [4] 23 ?_;have k0:= @B1o;exact gc
instance B6z:Ct 239 (∀{a0} {a1} {r},N2 a0 a1=N r→FC Z 239 [.ag (zI a0),.sc (.int .i64 a1)] [.sc (.v (.int .i64 r))]):=by
 refine⟨fun h=> ?_⟩;unfold N2 at h;refine A3 A2 h0 [4] 18 ?_;exact gc
theorem B1p{a0}{c0}{c1}{r}(h:QS a0 c0 c1=N r):FC Z 238 [.sc (.int .i64 a0),.sc (.pd (zI c0)),.sc (.pd (rI c1))] [.sc (.v (.bool r))]:=by
 unfold QS at h;refine A3 A2 h0 [4] 10 ?_;exact gc
instance B68:Ct 221 (∀{a0} {a1} {r},Na a0 a1=N r→FC Z 221 [.ag (zI a0),.sc (.int .i64 a1)] [.sc (.o 2 (Y X5.row r))]):=by
 refine⟨fun{a0} {a1} {r} h=> ?_⟩;unfold Na at h;refine A3 A2 h0 [4] 10 ?_;intro S hS;refine ev hS ?_;obtain⟨r1,hr1,h⟩:=ob h;refine sg ?_;refine AF (Ab A6g hr1) ?_;obtain⟨hb2,h⟩|⟨hb2,h⟩:=ic h
 ·obtain⟨r3,hr3,h⟩:=ob h;refine sg ?_;refine AT (A62 238 [.pd (zI a0),.pd (rI a1)] (by kernel_rfl) (fun z0 zr zh=>B1p zh) hr3) X (BD X ⟨AN,⟨⟩⟩) X (uf X) ?_;refine sg ?_;cases h;exact t0
 ·refine sg ?_;cases h;exact t0
instance B69:Ct 223 (∀{a0} {a1} {a2} {r},Nb a0 a1 a2=N r→FC Z 223 [.ag (X3.row a0),.sc (.int .i64 a1),.ag (X4.row a2)] [.sc (.v (.int .i64 r))]):=by
 refine⟨fun h=> ?_⟩;unfold Nb at h;refine A3 A2 h0 [6] 30 ?_;exact gc
def Zu:Hw:=([(6,[0,5,6,7],[],[])],[])
def iG:=fun a0 (k_:U→Q V)=>∀{v1} {zr},k_ v1=N zr→Kh Z 224 Zu 6 [0,5,6,7] [] [] ⟨[pL 0 X5.row a0,pL 5 X5.row a0,pI 6 (a0.length:U),pI 7 v1],[],[]⟩ (A5 [2] [.sc (.v (.bool zr))])
theorem B1q{a0}{n:W}:iG a0 (FD a0 n):=by
 induction n with
 | zero=>intro _ r h; cases h
 | succ n ih=>
  intro v1 r h σ hσ;rw[FD] at h;exact gc
instance B7u:Ct 224 (∀{a0} {r},KZ a0=N r→FC Z 224 [.sc (.sl (Y X5.row a0))] [.sc (.v (.bool r))]):=by
 refine⟨fun h=> ?_⟩;unfold KZ at h;refine A3 A2 Zu [2] 44 ?_;have k0:= @B1q;exact gc
def Zv:Hw:=([(16,[1,5,17,18,19],[],[1024])],[])
def iD:=fun a1 a0 (k_:U→(P X5)→Q (P X5))=>∀{v5 v6} {zr},k_ v5 v6=N zr→Kh Z 220 Zv 16 [1,5,17,18,19] [] [1024] ⟨[pI 1 a1,pW 5 1024,pL 17 X5.row a0,pI 18 (a0.length:U),pI 19 v5],[],[(1024,2,Y X5.row v6)]⟩ (A5 [4] [.sc (.o 2 (Y X5.row zr))])
theorem B1r{a1 a0}{n:W}:iD a1 a0 (FB a1 a0 n):=by
 induction n with
 | zero=>intro _ _ r h; cases h
 | succ n ih=>
  intro v5 v6 r h σ hσ;rw[FB] at h;have s0:=fun(x8:X5)=> @Aw (Y X5.row ([(⟨x8.From,(IntKind.i64.wrap (x8.To - a1))⟩:X5)]:P X5))
  exact gc
instance B7o:Ct 220 (∀{a0} {a1} {r},QW a0 a1=N r→FC Z 220 [.sc (.sl (Y X5.row a0)),.sc (.int .i64 a1)] [.sc (.o 2 (Y X5.row r))]):=by
 refine⟨fun h=> ?_⟩;unfold QW at h;refine A3 A2 Zv [4] 42 ?_;have s0:= @Aw (Y X5.row ([]:P X5));have k0:= @B1r;exact gc
instance A6k:Ct 198 (∀{a0} {a1} {a2} {a3} {r},Nm a0 a1 a2 a3=N r→FC Z 198 [.ag (zI a0),.ag (X3.row a1),.sc (.int .i64 a2),.ag (X4.row a3)] [.sc (.o 2 (Y X5.row r))]):=by
 refine⟨fun h=> ?_⟩;unfold Nm at h;refine A3 A2 h0 [8] 30 ?_;exact gc
def Uo:Hw:=([(5,[3,4,5,6,7,10,34],[5,6,7,10],[]),(16,[4,5,6,7,10,12,43,44,45],[5,6,7,10,12],[140288,140352,140416])],[(11,3,(O,.ownb 12 0 140288 1)),(11,4,(O,.ownb 12 1 140352 1)),(11,5,(O,.ownb 12 2 140416 1)),(14,6,(O,.frz 2560))])
def ig:=fun a4 (a0:Xe) (a1:X3) (a2:X4) y11 y12 (k_:U→(P V)→(P U)→(P (P X5))→Q (Xm × V))=>∀{v13 v14 v15 v16} {zr},k_ v13 v14 v15 v16=N zr→Kh Z 166 Uo 16 [4,5,6,7,10,12,43,44,45] [5,6,7,10,12] [140288,140352,140416] ⟨[pL 4 rI a4,pB 5,pB 6,pB 7,pB 10,pB 12,pL 43 rI y11,pI 44 y12,pI 45 v13],[(5,[aI a0.Tide.Mean,aM zE a0.Tide.Parts,aM zF a0.Surges]),(6,[aM X8.row a1.Points,aM X2.row a1.Segments]),(7,(dm a2.row)),(10,[.nil,.nil,.nil]),(12,[.own 140288,.own 140352,.own 140416])],[(140288,1,Y rB v14),(140352,1,Y rI v15),(140416,1,Y (rL X5.row) v16)]⟩ (A5 [.c 10 T 3,11] [.ag [.o 1 (Y rB zr.1.waits),.o 1 (Y rI zr.1.minutes),.o 1 (Y (rL X5.row) zr.1.sure)],.sc (.v (.bool zr.2))])
def ib:=fun a3 a4 (a0:Xe) (a1:X3) (a2:X4) (k_:V→Q (Xm × V))=>∀{v7} {zr},k_ v7=N zr→Kh Z 166 Uo 5 [3,4,5,6,7,10,34] [5,6,7,10] [] ⟨[pI 3 a3,pL 4 rI a4,pB 5,pB 6,pB 7,pB 10,(34,vc (aB v7))],[(5,[aI a0.Tide.Mean,aM zE a0.Tide.Parts,aM zF a0.Surges]),(6,[aM X8.row a1.Points,aM X2.row a1.Segments]),(7,(dm a2.row)),(10,[.nil,.nil,.nil])],[]⟩ (A5 [.c 10 T 3,11] [.ag [.o 1 (Y rB zr.1.waits),.o 1 (Y rI zr.1.minutes),.o 1 (Y (rL X5.row) zr.1.sure)],.sc (.v (.bool zr.2))])
theorem B1s{a4 a0 a1 a2 y11 y12}{n:W}:ig a4 a0 a1 a2 y11 y12 (IQ a4 a0 a1 a2 y11 y12 n):=by
 induction n with
 | zero=>intro _ _ _ _ r h; cases h
 | succ n ih=>
  intro v13 v14 v15 v16 r h σ hσ S hS;refine ev hS ?_;rw[IQ] at h;refine AB (As ?_);obtain⟨h17,h⟩|⟨h17,h⟩:=ic h
  ·obtain⟨x18,h18,h⟩:=ob h;obtain⟨x19,h19,h⟩:=ob h;refine sg ?_;refine Bc (es:=Y rB ([x19.Wait]:P V)) ?_;obtain⟨h20,h⟩:=B2 h;obtain⟨x21,h21,h⟩:=ob h;obtain⟨x22,h22,h⟩:=ob h;obtain⟨r23,h23,h⟩:=ob h;refine sg ?_;refine D6 (Ab eh h23) ?_;refine sg ?_;refine Bc (es:=Y rI ([r23]:P U)) ?_;obtain⟨h24,h⟩:=B2 h;obtain⟨r25,h25,h⟩:=ob h;refine sg ?_;refine D6 (FC.asV (rs':= [.sc (.v (.sl (Y X5.row r25)))]) (Ab A6k h25) X) ?_;refine sg ?_;refine Bc (es:=Y (rL X5.row) ([r25]:P (P X5))) ?_;obtain⟨h26,h⟩:=B2 h;refine sg ?_;exact ih h sq kr
  ·refine sg ?_;cases h;try simp only[Q5,C,E,F,G,I,J]
   trivial
theorem B1t{a3 a4 a0 a1 a2}:ib a3 a4 a0 a1 a2 (IP a3 a4 a0 a1 a2):=by
 intro v7 r h σ hσ S hS;refine ev hS ?_;refine As ?_;unfold IP at h;obtain⟨h8,h⟩|⟨h8,h⟩:=ic h
 ·refine sg ?_;cases h;try simp only[Q5,C,E,F,G,I,J]
  trivial
 ·refine sg ?_;refine G9 (cs':= [.own 140288,.nil,.nil]) X X X X ?_;refine sg ?_;refine G9 (cs':= [.own 140288,.own 140352,.nil]) X X X X ?_;refine sg ?_;refine G9 (cs':= [.own 140288,.own 140352,.own 140416]) X X X X ?_;obtain⟨r9,h9,h⟩:=ob h;refine sg ?_;refine AF (Ab ef h9) ?_;obtain⟨p10,h10,h⟩:=ob h;refine sg ?_;exact B1s h sq kr
instance B76:Ct 166 (∀{a0} {a1} {a2} {a3} {a4} {r},IN a0 a1 a2 a3 a4=N r→FC Z 166 [.ag (zI a0),.ag (X3.row a1),.ag (X4.row a2),.sc (.int .i64 a3),.sc (.sl (Y rI a4))] [.ag [.o 1 (Y rB r.1.waits),.o 1 (Y rI r.1.minutes),.o 1 (Y (rL X5.row) r.1.sure)],.sc (.v (.bool r.2))]):=by
 refine⟨fun h=> ?_⟩;unfold IN at h;refine A3 A2 Uo [.c 10 T 3,11] 91 ?_;have k0:= @B1t;exact gc
def Zw:Hw:=([(7,[2,3,4,6,28],[3,4,6],[])],[])
def iH:=fun a2 (a0:X6) (a1:Xc) (k_:V→Q (Xm × V))=>∀{v4} {zr},k_ v4=N zr→Kh Z 129 Zw 7 [2,3,4,6,28] [3,4,6] [] ⟨[pL 2 rI a2,pB 3,pB 4,pB 6,(28,vc (aB v4))],[(3,([aI a0.Forecast.Tide.Mean,aM zE a0.Forecast.Tide.Parts,aM zF a0.Forecast.Surges,aM X8.row a0.Chart.Points,aM X2.row a0.Chart.Segments,aM X4.row a0.Fleet,aI a0.Regime.Gap,aB a0.Regime.NoMeet]++dm a0.Crew.row)),(4,(dm a1.row)),(6,[.nil,.nil,.nil])],[]⟩ (A5 [.c 6 T 3,7] [.ag [.o 1 (Y rB zr.1.waits),.o 1 (Y rI zr.1.minutes),.o 1 (Y (rL X5.row) zr.1.sure)],.sc (.v (.bool zr.2))])
theorem fU{a2 a0 a1}:iH a2 a0 a1 (L2 a2 a0 a1):=by
 intro v4 r h σ hσ;unfold L2 at h;exact gc
instance A6m:Ct 129 (∀{a0} {a1} {a2} {r},ID a0 a1 a2=N r→FC Z 129 [.ag (X6.row a0),.ag (zC a1),.sc (.sl (Y rI a2))] [.ag [.o 1 (Y rB r.1.waits),.o 1 (Y rI r.1.minutes),.o 1 (Y (rL X5.row) r.1.sure)],.sc (.v (.bool r.2))]):=by
 refine⟨fun{a0} {a1} {a2} {r} h=> ?_⟩;unfold ID at h;refine A3 A2 Zw [.c 6 T 3,7] 46 ?_;intro S hS;refine ev hS ?_;obtain⟨r1,h1,h⟩:=ob h;refine sg ?_;refine AF (Ab ef h1) ?_;refine sg ?_;obtain⟨h2,h⟩|⟨h2,h⟩:=ic h
 ·refine sg ?_;exact fU h sq kr
 ·obtain⟨x3,h3,h⟩:=ob h;have h3n:=Am h3;refine sg ?_;exact fU h sq kr
def Zy:Hw:=([(6,[1,7,8,9],[],[])],[])
def gz:=fun a1 a0 (k_:U→Q V)=>∀{v1} {zr},k_ v1=N zr→Kh Z 199 Zy 6 [1,7,8,9] [] [] ⟨[pI 1 a1,pL 7 X5.row a0,pI 8 (a0.length:U),pI 9 v1],[],[]⟩ (A5 [4] [.sc (.v (.bool zr))])
theorem B1v{a1 a0}{n:W}:gz a1 a0 (Iv a1 a0 n):=by
 induction n with
 | zero=>intro _ r h; cases h
 | succ n ih=>
  intro v1 r h σ hσ;rw[Iv] at h;exact gc
instance B63:Ct 199 (∀{a0} {a1} {r},N4 a0 a1=N r→FC Z 199 [.sc (.sl (Y X5.row a0)),.sc (.int .i64 a1)] [.sc (.v (.bool r))]):=by
 refine⟨fun h=> ?_⟩;unfold N4 at h;refine A3 A2 Zy [4] 20 ?_;have k0:= @B1v;exact gc
def Zz:Hw:=([(14,[1,10,11,12],[],[])],[])
def hP:=fun a1 a0 (k_:U→Q U)=>∀{v3} {zr},k_ v3=N zr→Kh Z 200 Zz 14 [1,10,11,12] [] [] ⟨[pI 1 a1,pL 10 X5.row a0,pI 11 (a0.length:U),pI 12 v3],[],[]⟩ (A5 [4] [.sc (.v (.int .i64 zr))])
theorem B1w{a1 a0}{n:W}:hP a1 a0 (Iw a1 a0 n):=by
 induction n with
 | zero=>intro _ r h; cases h
 | succ n ih=>
  intro v3 r h σ hσ;rw[Iw] at h;exact gc
instance A6h:Ct 200 (∀{a0} {a1} {r},Nc a0 a1=N r→FC Z 200 [.sc (.sl (Y X5.row a0)),.sc (.int .i64 a1)] [.sc (.v (.int .i64 r))]):=by
 refine⟨fun h=> ?_⟩;unfold Nc at h;refine A3 A2 Zz [4] 25 ?_;have k0:= @B1w;exact gc
def Up:Hw:=([(16,[2,6,7],[2],[1152]),(32,[2,6,7,9,59],[2],[1152])],[])
def ii:=fun v4 r10 (a0:Xm) v5 (k_:V→Q ((P U) × V))=>∀{v14} {zr},k_ v14=N zr→Kh Z 167 Up 32 [2,6,7,9,59] [2] [1152] ⟨[pB 2,pW 6 1152,pI 7 v4,pI 9 r10,(59,vc (aB v14))],[(2,(dm a0.row))],[(1152,1,Y rI v5)]⟩ (A5 [4,5] [.sc (.o 1 (Y rI zr.1)),.sc (.v (.bool zr.2))])
def WJ:=fun(a0:Xm) (k_:U→(P U)→Q ((P U) × V))=>∀{v4 v5} {zr},k_ v4 v5=N zr→Kh Z 167 Up 16 [2,6,7] [2] [1152] ⟨[pB 2,pW 6 1152,pI 7 v4],[(2,(dm a0.row))],[(1152,1,Y rI v5)]⟩ (A5 [4,5] [.sc (.o 1 (Y rI zr.1)),.sc (.v (.bool zr.2))])
theorem Wh{v4 r10 a0 v5}{Sg}(vK:WJ a0 Sg):ii v4 r10 a0 v5 (IR v4 r10 a0 v5 Sg):=by
 intro v14 r h σ hσ;unfold IR at h;have s0:= @Aw (Y rI ([r10]:P U));have k0:= @vK;exact gc
theorem B1x{a0}{n:W}:WJ a0 (EL a0 n):=by
 induction n with
 | zero=>intro _ _ r h; cases h
 | succ n ih=>
  intro v4 v5 r h σ hσ S hS;refine ev hS ?_;rw[EL] at h;refine AB (As ?_);obtain⟨h6,h⟩|⟨h6,h⟩:=ic h
  ·obtain⟨x7,h7,h⟩:=ob h;have h7n:=Am h7;obtain⟨x8,h8,h⟩:=ob h;obtain⟨x9,h9,h⟩:=ob h;obtain⟨r10,h10,h⟩:=ob h;refine sg ?_;refine AF (Ab A6h h10) ?_;obtain⟨h11,h⟩|⟨h11,h⟩:=ic h
   ·refine sg ?_;exact Wh ih h sq kr
   ·obtain⟨h12,h⟩|⟨h12,h⟩:=ic h
    ·obtain⟨x13,h13,h⟩:=ob h;refine sg ?_;exact Wh ih h sq kr
    ·refine sg ?_;exact Wh ih h sq kr
  ·refine sg ?_;cases h;trivial
instance B77:Ct 167 (∀{a0} {a1} {r},NE a0 a1=N r→FC Z 167 [.ag (Xm.row a0),.sc (.int .i64 a1)] [.sc (.o 1 (Y rI r.1)),.sc (.v (.bool r.2))]):=by
 refine⟨fun{a0} {a1} {r} h=> ?_⟩;unfold NE at h;refine A3 A2 Up [4,5] 65 ?_;have s0:= @Aw (Y rI ([a1]:P U));have k0:= @B1x;exact gc
def ZA:Hw:=([(18,[1,5,6,8,13,14,40,41,42],[6,8],[2432,2496])],[])
def hZ:=fun a1 a5 a4 (a0:X3) (a2:X4) r6 (k_:U→(P X1)→Q (P X1))=>∀{v7 v8} {zr},k_ v7 v8=N zr→Kh Z 168 ZA 18 [1,5,6,8,13,14,40,41,42] [6,8] [2432,2496] ⟨[pI 1 a1,pL 5 rI a5,pB 6,pB 8,pW 13 2432,pW 14 2496,pL 40 rI a4,pI 41 (a4.length:U),pI 42 v7],[(6,[aM X8.row a0.Points,aM X2.row a0.Segments]),(8,(dm a2.row))],[(2432,1,Y rI r6),(2496,5,Y X1.row v8)]⟩ (A5 [12] [.sc (.o 5 (Y X1.row zr))])
theorem B1z{a1 a5 a4 a0 a2 r6}{n:W}:hZ a1 a5 a4 a0 a2 r6 (Ix a1 a5 a4 a0 a2 r6 n):=by
 induction n with
 | zero=>intro _ _ r h; cases h
 | succ n ih=>
  intro v7 v8 r h σ hσ S hS;refine ev hS ?_;rw[Ix] at h;refine AB (As ?_);obtain⟨h9,h⟩|⟨h9,h⟩:=ic h
  ·obtain⟨x10,h10,h⟩:=ob h;obtain⟨x11,h11,h⟩:=ob h;obtain⟨r12,h12,h⟩:=ob h;refine sg ?_;refine AF (Ab A6u h12) ?_;obtain⟨h13,h⟩|⟨h13,h⟩:=ic h
   ·obtain⟨x14,h14,h⟩:=ob h;obtain⟨x15,h15,h⟩:=ob h;have h15n:=Am h15;obtain⟨r16,h16,h⟩:=ob h;refine sg ?_;refine D6 (Ab eh h16) ?_;refine sg ?_;refine Bc (es:=Y X1.row ([(⟨a1,x10,(x15==x14.A),x11,(IntKind.i64.wrap (x11+r16))⟩:X1)]:P X1)) ?_;obtain⟨h17,h⟩:=B2 h;refine sg ?_;exact ih h sq kr
   ·refine sg ?_;cases h;exact t0
  ·refine sg ?_;cases h;exact t0
instance B7f:Ct 168 (∀{a0} {a1} {a2} {a3} {a4} {a5} {r},Ng a0 a1 a2 a3 a4 a5=N r→FC Z 168 [.ag (X3.row a0),.sc (.int .i64 a1),.ag (X4.row a2),.sc (.int .i64 a3),.sc (.sl (Y rI a4)),.sc (.sl (Y rI a5))] [.sc (.o 5 (Y X1.row r))]):=by
 refine⟨fun h=> ?_⟩;unfold Ng at h;refine A3 A2 ZA [12] 85 ?_;have s0:= @Aw (Y X1.row ([]:P X1));have k0:= @B1z;exact gc
instance B6t:Ct 169 (∀{a0} {a1} {a2} {a3} {r},MW a0 a1 a2 a3=N r→FC Z 169 [.ag (X3.row a0),.ag (X4.row a1),.sc (.sl (Y rI a2)),.sc (.sl (Y rI a3))] [.sc (.v (.int .i64 r))]):=by
 refine⟨fun h=> ?_⟩;unfold MW at h;refine A3 A2 h0 [8] 55 ?_;exact gc
def B5d:P (P W × AItem):= [([],(O,.load 72 (S 16) T 4)),([],(O,.faddr 73 (S 16) 1)),([1],(O,.load 74 (S 73) L 1)),([2],(O,.bin 75 .leq (S 74) (K 2880))),([0,0],(O,.store (S 10) (S 72) 4)),([3,4,0,1,2,3,4],(O,.mv 11 (S 75)))]
def ZB:Hw:=([(24,[10,16,60,61,62],[10,16],[2752])],[])
abbrev Qc(a4 r5 v7:U)(c0_ c1_:V)(c2_ c3_ c5_:V)(bx_:P (W × P AC))(rs_:Rows):St:=⟨[(10,vc (.pb 10 0)),(16,vc (.pb 16 0)),(72,bif c0_ then va [aI a4,aI r5,aI v7,.own 2752] else .undef),(73,bif c1_ then vc (.pb 16 1) else .undef),(74,bif c2_ then vc (aI r5) else .undef),(75,bif c3_ then vc (aB (decide (r5≤(2880:U)))) else .undef),(11,bif c5_ then vc (aB (decide (r5≤(2880:U)))) else .undef)],bx_,rs_⟩
abbrev VU(a4 r5:U)(r4:(P X1))(v7:U):St:=(Qc a4 r5 v7 T T T T T [(10,[aI a4,aI r5,aI v7,.own 2752]),(16,[aI a4,aI r5,aI v7,.own 2752])] [(2752,5,Y X1.row r4)])
def T3:=fun a4 r5 r4 v7 (f:W) (c0:V) (c1:V) (c2:V) (c3:V) (c4:V) (c5:V) c6 c7 c8 c9=>BZ Z B5d (VU a4 r5 r4 v7) f [c0,c1,c2,c3,c4,c5] (Qc a4 r5 v7 c0 c1 c2 c3 c5 [(10,[aI c6,aI c7,aI c8,(c9)]),(16,[aI a4,aI r5,aI v7,.own 2752])] [(2752,5,Y X1.row r4)])
def aQ:Prop:=True
theorem B10{a4 r5 r4 v7}(H:aQ):∀(f:W) (b1 b2:V) (b3 b5:V),T3 a4 r5 r4 v7 f T b1 b2 b3 T b5 a4 r5 v7 (.own 2752):=by
 unfold T3 Qc;intro f
 induction f with
 | zero=>
  intro b1 b2 b3 b5 h;obtain rfl:b1=T:=zD.1 h b1 (by simp);obtain rfl:b2=T:=zD.1 h b2 (by simp);obtain rfl:b3=T:=zD.1 h b3 (by simp);obtain rfl:b5=T:=zD.1 h b5 (by simp);rfl
 | succ f ih=>
  intros;refine Ag ⟨?_,?_,?_,?_,?_,?_,⟨⟩⟩<;>try exact gi
theorem B11{a4 r5 r4 v7}(H:aQ):∀(f:W) (b0 b1:V) (b2 b3:V),T3 a4 r5 r4 v7 f b0 b1 b2 b3 L L (0:U) (0:U) (0:U) .nil:=by
 unfold T3 Qc;intro f
 induction f with
 | zero=>intros; intro h; simp at h
 | succ f ih=>
  intros;refine Ag ⟨?_,?_,?_,?_,?_,?_,⟨⟩⟩<;>try exact gi
  ·intro h0 hw;obtain rfl:=hq hw 0 rfl rfl;refine np ?_;try simp only[A7,A8,A4,C,E,F,G,I,J]
   exact B10 H ..
def iV:=fun(a2:Xm) a4 r5 r4 (k_:U→U→Q (X0 × V))=>∀{v6 v7} {zr},k_ v6 v7=N zr→Kh Z 130 ZB 24 [10,16,60,61,62] [10,16] [2752] ⟨[pB 10,pB 16,pL 60 rI a2.minutes,pI 61 (a2.minutes.length:U),pI 62 v6],[(10,[aI (0:U),aI (0:U),aI (0:U),.nil]),(16,[aI a4,aI r5,aI v7,.own 2752])],[(2752,5,Y X1.row r4)]⟩ (A5 [.c 10 T 4,11] [.ag [.v (.int .i64 zr.1.Start),.v (.int .i64 zr.1.Arrival),.v (.int .i64 zr.1.Cost),.o 5 (Y X1.row zr.1.Passages)],.sc (.v (.bool zr.2))])
theorem B12{a2 a4 r5 r4}{n:W}:iV a2 a4 r5 r4 (H0 a2 a4 r5 r4 n):=by
 induction n with
 | zero=>intro _ _ r h; cases h
 | succ n ih=>
  intro v6 v7 r h σ hσ S hS;refine ev hS ?_;rw[H0] at h;refine AB (As ?_);obtain⟨h8,h⟩|⟨h8,h⟩:=ic h
  ·obtain⟨x9,h9,h⟩:=ob h;refine sg ?_;exact ih h sq kr
  ·refine sg ?_;refine Em (ks:= [10,16]) (bs:= [10,16]) (rs:= [2752]) (τ:=(VU a4 r5 r4 v7)) X (B11 ⟨⟩ _ L L L L) ?_;simp only[VU,Qc,A7];refine sg ?_;cases h;try simp only[Q5,C,E,F,G,I,J]
   trivial
instance ej:Ct 130 (∀{a0} {a1} {a2} {a3} {a4} {r},IK a0 a1 a2 a3 a4=N r→FC Z 130 [.ag (X6.row a0),.ag (zC a1),.ag (Xm.row a2),.sc (.sl (Y rI a3)),.sc (.int .i64 a4)] [.ag [.v (.int .i64 r.1.Start),.v (.int .i64 r.1.Arrival),.v (.int .i64 r.1.Cost),.o 5 (Y X1.row r.1.Passages)],.sc (.v (.bool r.2))]):=by
 refine⟨fun h=> ?_⟩;unfold IK at h;refine A3 A2 ZB [.c 10 T 4,11] 76 ?_;have k0:= @B12;exact gc
def Uq:Hw:=([(28,[2,3,5,7,9,10],[2,3,7],[1984,1985,1986,2560]),(44,[2,3,5,7,9,10],[2,3,7],[1984,1985,1986,2560])],[(42,2,(O,.frz 3843))])
def hU:=fun(r3:(P U) × V) v7 (a0:X6) (a1:Xc) (r4:Xm × V) (k_:(P X0)→Q (P X0))=>∀{v14} {zr},k_ v14=N zr→Kh Z 82 Uq 44 [2,3,5,7,9,10] [2,3,7] [1984,1985,1986,2560] ⟨[pB 2,pB 3,pL 5 rI r3.1,pB 7,pW 9 2560,pI 10 v7],[(2,([aI a0.Forecast.Tide.Mean,aM zE a0.Forecast.Tide.Parts,aM zF a0.Forecast.Surges,aM X8.row a0.Chart.Points,aM X2.row a0.Chart.Segments,aM X4.row a0.Fleet,aI a0.Regime.Gap,aB a0.Regime.NoMeet]++dm a0.Crew.row)),(3,(dm a1.row)),(7,[.own 1984,.own 1985,.own 1986])],[(1984,1,Y rB r4.1.waits),(1985,1,Y rI r4.1.minutes),(1986,1,Y (rL X5.row) r4.1.sure),(2560,4,Y X0.row v14)]⟩ (A5 [4] [.sc (.o 4 (Y X0.row zr))])
def WD:=fun(r3:(P U) × V) (a0:X6) (a1:Xc) (r4:Xm × V) (k_:U→(P X0)→Q (P X0))=>∀{v7 v8} {zr},k_ v7 v8=N zr→Kh Z 82 Uq 28 [2,3,5,7,9,10] [2,3,7] [1984,1985,1986,2560] ⟨[pB 2,pB 3,pL 5 rI r3.1,pB 7,pW 9 2560,pI 10 v7],[(2,([aI a0.Forecast.Tide.Mean,aM zE a0.Forecast.Tide.Parts,aM zF a0.Forecast.Surges,aM X8.row a0.Chart.Points,aM X2.row a0.Chart.Segments,aM X4.row a0.Fleet,aI a0.Regime.Gap,aB a0.Regime.NoMeet]++dm a0.Crew.row)),(3,(dm a1.row)),(7,[.own 1984,.own 1985,.own 1986])],[(1984,1,Y rB r4.1.waits),(1985,1,Y rI r4.1.minutes),(1986,1,Y (rL X5.row) r4.1.sure),(2560,4,Y X0.row v8)]⟩ (A5 [4] [.sc (.o 4 (Y X0.row zr))])
theorem fV{r3 v7 a0 a1 r4}{Se}(vF:WD r3 a0 a1 r4 Se):hU r3 v7 a0 a1 r4 (GR r3 v7 a0 a1 r4 Se):=by
 intro v14 r h σ hσ;unfold GR at h;have k0:= @vF;exact gc
theorem B13{r3 a0 a1 r4}{n:W}:WD r3 a0 a1 r4 (EI r3 a0 a1 r4 n):=by
 induction n with
 | zero=>intro _ _ r h; cases h
 | succ n ih=>
  intro v7 v8 r h σ hσ S hS;refine ev hS ?_;rw[EI] at h;refine AB (As ?_);obtain⟨h9,h⟩|⟨h9,h⟩:=ic h
  ·obtain⟨h10,h⟩|⟨h10,h⟩:=ic h
   ·obtain⟨r11,h11,h⟩:=ob h;refine sg ?_;refine AT (Ab ej h11) X (BD X ⟨X,X,X,AN,X,⟨⟩⟩) X (uf X) ?_;refine sg ?_;obtain⟨h12,h⟩|⟨h12,h⟩:=ic h
    ·refine sg ?_;refine Bc (es:=Y X0.row ([r11.1]:P X0)) ?_;obtain⟨h13,h⟩:=B2 h;refine sg ?_;exact fV ih h sq kr
    ·refine sg ?_;exact fV ih h sq kr
   ·refine sg ?_;cases h;exact t0
  ·refine sg ?_;cases h;exact t0
instance A6i:Ct 82 (∀{a0} {a1} {r},DE a0 a1=N r→FC Z 82 [.ag (X6.row a0),.ag (zC a1)] [.sc (.o 4 (Y X0.row r))]):=by
 refine⟨fun h=> ?_⟩;unfold DE at h;refine A3 A2 Uq [4] 69 ?_;have s0:= @Aw (Y X0.row ([]:P X0));have k0:= @B13;exact gc
def ZC:Hw:=([(6,[0,1,7,8],[],[])],[])
def ja:=fun F_a1 caps_a1 a0 (k_:U→Q U)=>∀{v1} {zr},k_ v1=N zr→Kh Z 127 ZC 6 [0,1,7,8] [] [] ⟨[pL 0 X0.row a0,(1,vc (.dat (.clo F_a1 caps_a1))),pI 7 (a0.length:U),pI 8 v1],[],[]⟩ (A5 [4] [.sc (.v (.int .i64 zr))])
theorem B14{a1:X0→Q V}{F_a1 caps_a1}(hF_a1:AW Z F_a1=T)(h_a1:∀z0 zr,a1 z0=N zr→FC Z F_a1 ([.ag (X0.row z0)]++caps_a1.map .sc) [.sc (.v (.bool zr))]){a0}{n:W}:ja F_a1 caps_a1 a0 (Jj a1 a0 n):=by
 induction n with
 | zero=>intro _ r h; cases h
 | succ n ih=>
  intro v1 r h σ hσ S hS;refine ev hS ?_;rw[Jj] at h;refine AB (As ?_);obtain⟨h2,h⟩|⟨h2,h⟩:=ic h
  ·obtain⟨x3,h3,h⟩:=ob h;obtain⟨r4,h4,h⟩:=ob h;refine sg ?_;refine JU (h_a1 _ _ h4) hF_a1 X X (B1 X) X (uf X) ?_;obtain⟨h5,h⟩|⟨h5,h⟩:=ic h
   ·refine sg ?_;cases h;exact t0
   ·refine sg ?_;exact ih h sq kr
  ·refine sg ?_;cases h;exact t0
theorem A7t{a0}{a1}{r}(F_a1:FuncId)(caps_a1:P D)(hF_a1:AW Z F_a1=T)(h_a1:∀z0 zr,a1 z0=N zr→FC Z F_a1 ([.ag (X0.row z0)]++caps_a1.map .sc) [.sc (.v (.bool zr))])(h:Ro a0 a1=N r):FC Z 127 [.sc (.sl (Y X0.row a0)),.sc (.clo F_a1 caps_a1)] [.sc (.v (.int .i64 r))]:=by
 unfold Ro at h;refine A3 A2 ZC [4] 19 ?_;have k0:= @B14;exact gc
def RW:Hw:=([(16,[0,1,5,6],[],[90000]),(34,[0,1,5,6],[],[90000])],[(38,3,(O,.cut 41))])
def jY:=fun F_a1 caps_a1 v4 (k_:U→(P X0)→Q (P X0))=>∀{v12 v13} {zr},k_ v12 v13=N zr→Kh Z 81 RW 34 [0,1,5,6] [] [90000] ⟨[pW 0 90000,(1,vc (.dat (.clo F_a1 caps_a1))),pI 5 v12,pI 6 v4],[],[(90000,4,Y X0.row v13)]⟩ (GA [4] 4 (Y X0.row zr))
def WK:=fun F_a1 caps_a1 (k_:U→U→(P X0)→Q (P X0))=>∀{v3 v4 v5} {zr},k_ v3 v4 v5=N zr→Kh Z 81 RW 16 [0,1,5,6] [] [90000] ⟨[pW 0 90000,(1,vc (.dat (.clo F_a1 caps_a1))),pI 5 v3,pI 6 v4],[],[(90000,4,Y X0.row v5)]⟩ (GA [4] 4 (Y X0.row zr))
theorem fW{a1:X0→Q V}{F_a1 caps_a1}(hF_a1:AW Z F_a1=T)(h_a1:∀z0 zr,a1 z0=N zr→FC Z F_a1 ([.ag (X0.row z0)]++caps_a1.map .sc) [.sc (.v (.bool zr))]){v4}{k_slices_DeleteFunc_Option_1}(hk_slices_DeleteFunc_Option_1:WK F_a1 caps_a1 k_slices_DeleteFunc_Option_1):jY F_a1 caps_a1 v4 (Lu a1 v4 k_slices_DeleteFunc_Option_1):=by
 intro v12 v13 r h σ hσ;unfold Lu at h;have k0:= @hk_slices_DeleteFunc_Option_1;exact gc
theorem B15{a1:X0→Q V}{F_a1 caps_a1}(hF_a1:AW Z F_a1=T)(h_a1:∀z0 zr,a1 z0=N zr→FC Z F_a1 ([.ag (X0.row z0)]++caps_a1.map .sc) [.sc (.v (.bool zr))]){n:W}:WK F_a1 caps_a1 (H6 a1 n):=by
 induction n with
 | zero=>intro _ _ _ r h; cases h
 | succ n ih=>
  intro v3 v4 v5 r h σ hσ S hS;refine ev hS ?_;rw[H6] at h;refine AB (As ?_);obtain⟨h6,h⟩|⟨h6,h⟩:=ic h
  ·obtain⟨x7,h7,h⟩:=ob h;have h7n:=Am h7;obtain⟨r9,h9,h⟩:=ob h;refine sg ?_;refine JU (h_a1 _ _ h9) hF_a1 X X (B1 X) X (uf X) ?_;obtain⟨h10,h⟩|⟨h10,h⟩:=ic h
   ·refine sg ?_;exact fW hF_a1 h_a1 ih h sq kr
   ·obtain⟨x11,h11,h⟩:=ob h;have h11n:=Am h11;refine sg ?_;refine AK (row:=X0.row) (y:=x7) X X h11n X X (by rfl) ?_;refine sg ?_;exact fW hF_a1 h_a1 ih h sq kr
  ·obtain⟨p14,h14,h⟩:=ob h;refine sg ?_;refine YO (zx:=(⟨(0:U),(0:U),(0:U),([]:P X1)⟩:X0)) X X h14 (by rfl) ?_;obtain⟨p15,h15,h⟩:=ob h;refine sg ?_;refine Ga X X h15 (by rfl) ?_;refine sg ?_;cases h;trivial
theorem qg:AE Z 81=N ((Bp Z 81 RW).strip,[4],42):=by kernel_rfl
theorem A7r{a0}{a1}{r}(F_a1:FuncId)(caps_a1:P D)(hF_a1:AW Z F_a1=T)(h_a1:∀z0 zr,a1 z0=N zr→FC Z F_a1 ([.ag (X0.row z0)]++caps_a1.map .sc) [.sc (.v (.bool zr))])(h:Om a0 a1=N r):FCt Z 81 [.r,.d (.sc (.clo F_a1 caps_a1))] 4 (Y X0.row a0) (Y X0.row r):=by
 unfold Om at h;refine T7 (σ:=⟨[(0,vc (.own 90000)),(1,vc (.dat (.clo F_a1 caps_a1)))],[],[(90000,4,Y X0.row a0)]⟩) A2 qg X X ?_;refine Bt RW ?_;intro S hS;refine ev hS ?_;obtain⟨r1,h1,h⟩:=ob h;refine sg ?_;refine AT (A7t F_a1 caps_a1 hF_a1 h_a1 h1) X (B1 X) X (uf X) ?_;obtain⟨h2,h⟩|⟨h2,h⟩:=ic h
 ·refine sg ?_;cases h;trivial
 ·refine sg ?_;exact B15 hF_a1 h_a1 h sq kr
def ZE:Hw:=([(6,[0,1,7,8],[],[])],[])
def jb:=fun F_a1 caps_a1 a0 (k_:U→Q U)=>∀{v1} {zr},k_ v1=N zr→Kh Z 170 ZE 6 [0,1,7,8] [] [] ⟨[pL 0 X1.row a0,(1,vc (.dat (.clo F_a1 caps_a1))),pI 7 (a0.length:U),pI 8 v1],[],[]⟩ (A5 [4] [.sc (.v (.int .i64 zr))])
theorem B16{a1:X1→Q V}{F_a1 caps_a1}(hF_a1:AW Z F_a1=T)(h_a1:∀z0 zr,a1 z0=N zr→FC Z F_a1 ([.ag (X1.row z0)]++caps_a1.map .sc) [.sc (.v (.bool zr))]){a0}{n:W}:jb F_a1 caps_a1 a0 (Jk a1 a0 n):=by
 induction n with
 | zero=>intro _ r h; cases h
 | succ n ih=>
  intro v1 r h σ hσ S hS;refine ev hS ?_;rw[Jk] at h;refine AB (As ?_);obtain⟨h2,h⟩|⟨h2,h⟩:=ic h
  ·obtain⟨x3,h3,h⟩:=ob h;obtain⟨r4,h4,h⟩:=ob h;refine sg ?_;refine JU (h_a1 _ _ h4) hF_a1 X X (B1 X) X (uf X) ?_;obtain⟨h5,h⟩|⟨h5,h⟩:=ic h
   ·refine sg ?_;cases h;exact t0
   ·refine sg ?_;exact ih h sq kr
  ·refine sg ?_;cases h;exact t0
theorem A7u{a0}{a1}{r}(F_a1:FuncId)(caps_a1:P D)(hF_a1:AW Z F_a1=T)(h_a1:∀z0 zr,a1 z0=N zr→FC Z F_a1 ([.ag (X1.row z0)]++caps_a1.map .sc) [.sc (.v (.bool zr))])(h:Rp a0 a1=N r):FC Z 170 [.sc (.sl (Y X1.row a0)),.sc (.clo F_a1 caps_a1)] [.sc (.v (.int .i64 r))]:=by
 unfold Rp at h;refine A3 A2 ZE [4] 19 ?_;have k0:= @B16;exact gc
theorem A7q{a0}{a1}{r}(F_a1:FuncId)(caps_a1:P D)(hF_a1:AW Z F_a1=T)(h_a1:∀z0 zr,a1 z0=N zr→FC Z F_a1 ([.ag (X1.row z0)]++caps_a1.map .sc) [.sc (.v (.bool zr))])(h:Rm a0 a1=N r):FC Z 131 [.sc (.sl (Y X1.row a0)),.sc (.clo F_a1 caps_a1)] [.sc (.v (.bool r))]:=by
 unfold Rm at h;refine A3 A2 h0 [4] 9 ?_;intro S hS;refine ev hS ?_;obtain⟨r1,hr1,h⟩:=ob h;refine sg ?_;refine AF (A7u F_a1 caps_a1 hF_a1 h_a1 hr1) ?_;refine sg ?_;cases h;exact t0
def ZF:Hw:=([(6,[0,1,7,8],[],[])],[])
def jZ:=fun F_a1 caps_a1 a0 (k_:U→Q U)=>∀{v1} {zr},k_ v1=N zr→Kh Z 201 ZF 6 [0,1,7,8] [] [] ⟨[pL 0 X7.row a0,(1,vc (.dat (.clo F_a1 caps_a1))),pI 7 (a0.length:U),pI 8 v1],[],[]⟩ (A5 [4] [.sc (.v (.int .i64 zr))])
theorem B17{a1:X7→Q V}{F_a1 caps_a1}(hF_a1:AW Z F_a1=T)(h_a1:∀z0 zr,a1 z0=N zr→FC Z F_a1 ([.ag (X7.row z0)]++caps_a1.map .sc) [.sc (.v (.bool zr))]){a0}{n:W}:jZ F_a1 caps_a1 a0 (Ji a1 a0 n):=by
 induction n with
 | zero=>intro _ r h; cases h
 | succ n ih=>
  intro v1 r h σ hσ S hS;refine ev hS ?_;rw[Ji] at h;refine AB (As ?_);obtain⟨h2,h⟩|⟨h2,h⟩:=ic h
  ·obtain⟨x3,h3,h⟩:=ob h;obtain⟨r4,h4,h⟩:=ob h;refine sg ?_;refine JU (h_a1 _ _ h4) hF_a1 X X (B1 X) X (uf X) ?_;obtain⟨h5,h⟩|⟨h5,h⟩:=ic h
   ·refine sg ?_;cases h;exact t0
   ·refine sg ?_;exact ih h sq kr
  ·refine sg ?_;cases h;exact t0
theorem A7s{a0}{a1}{r}(F_a1:FuncId)(caps_a1:P D)(hF_a1:AW Z F_a1=T)(h_a1:∀z0 zr,a1 z0=N zr→FC Z F_a1 ([.ag (X7.row z0)]++caps_a1.map .sc) [.sc (.v (.bool zr))])(h:Rn a0 a1=N r):FC Z 201 [.sc (.sl (Y X7.row a0)),.sc (.clo F_a1 caps_a1)] [.sc (.v (.int .i64 r))]:=by
 unfold Rn at h;refine A3 A2 ZF [4] 19 ?_;have k0:= @B17;exact gc
theorem A7p{a0}{a1}{r}(F_a1:FuncId)(caps_a1:P D)(hF_a1:AW Z F_a1=T)(h_a1:∀z0 zr,a1 z0=N zr→FC Z F_a1 ([.ag (X7.row z0)]++caps_a1.map .sc) [.sc (.v (.bool zr))])(h:Rl a0 a1=N r):FC Z 171 [.sc (.sl (Y X7.row a0)),.sc (.clo F_a1 caps_a1)] [.sc (.v (.bool r))]:=by
 unfold Rl at h;refine A3 A2 h0 [4] 9 ?_;intro S hS;refine ev hS ?_;obtain⟨r1,hr1,h⟩:=ob h;refine sg ?_;refine AF (A7s F_a1 caps_a1 hF_a1 h_a1 hr1) ?_;refine sg ?_;cases h;exact t0
theorem B18{a0}{c0}{r}(h:KT a0 c0=N r):FC Z 172 [.ag (X7.row a0),.sc (.pd (X1.row c0))] [.sc (.v (.bool r))]:=by
 unfold KT at h;refine A3 A2 h0 [3] 22 ?_;exact gc
instance B64:Ct 133 (∀{a0} {a1} {r},N5 a0 a1=N r→FC Z 133 [.ag (X1.row a0),.sc (.sl (Y X7.row a1))] [.sc (.v (.bool r))]):=by
 refine⟨fun{a0} {a1} {r} h=> ?_⟩;unfold N5 at h;refine A3 A2 h0 [4] 8 ?_;intro S hS;refine ev hS ?_;obtain⟨r1,hr1,h⟩:=ob h;refine sg ?_;refine AT (A7p 172 [.pd (X1.row a0)] (by kernel_rfl) (fun z0 zr zh=>B18 zh) hr1) X (B1 X) X (uf X) ?_;refine sg ?_;cases h;exact t0
theorem B19{a0}{c0}{r}(h:Nl a0 c0=N r):FC Z 132 [.ag (X1.row a0),.sc (.pd ((rL X7.row) c0))] [.sc (.v (.bool r))]:=by
 unfold Nl at h;refine A3 A2 h0 [3] 7 ?_;exact gc
instance B7p:Ct 84 (∀{a0} {a1} {r},GT a0 a1=N r→FC Z 84 [.ag (X0.row a0),.sc (.sl (Y X7.row a1))] [.sc (.v (.bool r))]):=by
 refine⟨fun{a0} {a1} {r} h=> ?_⟩;unfold GT at h;refine A3 A2 h0 [4] 9 ?_;intro S hS;refine ev hS ?_;obtain⟨r1,hr1,h⟩:=ob h;refine sg ?_;refine AT (A7q 132 [.pd ((rL X7.row) a1)] (by kernel_rfl) (fun z0 zr zh=>B19 zh) hr1) X (B1 X) X (uf X) ?_;refine sg ?_;cases h;exact t0
theorem fX{a0}{c0}{r}(h:KV a0 c0=N r):FC Z 83 [.ag (X0.row a0),.sc (.pd ((rL X7.row) c0))] [.sc (.v (.bool r))]:=by
 unfold KV at h;refine A3 A2 h0 [3] 7 ?_;exact gc
def uy:Hw:=([],[(11,3,(O,.frzb 5))])
instance B7a:Ct 38 (∀{a0} {a1} {a2} {r},CX a0 a1 a2=N r→FC Z 38 [.ag (X6.row a0),.ag (zC a1),.sc (.sl (Y X7.row a2))] [.sc (.o 4 (Y X0.row r))]):=by
 refine⟨fun{a0} {a1} {a2} {r} h=> ?_⟩;unfold CX at h;refine A3 A2 uy [6] 23 ?_;intro S hS;refine ev hS ?_;obtain⟨r1,h1,h⟩:=ob h;refine sg ?_;refine AF (Ab W8 h1) ?_;obtain⟨h2,h⟩|⟨h2,h⟩:=ic h
 ·obtain⟨r3,h3,h⟩:=ob h;refine sg ?_;refine AF (Ab W9 h3) ?_;obtain⟨h4,h⟩|⟨h4,h⟩:=ic h
  ·obtain⟨r5,h5,h⟩:=ob h;refine sg ?_;refine AF (Ab A6i h5) ?_;refine sg ?_;refine uA X X ?_;obtain⟨r6,h6,h⟩:=ob h;try simp only[h2,h4,List.drop_zero,C,E,F,G,I,J]
   refine U4 (A7r 83 [.pd ((rL X7.row) a2)] (by kernel_rfl) (fun z0 zr zh=>fX zh) h6) 1280 X X X X X ?_;rw[QE];try simp only[h2,h4,List.drop_zero,C,E,F,G,I,J]
   cases h;exact t0
  ·refine sg ?_;cases h;exact t0
 ·refine sg ?_;cases h;exact t0
instance A61:Ct 134 (∀{a0} {a1} {r},NF a0 a1=N r→FC Z 134 [.ag (Xk.row a0),.ag (Xk.row a1)] [.sc (.v (.bool r))]):=by
 refine⟨fun h=> ?_⟩;unfold NF at h;refine A3 A2 h0 [4] 24 ?_;exact gc
instance B7b:Ct 225 (∀{a0} {a1} {r},KW a0 a1=N r→FC Z 225 [.ag (X1.row a0),.ag (X1.row a1)] [.sc (.v (.bool r))]):=by
 refine⟨fun h=> ?_⟩;unfold KW at h;refine A3 A2 h0 [4] 16 ?_;exact gc
instance B72:Ct 226 (∀{a0} {a1} {a2} {r},L9 a0 a1 a2=N r→FC Z 226 [.sc (.int .i64 a0),.sc (.int .i64 a1),.sc (.int .i64 a2)] [.sc (.v (.bool r))]):=by
 refine⟨fun h=> ?_⟩;unfold L9 at h;refine A3 A2 h0 [6] 19 ?_;exact gc
def Pi:Hw:=([(6,[4,5,6,7,9],[4,5,6,7],[]),(12,[4,5,6,7,24],[4,5,6,7],[]),(24,[5,6,7,41],[5,6,7],[]),(36,[6,7,72],[6,7],[])],[])
def iN:=fun(a2:X1) (a3:X1) (k_:V→Q U)=>∀{v22} {zr},k_ v22=N zr→Kh Z 202 Pi 36 [6,7,72] [6,7] [] ⟨[pB 6,pB 7,(72,vc (aB v22))],[(6,(dm a2.row)),(7,(dm a3.row))],[]⟩ (A5 [8] [.sc (.v (.int .i64 zr))])
def iM:=fun(a1:Xj) (a2:X1) (a3:X1) (k_:V→V→Q U)=>∀{v15 v16} {zr},k_ v15 v16=N zr→Kh Z 202 Pi 24 [5,6,7,41] [5,6,7] [] ⟨[pB 5,pB 6,pB 7,(41,vc (aB v15))],[(5,[aI a1.Gap,aB v16]),(6,(dm a2.row)),(7,(dm a3.row))],[]⟩ (A5 [8] [.sc (.v (.int .i64 zr))])
def iL:=fun(a0:X3) (a1:Xj) (a2:X1) (a3:X1) (k_:V→Q U)=>∀{v7} {zr},k_ v7=N zr→Kh Z 202 Pi 12 [4,5,6,7,24] [4,5,6,7] [] ⟨[pB 4,pB 5,pB 6,pB 7,(24,vc (aB v7))],[(4,[aM X8.row a0.Points,aM X2.row a0.Segments]),(5,(dm a1.row)),(6,(dm a2.row)),(7,(dm a3.row))],[]⟩ (A5 [8] [.sc (.v (.int .i64 zr))])
def iK:=fun(a0:X3) (a1:Xj) (a2:X1) (a3:X1) (k_:V→Q U)=>∀{v3} {zr},k_ v3=N zr→Kh Z 202 Pi 6 [4,5,6,7,9] [4,5,6,7] [] ⟨[pB 4,pB 5,pB 6,pB 7,(9,vc (aB v3))],[(4,[aM X8.row a0.Points,aM X2.row a0.Segments]),(5,(dm a1.row)),(6,(dm a2.row)),(7,(dm a3.row))],[]⟩ (A5 [8] [.sc (.v (.int .i64 zr))])
theorem B2b{a2 a3}:iN a2 a3 (Nv a2 a3):=by
 intro v22 r h σ hσ;unfold Nv at h;exact gc
theorem B2c{a1 a2 a3}:iM a1 a2 a3 (IG a1 a2 a3):=by
 intro v15 v16 r h σ hσ;unfold IG at h;have k0:= @B2b;exact gc
theorem B2d{a0 a1 a2 a3}:iL a0 a1 a2 a3 (Nu a0 a1 a2 a3):=by
 intro v7 r h σ hσ;unfold Nu at h;have k0:= @B2c;exact gc
theorem B2e{a0 a1 a2 a3}:iK a0 a1 a2 a3 (Nt a0 a1 a2 a3):=by
 intro v3 r h σ hσ;unfold Nt at h;have k0:= @B2d;exact gc
instance B7x:Ct 202 (∀{a0} {a1} {a2} {a3} {r},Ns a0 a1 a2 a3=N r→FC Z 202 [.ag (X3.row a0),.ag (Xj.row a1),.ag (X1.row a2),.ag (X1.row a3)] [.sc (.v (.int .i64 r))]):=by
 refine⟨fun h=> ?_⟩;unfold Ns at h;refine A3 A2 Pi [8] 116 ?_;have k0:= @B2e;exact gc
def Ur:Hw:=([(6,[3,4,5,13,14,15],[4,5],[]),(20,[3,4,5,10,13,14,15,19,20,21],[4,5,10],[])],[])
def iJ:=fun a3 a2 v1 (a0:X3) (a1:Xj) (x3:X1) (k_:U→Q V)=>∀{v4} {zr},k_ v4=N zr→Kh Z 173 Ur 20 [3,4,5,10,13,14,15,19,20,21] [4,5,10] [] ⟨[pL 3 X1.row a3,pB 4,pB 5,pB 10,pL 13 X1.row a2,pI 14 (a2.length:U),pI 15 v1,pL 19 X1.row a3,pI 20 (a3.length:U),pI 21 v4],[(4,[aM X8.row a0.Points,aM X2.row a0.Segments]),(5,(dm a1.row)),(10,(dm x3.row))],[]⟩ (A5 [8] [.sc (.v (.bool zr))])
def WE:=fun a3 a2 (a0:X3) (a1:Xj) (k_:U→Q V)=>∀{v1} {zr},k_ v1=N zr→Kh Z 173 Ur 6 [3,4,5,13,14,15] [4,5] [] ⟨[pL 3 X1.row a3,pB 4,pB 5,pL 13 X1.row a2,pI 14 (a2.length:U),pI 15 v1],[(4,[aM X8.row a0.Points,aM X2.row a0.Segments]),(5,(dm a1.row))],[]⟩ (A5 [8] [.sc (.v (.bool zr))])
theorem B2f{a3 a2 v1 a0 a1 x3}{Pw}(vG:WE a3 a2 a0 a1 Pw){n:W}:iJ a3 a2 v1 a0 a1 x3 (IF a3 a2 v1 a0 a1 x3 Pw n):=by
 induction n with
 | zero=>intro _ r h; cases h
 | succ n ih=>
  intro v4 r h σ hσ;rw[IF] at h;have k0:= @vG;exact gc
theorem B2g{a3 a2 a0 a1}{n:W}:WE a3 a2 a0 a1 (FE a3 a2 a0 a1 n):=by
 induction n with
 | zero=>intro _ r h; cases h
 | succ n ih=>
  intro v1 r h σ hσ;rw[FE] at h;have k0:= @B2f;exact gc
instance A6n:Ct 173 (∀{a0} {a1} {a2} {a3} {r},Nr a0 a1 a2 a3=N r→FC Z 173 [.ag (X3.row a0),.ag (Xj.row a1),.sc (.sl (Y X1.row a2)),.sc (.sl (Y X1.row a3))] [.sc (.v (.bool r))]):=by
 refine⟨fun h=> ?_⟩;unfold Nr at h;refine A3 A2 Ur [8] 33 ?_;have k0:= @B2g;exact gc
instance ei:Ct 175 (∀{a0} {r},L3 a0=N r→FC Z 175 [.sc (.sl (Y X0.row a0))] [.sc (.o 4 (Y X0.row r))]):=by
 refine⟨fun h=> ?_⟩;unfold L3 at h;refine A3 A2 h0 [2] 8 ?_;have s0:= @Et _ X0.row (⟨(0:U),(0:U),(0:U),([]:P X1)⟩:X0);exact gc
instance B7e:Ct 227 (∀{a0} {a1} {r},KX a0 a1=N r→FC Z 227 [.ag (X1.row a0),.ag (X3.row a1)] [.sc (.v (.int .i64 r.1)),.sc (.v (.int .i64 r.2))]):=by
 refine⟨fun h=> ?_⟩;unfold KX at h;refine A3 A2 h0 [4,5] 23 ?_;exact gc
instance B7z:Ct 203 (∀{a0} {a1} {a2} {r},L5 a0 a1 a2=N r→FC Z 203 [.ag (X3.row a0),.ag (X1.row a1),.ag (X1.row a2)] [.ag [.v (.int .i64 r.From),.v (.int .i64 r.To),.v (.int .i64 r.A),.v (.int .i64 r.B)]]):=by
 refine⟨fun h=> ?_⟩;unfold L5 at h;refine A3 A2 h0 [.c 6 T 4] 30 ?_;exact gc
instance B74:Ct 241 (∀{a0} {a1} {a2} {r},NB a0 a1 a2=N r→FC Z 241 [.ag (X3.row a0),.sc (.sl (Y X4.row a1)),.ag (X1.row a2)] [.sc (.v (.bool r))]):=by
 refine⟨fun h=> ?_⟩;unfold NB at h;refine A3 A2 h0 [6] 51 ?_;exact gc
instance B7d:Ct 228 (∀{a0} {a1} {a2} {r},Nf a0 a1 a2=N r→FC Z 228 [.ag (X3.row a0),.sc (.sl (Y X4.row a1)),.ag (X1.row a2)] [.sc (.v (.bool r))]):=by
 refine⟨fun h=> ?_⟩;unfold Nf at h;refine A3 A2 h0 [6] 19 ?_;exact gc
def Us:Hw:=([(8,[1,3,8,12,13,14],[3],[704]),(31,[1,3,8,10,12,13,14,28,29],[3,10],[704])],[])
def iZ:=fun a1 a2 v1 (x7:X4) (a0:X3) (x4:X1) (k_:U→(P Xb)→Q ((P Xb) × V))=>∀{v8 v9} {zr},k_ v8 v9=N zr→Kh Z 204 Us 31 [1,3,8,10,12,13,14,28,29] [3,10] [704] ⟨[pL 1 X4.row a1,pB 3,pW 8 704,pB 10,pL 12 X1.row a2,pI 13 (a2.length:U),pI 14 v1,pI 28 x7.Tugs,pI 29 v8],[(3,[aM X8.row a0.Points,aM X2.row a0.Segments]),(10,(dm x4.row))],[(704,4,Y zB v9)]⟩ (A5 [6,7] [.sc (.o 4 (Y zB zr.1)),.sc (.v (.bool zr.2))])
def WI:=fun a1 a2 (a0:X3) (k_:U→(P Xb)→Q ((P Xb) × V))=>∀{v1 v2} {zr},k_ v1 v2=N zr→Kh Z 204 Us 8 [1,3,8,12,13,14] [3] [704] ⟨[pL 1 X4.row a1,pB 3,pW 8 704,pL 12 X1.row a2,pI 13 (a2.length:U),pI 14 v1],[(3,[aM X8.row a0.Points,aM X2.row a0.Segments])],[(704,4,Y zB v2)]⟩ (A5 [6,7] [.sc (.o 4 (Y zB zr.1)),.sc (.v (.bool zr.2))])
theorem B2i{a1 a2 v1 x7 a0 x4}{Pz}(vJ:WI a1 a2 a0 Pz){n:W}:iZ a1 a2 v1 x7 a0 x4 (H1 a1 a2 v1 x7 a0 x4 Pz n):=by
 induction n with
 | zero=>intro _ _ r h; cases h
 | succ n ih=>
  intro v8 v9 r h σ hσ;rw[H1] at h;have s0:=fun(r11:Xb)=> @Aw (Y zB ([r11]:P Xb))
  have k0:= @vJ;exact gc
theorem B2j{a1 a2 a0}{n:W}:WI a1 a2 a0 (FH a1 a2 a0 n):=by
 induction n with
 | zero=>intro _ _ r h; cases h
 | succ n ih=>
  intro v1 v2 r h σ hσ;rw[FH] at h;have k0:= @B2i;exact gc
instance B75:Ct 204 (∀{a0} {a1} {a2} {r},ND a0 a1 a2=N r→FC Z 204 [.ag (X3.row a0),.sc (.sl (Y X4.row a1)),.sc (.sl (Y X1.row a2))] [.sc (.o 4 (Y zB r.1)),.sc (.v (.bool r.2))]):=by
 refine⟨fun h=> ?_⟩;unfold ND at h;refine A3 A2 Us [6,7] 44 ?_;have s0:= @Aw (Y zB ([]:P Xb));have k0:= @B2j;exact gc
def ZG:Hw:=([(14,[8,9,10],[],[])],[])
def gt:=fun a0 (k_:U→Q V)=>∀{v2} {zr},k_ v2=N zr→Kh Z 254 ZG 14 [8,9,10] [] [] ⟨[pL 8 zB a0,pI 9 (a0.length:U),pI 10 v2],[],[]⟩ (A5 [2] [.sc (.v (.bool zr))])
theorem B2k{a0}{n:W}:gt a0 (Ir a0 n):=by
 induction n with
 | zero=>intro _ r h; cases h
 | succ n ih=>
  intro v2 r h σ hσ;rw[Ir] at h;exact gc
instance B6x:Ct 254 (∀{a0} {r},Iq a0=N r→FC Z 254 [.sc (.sl (Y zB a0))] [.sc (.v (.bool r))]):=by
 refine⟨fun h=> ?_⟩;unfold Iq at h;refine A3 A2 ZG [2] 42 ?_;have k0:= @B2k;exact gc
instance A6o:Ct 242 (∀{a0} {a1} {a2} {r},QY a0 a1 a2=N r→FC Z 242 [.sc (.int .i64 a0),.sc (.sl (Y rI a1)),.sc (.sl (Y zB a2))] [.sc (.v (.bool r))]):=by
 refine⟨fun h=> ?_⟩;unfold QY at h;refine A3 A2 h0 [6] 17 ?_;exact gc
def ZH:Hw:=([(5,[0,1,6,7,29],[6,7],[])],[])
def gy:=fun a0 a1 (a2:Xb) (a3:Xb) (k_:V→Q (U × V))=>∀{v8} {zr},k_ v8=N zr→Kh Z 260 ZH 5 [0,1,6,7,29] [6,7] [] ⟨[pI 0 a0,pL 1 rI a1,pB 6,pB 7,(29,vc (aB v8))],[(6,(dm a2.row)),(7,(dm a3.row))],[]⟩ (A5 [8,9] [.sc (.v (.int .i64 zr.1)),.sc (.v (.bool zr.2))])
theorem B2l{a0 a1 a2 a3}:gy a0 a1 a2 a3 (Iu a0 a1 a2 a3):=by
 intro v8 r h σ hσ;unfold Iu at h;exact gc
instance B61:Ct 260 (∀{a0} {a1} {a2} {a3} {r},QR a0 a1 a2 a3=N r→FC Z 260 [.sc (.int .i64 a0),.sc (.sl (Y rI a1)),.ag (zB a2),.ag (zB a3)] [.sc (.v (.int .i64 r.1)),.sc (.v (.bool r.2))]):=by
 refine⟨fun h=> ?_⟩;unfold QR at h;refine A3 A2 ZH [8,9] 41 ?_;have k0:= @B2l;exact gc
instance eZ:Ct 255 (∀{a0} {a1} {a2} {a3} {r},KP a0 a1 a2 a3=N r→FC Z 255 [.sc (.int .i64 a0),.sc (.sl (Y rI a1)),.ag (zB a2),.ag (zB a3)] [.sc (.v (.bool r))]):=by
 refine⟨fun{a0} {a1} {a2} {a3} {r} h=> ?_⟩;unfold KP at h;refine A3 A2 h0 [8] 39 ?_;have s0:= @Aw (Y zB ([a2]:P Xb));have s1:= @Aw (Y zB ([a3]:P Xb));exact gc
def RY:Hw:=([(8,[0,1,2,7,15,16,17],[],[896]),(22,[0,1,2,7,8,9,15,16,17,22,23,24],[9],[896]),(35,[0,1,2,7,8,9,10,15,16,17,22,23,24,45],[9],[896])],[])
def iW:=fun a0 a1 a2 v2 v6 (x5:Xb) v7 (k_:V→Q (P U))=>∀{v14} {zr},k_ v14=N zr→Kh Z 243 RY 35 [0,1,2,7,8,9,10,15,16,17,22,23,24,45] [9] [896] ⟨[pI 0 a0,pL 1 rI a1,pL 2 zB a2,pW 7 896,pI 8 v2,pB 9,pI 10 v6,pL 15 zB a2,pI 16 (a2.length:U),pI 17 v2,pL 22 zB a2,pI 23 (a2.length:U),pI 24 v6,(45,vc (aB v14))],[(9,(dm x5.row))],[(896,1,Y rU v7)]⟩ (A5 [6] [.sc (.o 1 (Y rU zr))])
def WH:=fun a0 a1 a2 v2 (x5:Xb) (k_:U→(P U)→Q (P U))=>∀{v6 v7} {zr},k_ v6 v7=N zr→Kh Z 243 RY 22 [0,1,2,7,8,9,15,16,17,22,23,24] [9] [896] ⟨[pI 0 a0,pL 1 rI a1,pL 2 zB a2,pW 7 896,pI 8 v2,pB 9,pL 15 zB a2,pI 16 (a2.length:U),pI 17 v2,pL 22 zB a2,pI 23 (a2.length:U),pI 24 v6],[(9,(dm x5.row))],[(896,1,Y rU v7)]⟩ (A5 [6] [.sc (.o 1 (Y rU zr))])
def WG:=fun a0 a1 a2 (k_:U→(P U)→Q (P U))=>∀{v2 v3} {zr},k_ v2 v3=N zr→Kh Z 243 RY 8 [0,1,2,7,15,16,17] [] [896] ⟨[pI 0 a0,pL 1 rI a1,pL 2 zB a2,pW 7 896,pL 15 zB a2,pI 16 (a2.length:U),pI 17 v2],[],[(896,1,Y rU v3)]⟩ (A5 [6] [.sc (.o 1 (Y rU zr))])
theorem Wi{a0 a1 a2 v2 v6 x5 v7}{Py}(aU:WH a0 a1 a2 v2 x5 Py):iW a0 a1 a2 v2 v6 x5 v7 (IL a0 a1 a2 v2 v6 x5 v7 Py):=by
 intro v14 r h σ hσ S hS;refine ev hS ?_;refine As ?_;unfold IL at h;obtain⟨h15,h⟩|⟨h15,h⟩:=ic h
 ·obtain⟨x16,h16,h⟩:=ob h;have h16n:=Am h16;obtain⟨h17,h⟩:=K7 h;refine sg ?_;refine AK (row:=rU) (y:=(Bk .or .u64 x16 (Bs .u64 (1:U) v6))) X X h16n X X (by rfl) ?_;refine sg ?_;exact aU h sq kr
 ·refine sg ?_;exact aU h sq kr
theorem B2m{a0 a1 a2 v2 x5}{K0}(vI:WG a0 a1 a2 K0){n:W}:WH a0 a1 a2 v2 x5 (Ee a0 a1 a2 v2 x5 K0 n):=by
 induction n with
 | zero=>intro _ _ r h; cases h
 | succ n ih=>
  intro v6 v7 r h σ hσ S hS;refine ev hS ?_;rw[Ee] at h;refine AB (As ?_);obtain⟨h8,h⟩|⟨h8,h⟩:=ic h
  ·obtain⟨x9,h9,h⟩:=ob h;refine sg ?_;obtain⟨h10,h⟩|⟨h10,h⟩:=ic h
   ·obtain⟨r11,h11,h⟩:=ob h;refine sg ?_;refine AF (Ab eZ h11) ?_;obtain⟨h12,h⟩|⟨h12,h⟩:=ic h
    ·refine sg ?_;exact Wi ih h sq kr
    ·obtain⟨r13,h13,h⟩:=ob h;refine sg ?_;refine AF (Ab eZ h13) ?_;refine sg ?_;exact Wi ih h sq kr
   ·refine sg ?_;exact Wi ih h sq kr
  ·refine sg ?_;exact vI h sq kr
theorem B2n{a0 a1 a2}{n:W}:WG a0 a1 a2 (FG a0 a1 a2 n):=by
 induction n with
 | zero=>intro _ _ r h; cases h
 | succ n ih=>
  intro v2 v3 r h σ hσ;rw[FG] at h;have k0:= @B2m;exact gc
instance A6x:Ct 243 (∀{a0} {a1} {a2} {r},NA a0 a1 a2=N r→FC Z 243 [.sc (.int .i64 a0),.sc (.sl (Y rI a1)),.sc (.sl (Y zB a2))] [.sc (.o 1 (Y rU r))]):=by
 refine⟨fun h=> ?_⟩;unfold NA at h;refine A3 A2 RY [6] 57 ?_;have s0:= @Et _ rU (0:U);have k0:= @B2n;exact gc
def RZ:Hw:=([(10,[0,2],[],[]),(18,[0,2],[],[]),(26,[0,2],[],[])],[])
def jX:=fun(k_:U→U→Q U)=>∀{v8 v9} {zr},k_ v8 v9=N zr→Kh Z 262 RZ 26 [0,2] [] [] ⟨[(0,vc (.dat (.int .u64 v8))),pI 2 v9],[],[]⟩ (A5 [2] [.sc (.v (.int .i64 zr))])
def jW:=fun(k_:U→U→Q U)=>∀{v5 v6} {zr},k_ v5 v6=N zr→Kh Z 262 RZ 18 [0,2] [] [] ⟨[(0,vc (.dat (.int .u64 v5))),pI 2 v6],[],[]⟩ (A5 [2] [.sc (.v (.int .i64 zr))])
def jV:=fun(k_:U→U→Q U)=>∀{v2 v3} {zr},k_ v2 v3=N zr→Kh Z 262 RZ 10 [0,2] [] [] ⟨[(0,vc (.dat (.int .u64 v2))),pI 2 v3],[],[]⟩ (A5 [2] [.sc (.v (.int .i64 zr))])
theorem B2p:jX Lt:=by
 intro v8 v9 r h σ hσ;unfold Lt at h;exact gc
theorem B2q:jW Ol:=by
 intro v5 v6 r h σ hσ;unfold Ol at h;have k0:= @B2p;exact gc
theorem B2r:jV Oj:=by
 intro v2 v3 r h σ hσ;unfold Oj at h;have k0:= @B2q;exact gc
instance B9p:Ct 262 (∀{a0} {r},Rk a0=N r→FC Z 262 [.sc (.int .u64 a0)] [.sc (.v (.int .i64 r))]):=by
 refine⟨fun h=> ?_⟩;unfold Rk at h;refine A3 A2 RZ [2] 25 ?_;have k0:= @B2r;exact gc
instance A7o:Ct 256 (∀{a0} {r},Ls a0=N r→FC Z 256 [.sc (.int .u64 a0)] [.sc (.v (.int .i64 r))]):=by
 refine⟨fun h=> ?_⟩;unfold Ls at h;refine A3 A2 h0 [2] 8 ?_;exact gc
end Go.Vi
