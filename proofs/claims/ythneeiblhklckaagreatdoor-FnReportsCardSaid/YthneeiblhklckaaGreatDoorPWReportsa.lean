/-
Walks. No condition.
-/
import Derived.Test.YthneeiblhklckaaGreatDoorPNf
import Derived.Test.YthneeiblhklckaaGreatDoorChecked
import Derived.Test.YthneeiblhklckaaGreatDoorPSh
import Derived.Test.YthneeiblhklckaaGreatDoorPVi42
import Derived.KernelRfl
namespace Go.Vi
open Go.Proofs
set_option linter.all false
set_option maxRecDepth 4000
set_option maxHeartbeats 2000000
open Nat renaming reduceBEq → A, reduceMul → B, reduceAdd → C, reduceDiv → E, le_of_ble_eq_true → uf
open Int renaming reduceBEq → F
attribute [local irreducible] go AX J1
open List renaming map → X, map_nil → Z, all_cons → zD, all_nil → zE, cons_append → zF, nil_append → zG
open Tryz renaming prog → Y
open Int renaming toNat → I
open Xh renaming row → zA
open Xa renaming row → zB
open Xe renaming row → zC
open IntKind renaming wrap → zH
open Bool renaming true → T, false → G
open Option renaming some → H, none → L
open _root_ renaming List → N, Option → O, Int → P, Bool → Q, Nat → U, UInt8 → V, rfl → W
theorem mixed:Tryz.prog.follows .mixedOrders=T:=by kernel_rfl
def Nb:Hw:=([(8,[0,3,4],[],[]),(19,[0,3],[],[])],[])
def Yg:=fun a0 v1 (k_:O X4)=>∀{zr},k_=H zr→Kh Y 14 Nb 19 [0,3] [] [] ⟨[pL 0 r8 a0,pI 3 v1],[],[]⟩ (Mf [2] [.sl (X r8 zr.b),.int .i64 zr.i,.int .i64 zr.h])
def Yf:=fun a0 (k_:P→P→O X4)=>∀{v1 v2} {zr},k_ v1 v2=H zr→Kh Y 14 Nb 8 [0,3,4] [] [] ⟨[pL 0 r8 a0,pI 3 v1,pI 4 v2],[],[]⟩ (Mf [2] [.sl (X r8 zr.b),.int .i64 zr.i,.int .i64 zr.h])
theorem sj{a0 v1}:Yg a0 v1 (ID a0 v1):=by
 intro r h σ hσ S hS;refine ev hS ?_;refine Aw ?_;unfold ID at h;try simp only[hσ,A,B,C,E,F,J]
 refine BL ?_;try simp only[A,B,C,E,F,J]
 cases h;exact⟨_,31,W,W,W,W⟩
theorem uI{a0}{n:U}:Yf a0 (Hc a0 n):=by
 induction n with
 | zero=>intro _ _ r h; cases h
 | succ n ih=>
  intro v1 v2 r h σ hσ;rw[Hc] at h;have k0:= @sj;exact gc
theorem dQ:AD Y 14=H ((Bp Y 14 Nb).strip,[2],32):=by kernel_rfl
theorem rz{a0}{r}(h:KR a0=H r):FCn Y 14 [.sc (.sl (X r8 a0))] [.sl (X r8 r.b),.int .i64 r.i,.int .i64 r.h]:=by
 unfold KR at h;refine Wi (σ:=⟨[(0,vc (aL (X r8 a0)))],[],[]⟩) mixed dQ W W ?_;refine Bv Nb ?_;have k0:= @uI;exact gc
theorem dS:AD Y 126=H ((Bp Y 126 h0).strip,[2],58):=by kernel_rfl
theorem LZ{a0}{r}(h:ET a0=H r):FCy Y 126 [.p] [.sl (X r8 a0.b),.int .i64 a0.i,.int .i64 a0.h] [.sl (X r8 r.2.b),.int .i64 r.2.i,.int .i64 r.2.h] [.sc (.v (.int .i64 r.1))]:=by
 unfold ET at h;refine CF (σ:=⟨[(0,vc (.pb 99999999999 0))],[(99999999999,[aL (X r8 a0.b),aI a0.i,aI a0.h])],[]⟩) mixed dS W W ?_;refine Bv h0 ?_;exact gc
theorem dX:AD Y 84=H ((Bp Y 84 h0).strip,[4],37):=by kernel_rfl
theorem AW{a0}{a1}{r}(h:An a0 a1=H r):FCy Y 84 [.p,.d (.sc (.int .i64 a1))] [.sl (X r8 a0.b),.int .i64 a0.i,.int .i64 a0.h] [.sl (X r8 r.2.b),.int .i64 r.2.i,.int .i64 r.2.h] [.sc (.v (.int .i64 r.1))]:=by
 unfold An at h;refine CF (σ:=⟨[(0,vc (.pb 99999999999 0)),(1,vc (aI a1))],[(99999999999,[aL (X r8 a0.b),aI a0.i,aI a0.h])],[]⟩) mixed dX W W ?_;refine Bv h0 ?_;intro S hS;refine ev hS ?_;obtain⟨h1,h⟩|⟨h1,h⟩:=ic h
 ·try simp only[h1,A,B,C,E,F,J]
  cases h;exact t0
 ·obtain⟨h2,h⟩|⟨h2,h⟩:=ic h
  ·obtain⟨r3,h3,h⟩:=ob h;try simp only[h1,h2,A,B,C,E,F,J]
   refine Aq (LZ h3) 99999999999 ?_;obtain⟨h4,h⟩:=F3 h;try simp only[h1,h2,h4,A,B,C,E,F,J]
   cases h;exact t0
  ·obtain⟨r5,h5,h⟩:=ob h;try simp only[h1,h2,A,B,C,E,F,J]
   refine Aq (LZ h5) 99999999999 ?_;obtain⟨r6,h6,h⟩:=ob h;try simp only[h1,h2,A,B,C,E,F,J]
   refine Aq (LZ h6) 99999999999 ?_;obtain⟨r7,h7,h⟩:=ob h;try simp only[h1,h2,A,B,C,E,F,J]
   refine Aq (LZ h7) 99999999999 ?_;obtain⟨r9,h9,h⟩:=ob h;try simp only[h1,h2,A,B,C,E,F,J]
   refine Aq (LZ h9) 99999999999 ?_;obtain⟨h10,h⟩:=F3 h;try simp only[h1,h2,h10,A,B,C,E,F,J]
   cases h;exact t0
theorem db:AD Y 162=H ((Bp Y 162 h0).strip,[4],12):=by kernel_rfl
theorem sA{a0}{a1}{r}(h:KT a0 a1=H r):FCy Y 162 [.p,.d (.sc (.sl (X rI a1)))] [.sl (X r8 a0.b),.int .i64 a0.i,.int .i64 a0.h] [.sl (X r8 r.2.b),.int .i64 r.2.i,.int .i64 r.2.h] [.sc (.v (.int .i64 r.1))]:=by
 unfold KT at h;refine CF (σ:=⟨[(0,vc (.pb 99999999999 0)),(1,vc (aL (X rI a1)))],[(99999999999,[aL (X r8 a0.b),aI a0.i,aI a0.h])],[]⟩) mixed db W W ?_;refine Bv h0 ?_;intro S hS;refine ev hS ?_;obtain⟨r1,h1,h⟩:=ob h;try simp only[A,B,C,E,F,J]
 refine Aq (AW h1) 99999999999 ?_;obtain⟨x2,h2,h⟩:=ob h;try simp only[h2,A,B,C,E,F,J]
 cases h;exact t0
def T0:Hw:=([],[(3,4,(L,.frz 448))])
theorem de:AD Y 146=H ((Bp Y 146 T0).strip,[.c 2 T 3],16):=by kernel_rfl
theorem sC{a0}{r}(h:DB a0=H r):FCy Y 146 [.p] [.sl (X r8 a0.b),.int .i64 a0.i,.int .i64 a0.h] [.sl (X r8 r.2.b),.int .i64 r.2.i,.int .i64 r.2.h] [.ag [.v (.int .i64 r.1.Amp),.v (.int .i64 r.1.Period),.v (.int .i64 r.1.Phase)]]:=by
 unfold DB at h;refine CF (σ:=⟨[(0,vc (.pb 99999999999 0))],[(99999999999,[aL (X r8 a0.b),aI a0.i,aI a0.h])],[]⟩) mixed de W W ?_;refine Bv T0 ?_;intro S hS;refine ev hS ?_;try simp only[A,B,C,E,F,J]
 refine AK ?_;obtain⟨r1,h1,h⟩:=ob h;try simp only[A,B,C,E,F,J]
 refine Aq (AW h1) 99999999999 ?_;try simp only[A,B,C,E,F,J]
 refine B3 (es:=X rI ([(744:P),(720:P),(1440:P),(372:P),(240:P)]:N P)) ?_;try simp only[A,B,C,E,F,J]
 refine C3 ?_;obtain⟨r2,h2,h⟩:=ob h;try simp only[A,B,C,E,F,J]
 refine Aq (sA h2) 99999999999 ?_;try simp only[A,B,C,E,F,J]
 refine AK ?_;obtain⟨r3,h3,h⟩:=ob h;try simp only[A,B,C,E,F,J]
 refine Aq (AW h3) 99999999999 ?_;try simp only[A,B,C,E,F,J]
 cases h;try simp only[Cj,A,B,C,E,F,J]
 trivial
def M4:N (N U × AItem):= [([],(L,.faddr 15 (S 3) 1)),([0],(L,.load 16 (S 15) G 1)),([],(L,.mv 17 (S 0))),([2],(L,.call 18 146 [(S 17)])),([3],(L,.bslice 19 3 [.int .i64 0,.int .i64 0,.int .i64 0] 1 [(0,(S 18))])),([1,4,3],(L,.app 20 3 24 (S 16) (S 19))),([0,1,2,3,4,5],(L,.faddr 21 (S 3) 1)),([6,5,5,0,1,2,3,4,5],(L,.store (S 21) (S 20) 1))]
def Ps:Hw:=([(8,[0,2,3,4],[99999999999,2,3],[131136])],[(3,5,(L,.ownb 3 1 131136 3)),(20,0,(L,.frz 131136))])
abbrev Cz(v3:P)(r9:Xh × X4)(wo1_:AV)(c0_ c1_:Q)(c2_ c3_:Q)(c4_ c5_ c6_:Q)(bx_:N (U × N AC))(rs_:Rows):St:=⟨[(0,vc (.pb 99999999999 0)),(2,vc (.pb 2 0)),(3,vc (.pb 3 0)),(4,vc (aI v3)),(15,bif c0_ then vc (.pb 3 1) else .undef),(16,bif c1_ then wo1_ else .undef),(17,bif c2_ then vc (.pb 99999999999 0) else .undef),(18,bif c3_ then va (dm r9.1.row) else .undef),(19,bif c4_ then vc (.own 1216) else .undef),(20,bif c5_ then vc (.own 131136) else .undef),(21,bif c6_ then vc (.pb 3 1) else .undef)],bx_,rs_⟩
abbrev HM(r1:P × X4)(v3:P)(v7:N Xh)(r9:Xh × X4):St:=(Cz v3 r9 (vc (.undef)) T T T T T T T [(99999999999,(dm r9.2.row)),(2,[aI (0:P),.nil]),(3,[aI r1.1,.own 131136])] [(131136,3,X zA (v7++([r9.1]:N Xh))),(1216,3,X zA ([r9.1]:N Xh))])
theorem sq(r1:P × X4)(v3:P)(v4)(v5)(v6)(v7:N Xh)(r9)(h9:DB (⟨v4,v5,v6⟩:X4)=H r9)(h10:(A7 v7.length ([r9.1]:N Xh).length 24)=T):∀(f:U),Af Y M4 (HM r1 v3 v7 r9) f [T,T,T,T,T,T,T,T] (Cz v3 r9 (vc (.undef)) T T T T T T T [(99999999999,(dm r9.2.row)),(2,[aI (0:P),.nil]),(3,[aI r1.1,.own 131136])] [(131136,3,X zA (v7++([r9.1]:N Xh))),(1216,3,X zA ([r9.1]:N Xh))]):=by
 intro f
 induction f with
 | zero=>intro h; rfl
 | succ f ih=>
  refine Aj ⟨?_,?_,?_,?_,?_,?_,?_,?_,⟨⟩⟩<;>try first | (intro h; cases h; done)
theorem sx(r1:P × X4)(v3:P)(v4)(v5)(v6)(v7:N Xh)(r9)(h9:DB (⟨v4,v5,v6⟩:X4)=H r9)(h10:(A7 v7.length ([r9.1]:N Xh).length 24)=T):∀(f:U) (b0 b6:Q),Af Y M4 (HM r1 v3 v7 r9) f [b0,T,T,T,T,T,b6,G] (Cz v3 r9 (vc (.undef)) b0 T T T T T b6 [(99999999999,(dm r9.2.row)),(2,[aI (0:P),.nil]),(3,[aI r1.1,.undef])] [(131136,3,X zA (v7++([r9.1]:N Xh))),(1216,3,X zA ([r9.1]:N Xh))]):=by
 intro f
 induction f with
 | zero=>intro b0 b6 h; simp at h
 | succ f ih=>
  intro b0 b6;refine Aj ⟨?_,?_,?_,?_,?_,?_,?_,?_,⟨⟩⟩<;>try first | (intro h; cases h; done) | (intro h0 hw; obtain rfl:=hz h0 rfl; (try obtain rfl:=hq hw 0 rfl rfl); refine np ?_; simp only[Cz,A3,A6,A2,A,B,C,E,F,J]; exact ih _ _)
  ·intro h0 hw;obtain rfl:=hq hw 0 rfl rfl;obtain rfl:=hq hw 6 rfl rfl;refine np ?_;try simp only[Cz,A3,A6,A2,A,B,C,E,F,J]
   exact sq r1 v3 v4 v5 v6 v7 r9 h9 h10 _
theorem tE(r1:P × X4)(v3:P)(v4)(v5)(v6)(v7:N Xh)(r9)(h9:DB (⟨v4,v5,v6⟩:X4)=H r9)(h10:(A7 v7.length ([r9.1]:N Xh).length 24)=T):∀(f:U) (b0 b1:Q),Af Y M4 (HM r1 v3 v7 r9) f [b0,b1,T,T,T,G,G,G] (Cz v3 r9 (vc (.own 131136)) b0 b1 T T T G G [(99999999999,(dm r9.2.row)),(2,[aI (0:P),.nil]),(3,[aI r1.1,.own 131136])] [(131136,3,X zA v7),(1216,3,X zA ([r9.1]:N Xh))]):=by
 intro f
 induction f with
 | zero=>intro b0 b1 h; simp at h
 | succ f ih=>
  intro b0 b1;refine Aj ⟨?_,?_,?_,?_,?_,?_,?_,?_,⟨⟩⟩<;>try first | (intro h; cases h; done) | (intro _ hw; simp at hw; done) | (intro h0 hw; obtain rfl:=hz h0 rfl; (try obtain rfl:=hq hw 0 rfl rfl); refine np ?_; simp only[Cz,A3,A6,A2,A,B,C,E,F,J]; exact ih _ _)
  ·intro h0 hw;obtain rfl:=hq hw 1 rfl rfl;refine np ?_;try simp only[h10,Cz,A3,A6,A2,A,B,C,E,F,J]
   exact sx r1 v3 v4 v5 v6 v7 r9 h9 h10 _ b0 G
theorem tJ(r1:P × X4)(v3:P)(v4)(v5)(v6)(v7:N Xh)(r9)(h9:DB (⟨v4,v5,v6⟩:X4)=H r9)(h10:(A7 v7.length ([r9.1]:N Xh).length 24)=T):∀(f:U) (b0 b1:Q),Af Y M4 (HM r1 v3 v7 r9) f [b0,b1,T,T,G,G,G,G] (Cz v3 r9 (vc (.own 131136)) b0 b1 T T G G G [(99999999999,(dm r9.2.row)),(2,[aI (0:P),.nil]),(3,[aI r1.1,.own 131136])] [(131136,3,X zA v7)]):=by
 intro f
 induction f with
 | zero=>intro b0 b1 h; simp at h
 | succ f ih=>
  intro b0 b1;refine Aj ⟨?_,?_,?_,?_,?_,?_,?_,?_,⟨⟩⟩<;>try first | (intro h; cases h; done) | (intro _ hw; simp at hw; done) | (intro h0 hw; obtain rfl:=hz h0 rfl; (try obtain rfl:=hq hw 0 rfl rfl); refine np ?_; simp only[Cz,A3,A6,A2,A,B,C,E,F,J]; exact ih _ _)
  ·intro h0 hw;refine np ?_;try simp only[Cz,A3,A6,A2,A,B,C,E,F,J]
   refine Ce (es:=X zA ([r9.1]:N Xh)) W (by simp only[St.fresh,zD,zE,Bf]; simp[AV.cells,V1.cells,AC.uses]) ?_;try simp only[A2,A,B,C,E,F,J]
   exact tE r1 v3 v4 v5 v6 v7 r9 h9 h10 _ b0 b1
theorem tQ(r1:P × X4)(v3:P)(v4)(v5)(v6)(v7:N Xh)(r9)(h9:DB (⟨v4,v5,v6⟩:X4)=H r9)(h10:(A7 v7.length ([r9.1]:N Xh).length 24)=T):∀(f:U) (b0 b1 b2:Q),Af Y M4 (HM r1 v3 v7 r9) f [b0,b1,b2,G,G,G,G,G] (Cz v3 r9 (vc (.own 131136)) b0 b1 b2 G G G G [(99999999999,[aL (X r8 v4),aI v5,aI v6]),(2,[aI (0:P),.nil]),(3,[aI r1.1,.own 131136])] [(131136,3,X zA v7)]):=by
 intro f
 induction f with
 | zero=>intro b0 b1 b2 h; simp at h
 | succ f ih=>
  intro b0 b1 b2;refine Aj ⟨?_,?_,?_,?_,?_,?_,?_,?_,⟨⟩⟩<;>try first | (intro _ hw; simp at hw; done) | (intro h0 hw; obtain rfl:=hz h0 rfl; (try obtain rfl:=hq hw 0 rfl rfl); refine np ?_; simp only[Cz,A3,A6,A2,A,B,C,E,F,J]; exact ih _ _ _)
  ·intro h0 hw;obtain rfl:=hq hw 2 rfl rfl;refine np ?_;try simp only[Cz,A3,A6,A2,A,B,C,E,F,J]
   refine Aq (sC h9) 99999999999 ?_;try simp only[A2,A,B,C,E,F,J]
   exact tJ r1 v3 v4 v5 v6 v7 r9 h9 h10 _ b0 b1
def Yh:=fun(r1:P × X4) (k_:P→(N P)→P→P→(N Xh)→O (Xn × X4))=>∀{v3 v4 v5 v6 v7} {zr},k_ v3 v4 v5 v6 v7=H zr→Kh Y 123 Ps 8 [0,2,3,4] [99999999999,2,3] [131136] ⟨[(0,vc (.pb 99999999999 0)),pB 2,pB 3,pI 4 v3],[(99999999999,[aM r8 v4,aI v5,aI v6]),(2,[aI (0:P),.nil]),(3,[aI r1.1,.own 131136])],[(131136,3,X zA v7)]⟩ (Fe [.c 2 T 2] [.ag [.v (.int .i64 zr.1.Mean),.v (.sl (X zA zr.1.Parts))]] [.sl (X r8 zr.2.b),.int .i64 zr.2.i,.int .i64 zr.2.h])
theorem tX{r1}{n:U}:Yh r1 (Hd r1 n):=by
 induction n with
 | zero=>intro _ _ _ _ _ r h; cases h
 | succ n ih=>
  intro v3 v4 v5 v6 v7 r h σ hσ S hS;refine ev hS ?_;rw[Hd] at h;refine AP (Aw ?_);obtain⟨h8,h⟩|⟨h8,h⟩:=ic h
  ·try simp only[hσ,h8,A,B,C,E,F,J]
   obtain⟨r9,h9,h⟩:=ob h;obtain⟨h10,h⟩:=AQ h;refine D3 (ks:= [0,2,3,4]) (bs:= [99999999999,2,3]) (rs:= [131136]) (τ:=(HM r1 v3 v7 r9)) W (tQ r1 v3 v4 v5 v6 v7 r9 h9 h10 _ G G G) ?_;simp only[HM,Cz,A3];try simp only[h8,h10,A,B,C,E,F,J]
   refine ih h ?_ (by kernel_rfl);try simp only[h8,h10,A,B,C,E,F,J,pL,aM,Z]
  ·try simp only[hσ,h8,A,B,C,E,F,J]
   refine C3 ?_;try simp only[h8,A,B,C,E,F,J]
   cases h;try simp only[Cj,A,B,C,E,F,J]
   trivial
theorem dK:AD Y 123=H ((Bp Y 123 Ps).strip,[.c 2 T 2],23):=by kernel_rfl
theorem sB{a0}{r}(h:KU a0=H r):FCy Y 123 [.p] [.sl (X r8 a0.b),.int .i64 a0.i,.int .i64 a0.h] [.sl (X r8 r.2.b),.int .i64 r.2.i,.int .i64 r.2.h] [.ag [.v (.int .i64 r.1.Mean),.v (.sl (X zA r.1.Parts))]]:=by
 unfold KU at h;refine CF (σ:=⟨[(0,vc (.pb 99999999999 0))],[(99999999999,[aL (X r8 a0.b),aI a0.i,aI a0.h])],[]⟩) mixed dK W W ?_;refine Bv Ps ?_;intro S hS;refine ev hS ?_;try simp only[A,B,C,E,F,J]
 refine AK ?_;obtain⟨r1,h1,h⟩:=ob h;try simp only[A,B,C,E,F,J]
 refine Aq (AW h1) 99999999999 ?_;try simp only[A,B,C,E,F,J]
 refine AK ?_;try simp only[A,B,C,E,F,J]
 refine E7 (cs':= [aI r1.1,.own 131136]) W W W W ?_;obtain⟨r2,h2,h⟩:=ob h;try simp only[A,B,C,E,F,J]
 refine Aq (AW h2) 99999999999 ?_;try simp only[A,B,C,E,F,J]
 refine tX h ?_ (by kernel_rfl);try simp only[A,B,C,E,F,J,pL,aM,Z]
def M5:N (N U × AItem):= [([],(L,.faddr 20 (S 3) 2)),([0],(L,.load 21 (S 20) G 1)),([],(L,.mv 22 (S 4))),([],(L,.mv 23 (S 6))),([],(L,.mv 24 (S 6))),([],(L,.mv 25 (S 0))),([5],(L,.call 26 84 [(S 25),(K 60)])),([4,6],(L,.bin 27 .add (S 24) (S 26))),([2,3,7],(L,.build 28 [aI 0,aI 0,aI 0] [(0,1,(S 22)),(1,1,(S 23)),(2,1,(S 27))])),([8],(L,.bslice 29 3 [.int .i64 0,.int .i64 0,.int .i64 0] 1 [(0,(S 28))])),([1,9,6],(L,.app 30 3 24 (S 21) (S 29))),([0,1,2,3,4,5,6,7,8,9,10],(L,.faddr 31 (S 3) 2)),([11,10,10,0,1,2,3,4,5,6,7,8,9,10],(L,.store (S 31) (S 30) 1))]
def Ph:Hw:=([(10,[0,2,3,4,5],[99999999999,2,3],[131200])],[(3,5,(L,.ownb 3 2 131200 3)),(26,0,(L,.frz 131200))])
abbrev CA(v3 v4:P)(r10 r11:P × X4)(wo1_:AV)(c0_ c1_:Q)(c2_ c3_:Q)(c4_ c5_:Q)(c6_ c7_:Q)(c8_ c9_:Q)(c10_ c11_:Q)(bx_:N (U × N AC))(rs_:Rows):St:=⟨[(0,vc (.pb 99999999999 0)),(2,vc (.pb 2 0)),(3,vc (.pb 3 0)),(4,vc (aI v3)),(5,vc (aI v4)),(6,vc (aI (zH .i64 (r10.1 - (40:P))))),(20,bif c0_ then vc (.pb 3 2) else .undef),(21,bif c1_ then wo1_ else .undef),(22,bif c2_ then vc (aI v3) else .undef),(23,bif c3_ then vc (aI (zH .i64 (r10.1 - (40:P)))) else .undef),(24,bif c4_ then vc (aI (zH .i64 (r10.1 - (40:P)))) else .undef),(25,bif c5_ then vc (.pb 99999999999 0) else .undef),(26,bif c6_ then vc (aI r11.1) else .undef),(27,bif c7_ then vc (aI (zH .i64 ((zH .i64 (r10.1 - (40:P)))+r11.1))) else .undef),(28,bif c8_ then va [aI v3,aI (zH .i64 (r10.1 - (40:P))),aI (zH .i64 ((zH .i64 (r10.1 - (40:P)))+r11.1))] else .undef),(29,bif c9_ then vc (.own 1856) else .undef),(30,bif c10_ then vc (.own 131200) else .undef),(31,bif c11_ then vc (.pb 3 2) else .undef)],bx_,rs_⟩
abbrev HN(r1:Xn × X4)(v3 v4:P)(v8:N Xe)(r10 r11:P × X4):St:=(CA v3 v4 r10 r11 (vc (.undef)) T T T T T T T T T T T T [(99999999999,(dm r11.2.row)),(2,[aI (0:P),.nil,.nil]),(3,[aI r1.1.Mean,aL (X zA r1.1.Parts),.own 131200])] [(131200,3,X zC (v8++([(⟨v3,(zH .i64 (r10.1 - (40:P))),(zH .i64 ((zH .i64 (r10.1 - (40:P)))+r11.1))⟩:Xe)]:N Xe))),(1856,3,X zC ([(⟨v3,(zH .i64 (r10.1 - (40:P))),(zH .i64 ((zH .i64 (r10.1 - (40:P)))+r11.1))⟩:Xe)]:N Xe))])
theorem tn(r1:Xn × X4)(v3)(v4:P)(v8:N Xe)(r10:P × X4)(r11)(h11:An r10.2 (60:P)=H r11)(h12:(A7 v8.length ([(⟨v3,(zH .i64 (r10.1 - (40:P))),(zH .i64 ((zH .i64 (r10.1 - (40:P)))+r11.1))⟩:Xe)]:N Xe).length 24)=T):∀(f:U),Af Y M5 (HN r1 v3 v4 v8 r10 r11) f [T,T,T,T,T,T,T,T,T,T,T,T,T] (CA v3 v4 r10 r11 (vc (.undef)) T T T T T T T T T T T T [(99999999999,(dm r11.2.row)),(2,[aI (0:P),.nil,.nil]),(3,[aI r1.1.Mean,aL (X zA r1.1.Parts),.own 131200])] [(131200,3,X zC (v8++([(⟨v3,(zH .i64 (r10.1 - (40:P))),(zH .i64 ((zH .i64 (r10.1 - (40:P)))+r11.1))⟩:Xe)]:N Xe))),(1856,3,X zC ([(⟨v3,(zH .i64 (r10.1 - (40:P))),(zH .i64 ((zH .i64 (r10.1 - (40:P)))+r11.1))⟩:Xe)]:N Xe))]):=by
 intro f
 induction f with
 | zero=>intro h; rfl
 | succ f ih=>
  refine Aj ⟨?_,?_,?_,?_,?_,?_,?_,?_,?_,?_,?_,?_,?_,⟨⟩⟩<;>try first | (intro h; cases h; done)
theorem tz(r1:Xn × X4)(v3)(v4:P)(v8:N Xe)(r10:P × X4)(r11)(h11:An r10.2 (60:P)=H r11)(h12:(A7 v8.length ([(⟨v3,(zH .i64 (r10.1 - (40:P))),(zH .i64 ((zH .i64 (r10.1 - (40:P)))+r11.1))⟩:Xe)]:N Xe).length 24)=T):∀(f:U) (b0 b2:Q) (b3 b4:Q) (b7 b11:Q),Af Y M5 (HN r1 v3 v4 v8 r10 r11) f [b0,T,b2,b3,b4,T,T,b7,T,T,T,b11,G] (CA v3 v4 r10 r11 (vc (.undef)) b0 T b2 b3 b4 T T b7 T T T b11 [(99999999999,(dm r11.2.row)),(2,[aI (0:P),.nil,.nil]),(3,[aI r1.1.Mean,aL (X zA r1.1.Parts),.undef])] [(131200,3,X zC (v8++([(⟨v3,(zH .i64 (r10.1 - (40:P))),(zH .i64 ((zH .i64 (r10.1 - (40:P)))+r11.1))⟩:Xe)]:N Xe))),(1856,3,X zC ([(⟨v3,(zH .i64 (r10.1 - (40:P))),(zH .i64 ((zH .i64 (r10.1 - (40:P)))+r11.1))⟩:Xe)]:N Xe))]):=by
 intro f
 induction f with
 | zero=>intro b0 b2 b3 b4 b7 b11 h; simp at h
 | succ f ih=>
  intro b0 b2 b3 b4 b7 b11;refine Aj ⟨?_,?_,?_,?_,?_,?_,?_,?_,?_,?_,?_,?_,?_,⟨⟩⟩<;>try first | (intro h; cases h; done) | (intro h0 hw; obtain rfl:=hz h0 rfl; (try obtain rfl:=hq hw 0 rfl rfl); (try obtain rfl:=hq hw 2 rfl rfl); (try obtain rfl:=hq hw 3 rfl rfl); (try obtain rfl:=hq hw 4 rfl rfl); (try obtain rfl:=hq hw 7 rfl rfl); refine np ?_; simp only[CA,A3,A6,A2,A,B,C,E,F,J]; exact ih _ _ _ _ _ _)
  ·intro h0 hw;obtain rfl:=hq hw 0 rfl rfl;obtain rfl:=hq hw 2 rfl rfl;obtain rfl:=hq hw 3 rfl rfl;obtain rfl:=hq hw 4 rfl rfl;obtain rfl:=hq hw 7 rfl rfl;obtain rfl:=hq hw 11 rfl rfl;refine np ?_;try simp only[CA,A3,A6,A2,A,B,C,E,F,J]
   exact tn r1 v3 v4 v8 r10 r11 h11 h12 _
theorem uJ(r1:Xn × X4)(v3)(v4:P)(v8:N Xe)(r10:P × X4)(r11)(h11:An r10.2 (60:P)=H r11)(h12:(A7 v8.length ([(⟨v3,(zH .i64 (r10.1 - (40:P))),(zH .i64 ((zH .i64 (r10.1 - (40:P)))+r11.1))⟩:Xe)]:N Xe).length 24)=T):∀(f:U) (b0 b1:Q) (b2 b3:Q) (b4 b7:Q),Af Y M5 (HN r1 v3 v4 v8 r10 r11) f [b0,b1,b2,b3,b4,T,T,b7,T,T,G,G,G] (CA v3 v4 r10 r11 (vc (.own 131200)) b0 b1 b2 b3 b4 T T b7 T T G G [(99999999999,(dm r11.2.row)),(2,[aI (0:P),.nil,.nil]),(3,[aI r1.1.Mean,aL (X zA r1.1.Parts),.own 131200])] [(131200,3,X zC v8),(1856,3,X zC ([(⟨v3,(zH .i64 (r10.1 - (40:P))),(zH .i64 ((zH .i64 (r10.1 - (40:P)))+r11.1))⟩:Xe)]:N Xe))]):=by
 intro f
 induction f with
 | zero=>intro b0 b1 b2 b3 b4 b7 h; simp at h
 | succ f ih=>
  intro b0 b1 b2 b3 b4 b7;refine Aj ⟨?_,?_,?_,?_,?_,?_,?_,?_,?_,?_,?_,?_,?_,⟨⟩⟩<;>try first | (intro h; cases h; done) | (intro _ hw; simp at hw; done) | (intro h0 hw; obtain rfl:=hz h0 rfl; (try obtain rfl:=hq hw 0 rfl rfl); (try obtain rfl:=hq hw 4 rfl rfl); refine np ?_; simp only[CA,A3,A6,A2,A,B,C,E,F,J]; exact ih _ _ _ _ _ _)
  ·intro h0 hw;obtain rfl:=hq hw 1 rfl rfl;refine np ?_;try simp only[h12,CA,A3,A6,A2,A,B,C,E,F,J]
   exact tz r1 v3 v4 v8 r10 r11 h11 h12 _ b0 b2 b3 b4 b7 G
theorem uS(r1:Xn × X4)(v3)(v4:P)(v8:N Xe)(r10:P × X4)(r11)(h11:An r10.2 (60:P)=H r11)(h12:(A7 v8.length ([(⟨v3,(zH .i64 (r10.1 - (40:P))),(zH .i64 ((zH .i64 (r10.1 - (40:P)))+r11.1))⟩:Xe)]:N Xe).length 24)=T):∀(f:U) (b0 b1:Q) (b2 b3:Q) (b4 b7 b8:Q),Af Y M5 (HN r1 v3 v4 v8 r10 r11) f [b0,b1,b2,b3,b4,T,T,b7,b8,G,G,G,G] (CA v3 v4 r10 r11 (vc (.own 131200)) b0 b1 b2 b3 b4 T T b7 b8 G G G [(99999999999,(dm r11.2.row)),(2,[aI (0:P),.nil,.nil]),(3,[aI r1.1.Mean,aL (X zA r1.1.Parts),.own 131200])] [(131200,3,X zC v8)]):=by
 intro f
 induction f with
 | zero=>intro b0 b1 b2 b3 b4 b7 b8 h; simp at h
 | succ f ih=>
  intro b0 b1 b2 b3 b4 b7 b8;refine Aj ⟨?_,?_,?_,?_,?_,?_,?_,?_,?_,?_,?_,?_,?_,⟨⟩⟩<;>try first | (intro h; cases h; done) | (intro _ hw; simp at hw; done) | (intro h0 hw; obtain rfl:=hz h0 rfl; (try obtain rfl:=hq hw 0 rfl rfl); (try obtain rfl:=hq hw 2 rfl rfl); (try obtain rfl:=hq hw 3 rfl rfl); (try obtain rfl:=hq hw 4 rfl rfl); (try obtain rfl:=hq hw 7 rfl rfl); refine np ?_; simp only[CA,A3,A6,A2,A,B,C,E,F,J]; exact ih _ _ _ _ _ _ _)
  ·intro h0 hw;obtain rfl:=hq hw 8 rfl rfl;refine np ?_;try simp only[CA,A3,A6,A2,A,B,C,E,F,J]
   refine Ce (es:=X zC ([(⟨v3,(zH .i64 (r10.1 - (40:P))),(zH .i64 ((zH .i64 (r10.1 - (40:P)))+r11.1))⟩:Xe)]:N Xe)) W (by simp only[St.fresh,zD,zE,Bf]; simp[AV.cells,V1.cells,AC.uses]) ?_;try simp only[A2,A,B,C,E,F,J]
   exact uJ r1 v3 v4 v8 r10 r11 h11 h12 _ b0 b1 b2 b3 b4 b7
theorem uY(r1:Xn × X4)(v3)(v4:P)(v8:N Xe)(r10:P × X4)(r11)(h11:An r10.2 (60:P)=H r11)(h12:(A7 v8.length ([(⟨v3,(zH .i64 (r10.1 - (40:P))),(zH .i64 ((zH .i64 (r10.1 - (40:P)))+r11.1))⟩:Xe)]:N Xe).length 24)=T):∀(f:U) (b0 b1:Q) (b2 b3:Q) (b4 b5:Q),Af Y M5 (HN r1 v3 v4 v8 r10 r11) f [b0,b1,b2,b3,b4,b5,G,G,G,G,G,G,G] (CA v3 v4 r10 r11 (vc (.own 131200)) b0 b1 b2 b3 b4 b5 G G G G G G [(99999999999,(dm r10.2.row)),(2,[aI (0:P),.nil,.nil]),(3,[aI r1.1.Mean,aL (X zA r1.1.Parts),.own 131200])] [(131200,3,X zC v8)]):=by
 intro f
 induction f with
 | zero=>intro b0 b1 b2 b3 b4 b5 h; simp at h
 | succ f ih=>
  intro b0 b1 b2 b3 b4 b5;refine Aj ⟨?_,?_,?_,?_,?_,?_,?_,?_,?_,?_,?_,?_,?_,⟨⟩⟩<;>try first | (intro _ hw; simp at hw; done) | (intro h0 hw; obtain rfl:=hz h0 rfl; (try obtain rfl:=hq hw 0 rfl rfl); refine np ?_; simp only[CA,A3,A6,A2,A,B,C,E,F,J]; exact ih _ _ _ _ _ _)
  ·intro h0 hw;obtain rfl:=hq hw 5 rfl rfl;refine np ?_;try simp only[CA,A3,A6,A2,A,B,C,E,F,J]
   refine Aq (AW h11) 99999999999 ?_;try simp only[A2,A,B,C,E,F,J]
   exact uS r1 v3 v4 v8 r10 r11 h11 h12 _ b0 b1 b2 b3 b4 G G
def Yi:=fun(r1:Xn × X4) (k_:P→P→(N P)→P→P→(N Xe)→O (Xd × X4))=>∀{v3 v4 v5 v6 v7 v8} {zr},k_ v3 v4 v5 v6 v7 v8=H zr→Kh Y 79 Ph 10 [0,2,3,4,5] [99999999999,2,3] [131200] ⟨[(0,vc (.pb 99999999999 0)),pB 2,pB 3,pI 4 v3,pI 5 v4],[(99999999999,[aM r8 v5,aI v6,aI v7]),(2,[aI (0:P),.nil,.nil]),(3,[aI r1.1.Mean,aM zA r1.1.Parts,.own 131200])],[(131200,3,X zC v8)]⟩ (Fe [.c 2 T 3] [.ag [.v (.int .i64 zr.1.Tide.Mean),.v (.sl (X zA zr.1.Tide.Parts)),.v (.sl (X zC zr.1.Surges))]] [.sl (X r8 zr.2.b),.int .i64 zr.2.i,.int .i64 zr.2.h])
theorem ud{r1}{n:U}:Yi r1 (EU r1 n):=by
 induction n with
 | zero=>intro _ _ _ _ _ _ r h; cases h
 | succ n ih=>
  intro v3 v4 v5 v6 v7 v8 r h σ hσ S hS;refine ev hS ?_;rw[EU] at h;refine AP (Aw ?_);obtain⟨h9,h⟩|⟨h9,h⟩:=ic h
  ·obtain⟨r10,h10,h⟩:=ob h;try simp only[hσ,h9,A,B,C,E,F,J]
   refine Aq (AW h10) 99999999999 ?_;try simp only[h9,A,B,C,E,F,J]
   obtain⟨r11,h11,h⟩:=ob h;obtain⟨h12,h⟩:=AQ h;refine D3 (ks:= [0,2,3,4,5,6]) (bs:= [99999999999,2,3]) (rs:= [131200]) (τ:=(HN r1 v3 v4 v8 r10 r11)) W (uY r1 v3 v4 v8 r10 r11 h11 h12 _ G G G G G G) ?_;simp only[HN,CA,A3];obtain⟨r13,h13,h⟩:=ob h;try simp only[h9,h12,A,B,C,E,F,J]
   refine Aq (AW h13) 99999999999 ?_;try simp only[h9,h12,A,B,C,E,F,J]
   refine ih h ?_ (by kernel_rfl);try simp only[h9,h12,A,B,C,E,F,J,pL,aM,Z]
  ·try simp only[hσ,h9,A,B,C,E,F,J]
   refine C3 ?_;try simp only[h9,A,B,C,E,F,J]
   cases h;try simp only[Cj,A,B,C,E,F,J]
   trivial
theorem dN:AD Y 79=H ((Bp Y 79 Ph).strip,[.c 2 T 3],38):=by kernel_rfl
theorem sD{a0}{r}(h:IE a0=H r):FCy Y 79 [.p] [.sl (X r8 a0.b),.int .i64 a0.i,.int .i64 a0.h] [.sl (X r8 r.2.b),.int .i64 r.2.i,.int .i64 r.2.h] [.ag [.v (.int .i64 r.1.Tide.Mean),.v (.sl (X zA r.1.Tide.Parts)),.v (.sl (X zC r.1.Surges))]]:=by
 unfold IE at h;refine CF (σ:=⟨[(0,vc (.pb 99999999999 0))],[(99999999999,[aL (X r8 a0.b),aI a0.i,aI a0.h])],[]⟩) mixed dN W W ?_;refine Bv Ph ?_;intro S hS;refine ev hS ?_;try simp only[A,B,C,E,F,J]
 refine AK ?_;obtain⟨r1,h1,h⟩:=ob h;try simp only[A,B,C,E,F,J]
 refine Aq (sB h1) 99999999999 ?_;try simp only[A,B,C,E,F,J]
 refine AK ?_;try simp only[A,B,C,E,F,J]
 refine E7 (cs':= [aI r1.1.Mean,aL (X zA r1.1.Parts),.own 131200]) W W W W ?_;obtain⟨r2,h2,h⟩:=ob h;try simp only[A,B,C,E,F,J]
 refine Aq (AW h2) 99999999999 ?_;try simp only[A,B,C,E,F,J]
 refine ud h ?_ (by kernel_rfl);try simp only[A,B,C,E,F,J,pL,aM,Z]
theorem dO:AD Y 39=H ((Bp Y 39 h0).strip,[4],9):=by kernel_rfl
theorem Gd{a0}{a1}{r}(h:Cu a0 a1=H r):FCy Y 39 [.p,.d (.sc (.int .i64 a1))] [.sl (X r8 a0.b),.int .i64 a0.i,.int .i64 a0.h] [.sl (X r8 r.2.b),.int .i64 r.2.i,.int .i64 r.2.h] [.sc (.v (.bool r.1))]:=by
 unfold Cu at h;refine CF (σ:=⟨[(0,vc (.pb 99999999999 0)),(1,vc (aI a1))],[(99999999999,[aL (X r8 a0.b),aI a0.i,aI a0.h])],[]⟩) mixed dO W W ?_;refine Bv h0 ?_;intro S hS;refine ev hS ?_;obtain⟨r1,h1,h⟩:=ob h;try simp only[A,B,C,E,F,J]
 refine Aq (AW h1) 99999999999 ?_;try simp only[A,B,C,E,F,J]
 cases h;exact t0
def Jj:N (N U × AItem):= [([],(L,.faddr 39 (S 3) 1)),([0],(L,.load 40 (S 39) G 1)),([],(L,.mv 41 (S 0))),([2],(L,.call 42 84 [(S 41),(K 300)])),([3],(L,.bin 43 .add (K 700) (S 42))),([],(L,.mv 44 (S 0))),([5,3],(L,.call 45 84 [(S 44),(K 30)])),([6],(L,.bin 46 .add (K 20) (S 45))),([4,7],(L,.build 47 [aI 0,aI 0,aI 0,aI 0,aB G] [(0,1,(K 3)),(1,1,(K 1)),(2,1,(S 43)),(3,1,(S 46)),(4,1,(KB T))])),([8],(L,.bslice 48 5 [.int .i64 0,.int .i64 0,.int .i64 0,.int .i64 0,.bool G] 1 [(0,(S 47))])),([1,9,6],(L,.app 49 5 40 (S 40) (S 48))),([0,1,2,3,4,5,6,7,8,9,10],(L,.faddr 50 (S 3) 1)),([11,10,10,0,1,2,3,4,5,6,7,8,9,10],(L,.store (S 50) (S 49) 1))]
def M6:N (N U × AItem):= [([],(L,.faddr 59 (S 3) 1)),([0],(L,.load 60 (S 59) G 1)),([],(L,.mv 61 (S 0))),([2],(L,.call 62 84 [(S 61),(K 300)])),([3],(L,.bin 63 .add (K 800) (S 62))),([4],(L,.build 64 [aI 0,aI 0,aI 0,aI 0,aB G] [(0,1,(K 2)),(1,1,(K 4)),(2,1,(S 63)),(3,1,(K 15))])),([5],(L,.bslice 65 5 [.int .i64 0,.int .i64 0,.int .i64 0,.int .i64 0,.bool G] 1 [(0,(S 64))])),([1,6,3],(L,.app 66 5 40 (S 60) (S 65))),([0,1,2,3,4,5,6,7],(L,.faddr 67 (S 3) 1)),([8,7,7,0,1,2,3,4,5,6,7],(L,.store (S 67) (S 66) 1))]
def Pk:Hw:=([(12,[0,2,3],[99999999999,2,3],[640,2240])],[(21,0,(L,.frz 640)),(21,1,(L,.frz 2240))])
abbrev BX(r12 r13:P × X4)(wo1_:AV)(c0_ c1_:Q)(c2_ c3_:Q)(c4_ c5_:Q)(c6_ c7_:Q)(c8_ c9_:Q)(c10_ c11_:Q)(bx_:N (U × N AC))(rs_:Rows):St:=⟨[(0,vc (.pb 99999999999 0)),(2,vc (.pb 2 0)),(3,vc (.pb 3 0)),(39,bif c0_ then vc (.pb 3 1) else .undef),(40,bif c1_ then wo1_ else .undef),(41,bif c2_ then vc (.pb 99999999999 0) else .undef),(42,bif c3_ then vc (aI r12.1) else .undef),(43,bif c4_ then vc (aI (zH .i64 ((700:P)+r12.1))) else .undef),(44,bif c5_ then vc (.pb 99999999999 0) else .undef),(45,bif c6_ then vc (aI r13.1) else .undef),(46,bif c7_ then vc (aI (zH .i64 ((20:P)+r13.1))) else .undef),(47,bif c8_ then va [aI (3:P),aI (1:P),aI (zH .i64 ((700:P)+r12.1)),aI (zH .i64 ((20:P)+r13.1)),aB T] else .undef),(48,bif c9_ then vc (.own 3072) else .undef),(49,bif c10_ then vc (.own 2240) else .undef),(50,bif c11_ then vc (.pb 3 1) else .undef)],bx_,rs_⟩
abbrev Gb(r1:Q × X4)(r2 r3:P × X4)(r4 r5:P × X4)(r6:Q × X4)(r7 r9:P × X4)(r12 r13:P × X4):St:=(BX r12 r13 (vc (.undef)) T T T T T T T T T T T T [(99999999999,(dm r13.2.row)),(2,[.nil,.nil]),(3,[.own 640,.own 2240])] [(640,2,X zB ([(⟨([115,101,97]:N V),T⟩:Xa),(⟨([98,97,114]:N V),G⟩:Xa),(⟨([114,111,97,100]:N V),r1.1⟩:Xa),(⟨([113,117,97,121]:N V),T⟩:Xa)]:N Xa)),(2240,5,X X1.row (([(⟨(0:P),(1:P),(zH .i64 ((900:P)+r2.1)),(zH .i64 ((10:P)+r3.1)),G⟩:X1),(⟨(1:P),(2:P),(zH .i64 ((800:P)+r4.1)),(zH .i64 ((10:P)+r5.1)),r6.1⟩:X1),(⟨(2:P),(3:P),(zH .i64 ((900:P)+r7.1)),(zH .i64 ((5:P)+r9.1)),G⟩:X1)]:N X1)++([(⟨(3:P),(1:P),(zH .i64 ((700:P)+r12.1)),(zH .i64 ((20:P)+r13.1)),T⟩:X1)]:N X1))),(3072,5,X X1.row ([(⟨(3:P),(1:P),(zH .i64 ((700:P)+r12.1)),(zH .i64 ((20:P)+r13.1)),T⟩:X1)]:N X1))])
theorem vE(r1:Q × X4)(r2 r3:P × X4)(r4 r5:P × X4)(r6:Q × X4)(r7 r9:P × X4)(r10:Q × X4)(r12)(r13)(h12:An r10.2 (300:P)=H r12)(h13:An r12.2 (30:P)=H r13)(h14:(A7 ([(⟨(0:P),(1:P),(zH .i64 ((900:P)+r2.1)),(zH .i64 ((10:P)+r3.1)),G⟩:X1),(⟨(1:P),(2:P),(zH .i64 ((800:P)+r4.1)),(zH .i64 ((10:P)+r5.1)),r6.1⟩:X1),(⟨(2:P),(3:P),(zH .i64 ((900:P)+r7.1)),(zH .i64 ((5:P)+r9.1)),G⟩:X1)]:N X1).length ([(⟨(3:P),(1:P),(zH .i64 ((700:P)+r12.1)),(zH .i64 ((20:P)+r13.1)),T⟩:X1)]:N X1).length 40)=T):∀(f:U),Af Y Jj (Gb r1 r2 r3 r4 r5 r6 r7 r9 r12 r13) f [T,T,T,T,T,T,T,T,T,T,T,T,T] (BX r12 r13 (vc (.undef)) T T T T T T T T T T T T [(99999999999,(dm r13.2.row)),(2,[.nil,.nil]),(3,[.own 640,.own 2240])] [(640,2,X zB ([(⟨([115,101,97]:N V),T⟩:Xa),(⟨([98,97,114]:N V),G⟩:Xa),(⟨([114,111,97,100]:N V),r1.1⟩:Xa),(⟨([113,117,97,121]:N V),T⟩:Xa)]:N Xa)),(2240,5,X X1.row (([(⟨(0:P),(1:P),(zH .i64 ((900:P)+r2.1)),(zH .i64 ((10:P)+r3.1)),G⟩:X1),(⟨(1:P),(2:P),(zH .i64 ((800:P)+r4.1)),(zH .i64 ((10:P)+r5.1)),r6.1⟩:X1),(⟨(2:P),(3:P),(zH .i64 ((900:P)+r7.1)),(zH .i64 ((5:P)+r9.1)),G⟩:X1)]:N X1)++([(⟨(3:P),(1:P),(zH .i64 ((700:P)+r12.1)),(zH .i64 ((20:P)+r13.1)),T⟩:X1)]:N X1))),(3072,5,X X1.row ([(⟨(3:P),(1:P),(zH .i64 ((700:P)+r12.1)),(zH .i64 ((20:P)+r13.1)),T⟩:X1)]:N X1))]):=by
 intro f
 induction f with
 | zero=>intro h; rfl
 | succ f ih=>
  refine Aj ⟨?_,?_,?_,?_,?_,?_,?_,?_,?_,?_,?_,?_,?_,⟨⟩⟩<;>try first | (intro h; cases h; done)
theorem vK(r1:Q × X4)(r2 r3:P × X4)(r4 r5:P × X4)(r6:Q × X4)(r7 r9:P × X4)(r10:Q × X4)(r12)(r13)(h12:An r10.2 (300:P)=H r12)(h13:An r12.2 (30:P)=H r13)(h14:(A7 ([(⟨(0:P),(1:P),(zH .i64 ((900:P)+r2.1)),(zH .i64 ((10:P)+r3.1)),G⟩:X1),(⟨(1:P),(2:P),(zH .i64 ((800:P)+r4.1)),(zH .i64 ((10:P)+r5.1)),r6.1⟩:X1),(⟨(2:P),(3:P),(zH .i64 ((900:P)+r7.1)),(zH .i64 ((5:P)+r9.1)),G⟩:X1)]:N X1).length ([(⟨(3:P),(1:P),(zH .i64 ((700:P)+r12.1)),(zH .i64 ((20:P)+r13.1)),T⟩:X1)]:N X1).length 40)=T):∀(f:U) (b0 b4:Q) (b7 b11:Q),Af Y Jj (Gb r1 r2 r3 r4 r5 r6 r7 r9 r12 r13) f [b0,T,T,T,b4,T,T,b7,T,T,T,b11,G] (BX r12 r13 (vc (.undef)) b0 T T T b4 T T b7 T T T b11 [(99999999999,(dm r13.2.row)),(2,[.nil,.nil]),(3,[.own 640,.undef])] [(640,2,X zB ([(⟨([115,101,97]:N V),T⟩:Xa),(⟨([98,97,114]:N V),G⟩:Xa),(⟨([114,111,97,100]:N V),r1.1⟩:Xa),(⟨([113,117,97,121]:N V),T⟩:Xa)]:N Xa)),(2240,5,X X1.row (([(⟨(0:P),(1:P),(zH .i64 ((900:P)+r2.1)),(zH .i64 ((10:P)+r3.1)),G⟩:X1),(⟨(1:P),(2:P),(zH .i64 ((800:P)+r4.1)),(zH .i64 ((10:P)+r5.1)),r6.1⟩:X1),(⟨(2:P),(3:P),(zH .i64 ((900:P)+r7.1)),(zH .i64 ((5:P)+r9.1)),G⟩:X1)]:N X1)++([(⟨(3:P),(1:P),(zH .i64 ((700:P)+r12.1)),(zH .i64 ((20:P)+r13.1)),T⟩:X1)]:N X1))),(3072,5,X X1.row ([(⟨(3:P),(1:P),(zH .i64 ((700:P)+r12.1)),(zH .i64 ((20:P)+r13.1)),T⟩:X1)]:N X1))]):=by
 intro f
 induction f with
 | zero=>intro b0 b4 b7 b11 h; simp at h
 | succ f ih=>
  intro b0 b4 b7 b11;refine Aj ⟨?_,?_,?_,?_,?_,?_,?_,?_,?_,?_,?_,?_,?_,⟨⟩⟩<;>try first | (intro h; cases h; done) | (intro h0 hw; obtain rfl:=hz h0 rfl; (try obtain rfl:=hq hw 0 rfl rfl); (try obtain rfl:=hq hw 4 rfl rfl); (try obtain rfl:=hq hw 7 rfl rfl); refine np ?_; simp only[BX,A3,A6,A2,A,B,C,E,F,J]; exact ih _ _ _ _)
  ·intro h0 hw;obtain rfl:=hq hw 0 rfl rfl;obtain rfl:=hq hw 4 rfl rfl;obtain rfl:=hq hw 7 rfl rfl;obtain rfl:=hq hw 11 rfl rfl;refine np ?_;try simp only[BX,A3,A6,A2,A,B,C,E,F,J]
   exact vE r1 r2 r3 r4 r5 r6 r7 r9 r10 r12 r13 h12 h13 h14 _
theorem vL(r1:Q × X4)(r2 r3:P × X4)(r4 r5:P × X4)(r6:Q × X4)(r7 r9:P × X4)(r10:Q × X4)(r12)(r13)(h12:An r10.2 (300:P)=H r12)(h13:An r12.2 (30:P)=H r13)(h14:(A7 ([(⟨(0:P),(1:P),(zH .i64 ((900:P)+r2.1)),(zH .i64 ((10:P)+r3.1)),G⟩:X1),(⟨(1:P),(2:P),(zH .i64 ((800:P)+r4.1)),(zH .i64 ((10:P)+r5.1)),r6.1⟩:X1),(⟨(2:P),(3:P),(zH .i64 ((900:P)+r7.1)),(zH .i64 ((5:P)+r9.1)),G⟩:X1)]:N X1).length ([(⟨(3:P),(1:P),(zH .i64 ((700:P)+r12.1)),(zH .i64 ((20:P)+r13.1)),T⟩:X1)]:N X1).length 40)=T):∀(f:U) (b0 b1:Q) (b4 b7:Q),Af Y Jj (Gb r1 r2 r3 r4 r5 r6 r7 r9 r12 r13) f [b0,b1,T,T,b4,T,T,b7,T,T,G,G,G] (BX r12 r13 (vc (.own 2240)) b0 b1 T T b4 T T b7 T T G G [(99999999999,(dm r13.2.row)),(2,[.nil,.nil]),(3,[.own 640,.own 2240])] [(640,2,X zB ([(⟨([115,101,97]:N V),T⟩:Xa),(⟨([98,97,114]:N V),G⟩:Xa),(⟨([114,111,97,100]:N V),r1.1⟩:Xa),(⟨([113,117,97,121]:N V),T⟩:Xa)]:N Xa)),(2240,5,X X1.row ([(⟨(0:P),(1:P),(zH .i64 ((900:P)+r2.1)),(zH .i64 ((10:P)+r3.1)),G⟩:X1),(⟨(1:P),(2:P),(zH .i64 ((800:P)+r4.1)),(zH .i64 ((10:P)+r5.1)),r6.1⟩:X1),(⟨(2:P),(3:P),(zH .i64 ((900:P)+r7.1)),(zH .i64 ((5:P)+r9.1)),G⟩:X1)]:N X1)),(3072,5,X X1.row ([(⟨(3:P),(1:P),(zH .i64 ((700:P)+r12.1)),(zH .i64 ((20:P)+r13.1)),T⟩:X1)]:N X1))]):=by
 intro f
 induction f with
 | zero=>intro b0 b1 b4 b7 h; simp at h
 | succ f ih=>
  intro b0 b1 b4 b7;refine Aj ⟨?_,?_,?_,?_,?_,?_,?_,?_,?_,?_,?_,?_,?_,⟨⟩⟩<;>try first | (intro h; cases h; done) | (intro _ hw; simp at hw; done) | (intro h0 hw; obtain rfl:=hz h0 rfl; (try obtain rfl:=hq hw 0 rfl rfl); refine np ?_; simp only[BX,A3,A6,A2,A,B,C,E,F,J]; exact ih _ _ _ _)
  ·intro h0 hw;obtain rfl:=hq hw 1 rfl rfl;refine np ?_;try simp only[h14,BX,A3,A6,A2,A,B,C,E,F,J]
   exact vK r1 r2 r3 r4 r5 r6 r7 r9 r10 r12 r13 h12 h13 h14 _ b0 b4 b7 G
theorem vM(r1:Q × X4)(r2 r3:P × X4)(r4 r5:P × X4)(r6:Q × X4)(r7 r9:P × X4)(r10:Q × X4)(r12)(r13)(h12:An r10.2 (300:P)=H r12)(h13:An r12.2 (30:P)=H r13)(h14:(A7 ([(⟨(0:P),(1:P),(zH .i64 ((900:P)+r2.1)),(zH .i64 ((10:P)+r3.1)),G⟩:X1),(⟨(1:P),(2:P),(zH .i64 ((800:P)+r4.1)),(zH .i64 ((10:P)+r5.1)),r6.1⟩:X1),(⟨(2:P),(3:P),(zH .i64 ((900:P)+r7.1)),(zH .i64 ((5:P)+r9.1)),G⟩:X1)]:N X1).length ([(⟨(3:P),(1:P),(zH .i64 ((700:P)+r12.1)),(zH .i64 ((20:P)+r13.1)),T⟩:X1)]:N X1).length 40)=T):∀(f:U) (b0 b1:Q) (b4 b7 b8:Q),Af Y Jj (Gb r1 r2 r3 r4 r5 r6 r7 r9 r12 r13) f [b0,b1,T,T,b4,T,T,b7,b8,G,G,G,G] (BX r12 r13 (vc (.own 2240)) b0 b1 T T b4 T T b7 b8 G G G [(99999999999,(dm r13.2.row)),(2,[.nil,.nil]),(3,[.own 640,.own 2240])] [(640,2,X zB ([(⟨([115,101,97]:N V),T⟩:Xa),(⟨([98,97,114]:N V),G⟩:Xa),(⟨([114,111,97,100]:N V),r1.1⟩:Xa),(⟨([113,117,97,121]:N V),T⟩:Xa)]:N Xa)),(2240,5,X X1.row ([(⟨(0:P),(1:P),(zH .i64 ((900:P)+r2.1)),(zH .i64 ((10:P)+r3.1)),G⟩:X1),(⟨(1:P),(2:P),(zH .i64 ((800:P)+r4.1)),(zH .i64 ((10:P)+r5.1)),r6.1⟩:X1),(⟨(2:P),(3:P),(zH .i64 ((900:P)+r7.1)),(zH .i64 ((5:P)+r9.1)),G⟩:X1)]:N X1))]):=by
 intro f
 induction f with
 | zero=>intro b0 b1 b4 b7 b8 h; simp at h
 | succ f ih=>
  intro b0 b1 b4 b7 b8;refine Aj ⟨?_,?_,?_,?_,?_,?_,?_,?_,?_,?_,?_,?_,?_,⟨⟩⟩<;>try first | (intro h; cases h; done) | (intro _ hw; simp at hw; done) | (intro h0 hw; obtain rfl:=hz h0 rfl; (try obtain rfl:=hq hw 0 rfl rfl); (try obtain rfl:=hq hw 4 rfl rfl); (try obtain rfl:=hq hw 7 rfl rfl); refine np ?_; simp only[BX,A3,A6,A2,A,B,C,E,F,J]; exact ih _ _ _ _ _)
  ·intro h0 hw;obtain rfl:=hq hw 8 rfl rfl;refine np ?_;try simp only[BX,A3,A6,A2,A,B,C,E,F,J]
   refine Ce (es:=X X1.row ([(⟨(3:P),(1:P),(zH .i64 ((700:P)+r12.1)),(zH .i64 ((20:P)+r13.1)),T⟩:X1)]:N X1)) W (by simp only[St.fresh,zD,zE,Bf]; simp[AV.cells,V1.cells,AC.uses]) ?_;try simp only[A2,A,B,C,E,F,J]
   exact vL r1 r2 r3 r4 r5 r6 r7 r9 r10 r12 r13 h12 h13 h14 _ b0 b1 b4 b7
theorem vN(r1:Q × X4)(r2 r3:P × X4)(r4 r5:P × X4)(r6:Q × X4)(r7 r9:P × X4)(r10:Q × X4)(r12)(r13)(h12:An r10.2 (300:P)=H r12)(h13:An r12.2 (30:P)=H r13)(h14:(A7 ([(⟨(0:P),(1:P),(zH .i64 ((900:P)+r2.1)),(zH .i64 ((10:P)+r3.1)),G⟩:X1),(⟨(1:P),(2:P),(zH .i64 ((800:P)+r4.1)),(zH .i64 ((10:P)+r5.1)),r6.1⟩:X1),(⟨(2:P),(3:P),(zH .i64 ((900:P)+r7.1)),(zH .i64 ((5:P)+r9.1)),G⟩:X1)]:N X1).length ([(⟨(3:P),(1:P),(zH .i64 ((700:P)+r12.1)),(zH .i64 ((20:P)+r13.1)),T⟩:X1)]:N X1).length 40)=T):∀(f:U) (b0 b1:Q) (b4 b5:Q),Af Y Jj (Gb r1 r2 r3 r4 r5 r6 r7 r9 r12 r13) f [b0,b1,T,T,b4,b5,G,G,G,G,G,G,G] (BX r12 r13 (vc (.own 2240)) b0 b1 T T b4 b5 G G G G G G [(99999999999,(dm r12.2.row)),(2,[.nil,.nil]),(3,[.own 640,.own 2240])] [(640,2,X zB ([(⟨([115,101,97]:N V),T⟩:Xa),(⟨([98,97,114]:N V),G⟩:Xa),(⟨([114,111,97,100]:N V),r1.1⟩:Xa),(⟨([113,117,97,121]:N V),T⟩:Xa)]:N Xa)),(2240,5,X X1.row ([(⟨(0:P),(1:P),(zH .i64 ((900:P)+r2.1)),(zH .i64 ((10:P)+r3.1)),G⟩:X1),(⟨(1:P),(2:P),(zH .i64 ((800:P)+r4.1)),(zH .i64 ((10:P)+r5.1)),r6.1⟩:X1),(⟨(2:P),(3:P),(zH .i64 ((900:P)+r7.1)),(zH .i64 ((5:P)+r9.1)),G⟩:X1)]:N X1))]):=by
 intro f
 induction f with
 | zero=>intro b0 b1 b4 b5 h; simp at h
 | succ f ih=>
  intro b0 b1 b4 b5;refine Aj ⟨?_,?_,?_,?_,?_,?_,?_,?_,?_,?_,?_,?_,?_,⟨⟩⟩<;>try first | (intro h; cases h; done) | (intro _ hw; simp at hw; done) | (intro h0 hw; obtain rfl:=hz h0 rfl; (try obtain rfl:=hq hw 0 rfl rfl); refine np ?_; simp only[BX,A3,A6,A2,A,B,C,E,F,J]; exact ih _ _ _ _)
  ·intro h0 hw;obtain rfl:=hq hw 5 rfl rfl;refine np ?_;try simp only[BX,A3,A6,A2,A,B,C,E,F,J]
   refine Aq (AW h13) 99999999999 ?_;try simp only[A2,A,B,C,E,F,J]
   exact vM r1 r2 r3 r4 r5 r6 r7 r9 r10 r12 r13 h12 h13 h14 _ b0 b1 b4 G G
theorem vO(r1:Q × X4)(r2 r3:P × X4)(r4 r5:P × X4)(r6:Q × X4)(r7 r9:P × X4)(r10:Q × X4)(r12)(r13)(h12:An r10.2 (300:P)=H r12)(h13:An r12.2 (30:P)=H r13)(h14:(A7 ([(⟨(0:P),(1:P),(zH .i64 ((900:P)+r2.1)),(zH .i64 ((10:P)+r3.1)),G⟩:X1),(⟨(1:P),(2:P),(zH .i64 ((800:P)+r4.1)),(zH .i64 ((10:P)+r5.1)),r6.1⟩:X1),(⟨(2:P),(3:P),(zH .i64 ((900:P)+r7.1)),(zH .i64 ((5:P)+r9.1)),G⟩:X1)]:N X1).length ([(⟨(3:P),(1:P),(zH .i64 ((700:P)+r12.1)),(zH .i64 ((20:P)+r13.1)),T⟩:X1)]:N X1).length 40)=T):∀(f:U) (b0 b1:Q) (b2 b5:Q),Af Y Jj (Gb r1 r2 r3 r4 r5 r6 r7 r9 r12 r13) f [b0,b1,b2,G,G,b5,G,G,G,G,G,G,G] (BX r12 r13 (vc (.own 2240)) b0 b1 b2 G G b5 G G G G G G [(99999999999,(dm r10.2.row)),(2,[.nil,.nil]),(3,[.own 640,.own 2240])] [(640,2,X zB ([(⟨([115,101,97]:N V),T⟩:Xa),(⟨([98,97,114]:N V),G⟩:Xa),(⟨([114,111,97,100]:N V),r1.1⟩:Xa),(⟨([113,117,97,121]:N V),T⟩:Xa)]:N Xa)),(2240,5,X X1.row ([(⟨(0:P),(1:P),(zH .i64 ((900:P)+r2.1)),(zH .i64 ((10:P)+r3.1)),G⟩:X1),(⟨(1:P),(2:P),(zH .i64 ((800:P)+r4.1)),(zH .i64 ((10:P)+r5.1)),r6.1⟩:X1),(⟨(2:P),(3:P),(zH .i64 ((900:P)+r7.1)),(zH .i64 ((5:P)+r9.1)),G⟩:X1)]:N X1))]):=by
 intro f
 induction f with
 | zero=>intro b0 b1 b2 b5 h; simp at h
 | succ f ih=>
  intro b0 b1 b2 b5;refine Aj ⟨?_,?_,?_,?_,?_,?_,?_,?_,?_,?_,?_,?_,?_,⟨⟩⟩<;>try first | (intro _ hw; simp at hw; done) | (intro h0 hw; obtain rfl:=hz h0 rfl; (try obtain rfl:=hq hw 0 rfl rfl); refine np ?_; simp only[BX,A3,A6,A2,A,B,C,E,F,J]; exact ih _ _ _ _)
  ·intro h0 hw;obtain rfl:=hq hw 2 rfl rfl;refine np ?_;try simp only[BX,A3,A6,A2,A,B,C,E,F,J]
   refine Aq (AW h12) 99999999999 ?_;try simp only[A2,A,B,C,E,F,J]
   exact vN r1 r2 r3 r4 r5 r6 r7 r9 r10 r12 r13 h12 h13 h14 _ b0 b1 G b5
abbrev CB(r23:P × X4)(wo1_:AV)(c0_ c1_:Q)(c2_ c3_:Q)(c4_ c5_:Q)(c6_ c7_ c8_:Q)(bx_:N (U × N AC))(rs_:Rows):St:=⟨[(0,vc (.pb 99999999999 0)),(2,vc (.pb 2 0)),(3,vc (.pb 3 0)),(59,bif c0_ then vc (.pb 3 1) else .undef),(60,bif c1_ then wo1_ else .undef),(61,bif c2_ then vc (.pb 99999999999 0) else .undef),(62,bif c3_ then vc (aI r23.1) else .undef),(63,bif c4_ then vc (aI (zH .i64 ((800:P)+r23.1))) else .undef),(64,bif c5_ then va [aI (2:P),aI (4:P),aI (zH .i64 ((800:P)+r23.1)),aI (15:P),aB G] else .undef),(65,bif c6_ then vc (.own 4160) else .undef),(66,bif c7_ then vc (.own 2240) else .undef),(67,bif c8_ then vc (.pb 3 1) else .undef)],bx_,rs_⟩
abbrev HO(v18:N Xa)(v19:N X1)(r23:P × X4):St:=(CB r23 (vc (.undef)) T T T T T T T T T [(99999999999,(dm r23.2.row)),(2,[.nil,.nil]),(3,[.own 640,.own 2240])] [(640,2,X zB (v18++([(⟨([100,111,99,107]:N V),T⟩:Xa)]:N Xa))),(2240,5,X X1.row (v19++([(⟨(2:P),(4:P),(zH .i64 ((800:P)+r23.1)),(15:P),G⟩:X1)]:N X1))),(4160,5,X X1.row ([(⟨(2:P),(4:P),(zH .i64 ((800:P)+r23.1)),(15:P),G⟩:X1)]:N X1))])
theorem vP(v18)(v19:N X1)(r20:Q × X4)(r23)(h23:An r20.2 (300:P)=H r23)(h24:(A7 v19.length ([(⟨(2:P),(4:P),(zH .i64 ((800:P)+r23.1)),(15:P),G⟩:X1)]:N X1).length 40)=T):∀(f:U),Af Y M6 (HO v18 v19 r23) f [T,T,T,T,T,T,T,T,T,T] (CB r23 (vc (.undef)) T T T T T T T T T [(99999999999,(dm r23.2.row)),(2,[.nil,.nil]),(3,[.own 640,.own 2240])] [(640,2,X zB (v18++([(⟨([100,111,99,107]:N V),T⟩:Xa)]:N Xa))),(2240,5,X X1.row (v19++([(⟨(2:P),(4:P),(zH .i64 ((800:P)+r23.1)),(15:P),G⟩:X1)]:N X1))),(4160,5,X X1.row ([(⟨(2:P),(4:P),(zH .i64 ((800:P)+r23.1)),(15:P),G⟩:X1)]:N X1))]):=by
 intro f
 induction f with
 | zero=>intro h; rfl
 | succ f ih=>
  refine Aj ⟨?_,?_,?_,?_,?_,?_,?_,?_,?_,?_,⟨⟩⟩<;>try first | (intro h; cases h; done)
theorem vQ(v18)(v19:N X1)(r20:Q × X4)(r23)(h23:An r20.2 (300:P)=H r23)(h24:(A7 v19.length ([(⟨(2:P),(4:P),(zH .i64 ((800:P)+r23.1)),(15:P),G⟩:X1)]:N X1).length 40)=T):∀(f:U) (b0 b4 b8:Q),Af Y M6 (HO v18 v19 r23) f [b0,T,T,T,b4,T,T,T,b8,G] (CB r23 (vc (.undef)) b0 T T T b4 T T T b8 [(99999999999,(dm r23.2.row)),(2,[.nil,.nil]),(3,[.own 640,.undef])] [(640,2,X zB (v18++([(⟨([100,111,99,107]:N V),T⟩:Xa)]:N Xa))),(2240,5,X X1.row (v19++([(⟨(2:P),(4:P),(zH .i64 ((800:P)+r23.1)),(15:P),G⟩:X1)]:N X1))),(4160,5,X X1.row ([(⟨(2:P),(4:P),(zH .i64 ((800:P)+r23.1)),(15:P),G⟩:X1)]:N X1))]):=by
 intro f
 induction f with
 | zero=>intro b0 b4 b8 h; simp at h
 | succ f ih=>
  intro b0 b4 b8;refine Aj ⟨?_,?_,?_,?_,?_,?_,?_,?_,?_,?_,⟨⟩⟩<;>try first | (intro h; cases h; done) | (intro h0 hw; obtain rfl:=hz h0 rfl; (try obtain rfl:=hq hw 0 rfl rfl); (try obtain rfl:=hq hw 4 rfl rfl); refine np ?_; simp only[CB,A3,A6,A2,A,B,C,E,F,J]; exact ih _ _ _)
  ·intro h0 hw;obtain rfl:=hq hw 0 rfl rfl;obtain rfl:=hq hw 4 rfl rfl;obtain rfl:=hq hw 8 rfl rfl;refine np ?_;try simp only[CB,A3,A6,A2,A,B,C,E,F,J]
   exact vP v18 v19 r20 r23 h23 h24 _
theorem vR(v18)(v19:N X1)(r20:Q × X4)(r23)(h23:An r20.2 (300:P)=H r23)(h24:(A7 v19.length ([(⟨(2:P),(4:P),(zH .i64 ((800:P)+r23.1)),(15:P),G⟩:X1)]:N X1).length 40)=T):∀(f:U) (b0 b1 b4:Q),Af Y M6 (HO v18 v19 r23) f [b0,b1,T,T,b4,T,T,G,G,G] (CB r23 (vc (.own 2240)) b0 b1 T T b4 T T G G [(99999999999,(dm r23.2.row)),(2,[.nil,.nil]),(3,[.own 640,.own 2240])] [(640,2,X zB (v18++([(⟨([100,111,99,107]:N V),T⟩:Xa)]:N Xa))),(2240,5,X X1.row v19),(4160,5,X X1.row ([(⟨(2:P),(4:P),(zH .i64 ((800:P)+r23.1)),(15:P),G⟩:X1)]:N X1))]):=by
 intro f
 induction f with
 | zero=>intro b0 b1 b4 h; simp at h
 | succ f ih=>
  intro b0 b1 b4;refine Aj ⟨?_,?_,?_,?_,?_,?_,?_,?_,?_,?_,⟨⟩⟩<;>try first | (intro h; cases h; done) | (intro _ hw; simp at hw; done) | (intro h0 hw; obtain rfl:=hz h0 rfl; (try obtain rfl:=hq hw 0 rfl rfl); refine np ?_; simp only[CB,A3,A6,A2,A,B,C,E,F,J]; exact ih _ _ _)
  ·intro h0 hw;obtain rfl:=hq hw 1 rfl rfl;refine np ?_;try simp only[h24,CB,A3,A6,A2,A,B,C,E,F,J]
   exact vQ v18 v19 r20 r23 h23 h24 _ b0 b4 G
theorem vS(v18)(v19:N X1)(r20:Q × X4)(r23)(h23:An r20.2 (300:P)=H r23)(h24:(A7 v19.length ([(⟨(2:P),(4:P),(zH .i64 ((800:P)+r23.1)),(15:P),G⟩:X1)]:N X1).length 40)=T):∀(f:U) (b0 b1:Q) (b4 b5:Q),Af Y M6 (HO v18 v19 r23) f [b0,b1,T,T,b4,b5,G,G,G,G] (CB r23 (vc (.own 2240)) b0 b1 T T b4 b5 G G G [(99999999999,(dm r23.2.row)),(2,[.nil,.nil]),(3,[.own 640,.own 2240])] [(640,2,X zB (v18++([(⟨([100,111,99,107]:N V),T⟩:Xa)]:N Xa))),(2240,5,X X1.row v19)]):=by
 intro f
 induction f with
 | zero=>intro b0 b1 b4 b5 h; simp at h
 | succ f ih=>
  intro b0 b1 b4 b5;refine Aj ⟨?_,?_,?_,?_,?_,?_,?_,?_,?_,?_,⟨⟩⟩<;>try first | (intro h; cases h; done) | (intro _ hw; simp at hw; done) | (intro h0 hw; obtain rfl:=hz h0 rfl; (try obtain rfl:=hq hw 0 rfl rfl); (try obtain rfl:=hq hw 4 rfl rfl); refine np ?_; simp only[CB,A3,A6,A2,A,B,C,E,F,J]; exact ih _ _ _ _)
  ·intro h0 hw;obtain rfl:=hq hw 5 rfl rfl;refine np ?_;try simp only[CB,A3,A6,A2,A,B,C,E,F,J]
   refine Ce (es:=X X1.row ([(⟨(2:P),(4:P),(zH .i64 ((800:P)+r23.1)),(15:P),G⟩:X1)]:N X1)) W (by simp only[St.fresh,zD,zE,Bf]; simp[AV.cells,V1.cells,AC.uses]) ?_;try simp only[A2,A,B,C,E,F,J]
   exact vR v18 v19 r20 r23 h23 h24 _ b0 b1 b4
theorem vT(v18)(v19:N X1)(r20:Q × X4)(r23)(h23:An r20.2 (300:P)=H r23)(h24:(A7 v19.length ([(⟨(2:P),(4:P),(zH .i64 ((800:P)+r23.1)),(15:P),G⟩:X1)]:N X1).length 40)=T):∀(f:U) (b0 b1 b2:Q),Af Y M6 (HO v18 v19 r23) f [b0,b1,b2,G,G,G,G,G,G,G] (CB r23 (vc (.own 2240)) b0 b1 b2 G G G G G G [(99999999999,(dm r20.2.row)),(2,[.nil,.nil]),(3,[.own 640,.own 2240])] [(640,2,X zB (v18++([(⟨([100,111,99,107]:N V),T⟩:Xa)]:N Xa))),(2240,5,X X1.row v19)]):=by
 intro f
 induction f with
 | zero=>intro b0 b1 b2 h; simp at h
 | succ f ih=>
  intro b0 b1 b2;refine Aj ⟨?_,?_,?_,?_,?_,?_,?_,?_,?_,?_,⟨⟩⟩<;>try first | (intro _ hw; simp at hw; done) | (intro h0 hw; obtain rfl:=hz h0 rfl; (try obtain rfl:=hq hw 0 rfl rfl); refine np ?_; simp only[CB,A3,A6,A2,A,B,C,E,F,J]; exact ih _ _ _)
  ·intro h0 hw;obtain rfl:=hq hw 2 rfl rfl;refine np ?_;try simp only[CB,A3,A6,A2,A,B,C,E,F,J]
   refine Aq (AW h23) 99999999999 ?_;try simp only[A2,A,B,C,E,F,J]
   exact vS v18 v19 r20 r23 h23 h24 _ b0 b1 G G
def Yj:=fun(k_:(N P)→P→P→(N Xa)→(N X1)→O (X5 × X4))=>∀{v15 v16 v17 v18 v19} {zr},k_ v15 v16 v17 v18 v19=H zr→Kh Y 80 Pk 12 [0,2,3] [99999999999,2,3] [640,2240] ⟨[(0,vc (.pb 99999999999 0)),pB 2,pB 3],[(99999999999,[aM r8 v15,aI v16,aI v17]),(2,[.nil,.nil]),(3,[.own 640,.own 2240])],[(640,2,X zB v18),(2240,5,X X1.row v19)]⟩ (Fe [.c 2 T 2] [.ag [.v (.sl (X zB zr.1.Points)),.v (.sl (X X1.row zr.1.Segments))]] [.sl (X r8 zr.2.b),.int .i64 zr.2.i,.int .i64 zr.2.h])
theorem W2:Yj IF:=by
 intro v15 v16 v17 v18 v19 r h σ hσ S hS;refine ev hS ?_;refine Aw ?_;unfold IF at h;obtain⟨r20,h20,h⟩:=ob h;try simp only[hσ,A,B,C,E,F,J]
 refine Aq (Gd h20) 99999999999 ?_;obtain⟨h21,h⟩|⟨h21,h⟩:=ic h
 ·try simp only[h21,A,B,C,E,F,J]
  refine B3 (es:=X zB ([(⟨([100,111,99,107]:N V),T⟩:Xa)]:N Xa)) ?_;obtain⟨h22,h⟩:=AQ h;try simp only[h21,h22,A,B,C,E,F,J]
  obtain⟨r23,h23,h⟩:=ob h;obtain⟨h24,h⟩:=AQ h;refine D3 (ks:= [0,2,3]) (bs:= [99999999999,2,3]) (rs:= [640,2240]) (τ:=(HO v18 v19 r23)) W (vT v18 v19 r20 r23 h23 h24 _ G G G) ?_;simp only[HO,CB,A3];try simp only[h21,h22,h24,A,B,C,E,F,J]
  refine C3 ?_;try simp only[h21,h22,h24,A,B,C,E,F,J]
  refine C3 ?_;try simp only[h21,h22,h24,A,B,C,E,F,J]
  cases h;try simp only[Cj,A,B,C,E,F,J]
  trivial
 ·try simp only[h21,A,B,C,E,F,J]
  refine C3 ?_;try simp only[h21,A,B,C,E,F,J]
  refine C3 ?_;try simp only[h21,A,B,C,E,F,J]
  cases h;try simp only[Cj,A,B,C,E,F,J]
  trivial
theorem dR:AD Y 80=H ((Bp Y 80 Pk).strip,[.c 2 T 2],69):=by kernel_rfl
theorem sE{a0}{r}(h:KV a0=H r):FCy Y 80 [.p] [.sl (X r8 a0.b),.int .i64 a0.i,.int .i64 a0.h] [.sl (X r8 r.2.b),.int .i64 r.2.i,.int .i64 r.2.h] [.ag [.v (.sl (X zB r.1.Points)),.v (.sl (X X1.row r.1.Segments))]]:=by
 unfold KV at h;refine CF (σ:=⟨[(0,vc (.pb 99999999999 0))],[(99999999999,[aL (X r8 a0.b),aI a0.i,aI a0.h])],[]⟩) mixed dR W W ?_;refine Bv Pk ?_;intro S hS;refine ev hS ?_;try simp only[A,B,C,E,F,J]
 refine AK ?_;obtain⟨r1,h1,h⟩:=ob h;try simp only[A,B,C,E,F,J]
 refine Aq (Gd h1) 99999999999 ?_;try simp only[A,B,C,E,F,J]
 refine B3 (es:=X zB ([(⟨([115,101,97]:N V),T⟩:Xa),(⟨([98,97,114]:N V),G⟩:Xa),(⟨([114,111,97,100]:N V),r1.1⟩:Xa),(⟨([113,117,97,121]:N V),T⟩:Xa)]:N Xa)) ?_;try simp only[A,B,C,E,F,J]
 refine AK ?_;obtain⟨r2,h2,h⟩:=ob h;try simp only[A,B,C,E,F,J]
 refine Aq (AW h2) 99999999999 ?_;obtain⟨r3,h3,h⟩:=ob h;try simp only[A,B,C,E,F,J]
 refine Aq (AW h3) 99999999999 ?_;obtain⟨r4,h4,h⟩:=ob h;try simp only[A,B,C,E,F,J]
 refine Aq (AW h4) 99999999999 ?_;obtain⟨r5,h5,h⟩:=ob h;try simp only[A,B,C,E,F,J]
 refine Aq (AW h5) 99999999999 ?_;obtain⟨r6,h6,h⟩:=ob h;try simp only[A,B,C,E,F,J]
 refine Aq (Gd h6) 99999999999 ?_;obtain⟨r7,h7,h⟩:=ob h;try simp only[A,B,C,E,F,J]
 refine Aq (AW h7) 99999999999 ?_;obtain⟨r9,h9,h⟩:=ob h;try simp only[A,B,C,E,F,J]
 refine Aq (AW h9) 99999999999 ?_;try simp only[A,B,C,E,F,J]
 refine B3 (es:=X X1.row ([(⟨(0:P),(1:P),(zH .i64 ((900:P)+r2.1)),(zH .i64 ((10:P)+r3.1)),G⟩:X1),(⟨(1:P),(2:P),(zH .i64 ((800:P)+r4.1)),(zH .i64 ((10:P)+r5.1)),r6.1⟩:X1),(⟨(2:P),(3:P),(zH .i64 ((900:P)+r7.1)),(zH .i64 ((5:P)+r9.1)),G⟩:X1)]:N X1)) ?_;obtain⟨r10,h10,h⟩:=ob h;try simp only[A,B,C,E,F,J]
 refine Aq (Gd h10) 99999999999 ?_;obtain⟨h11,h⟩|⟨h11,h⟩:=ic h
 ·try simp only[h11,A,B,C,E,F,J]
  obtain⟨r12,h12,h⟩:=ob h;obtain⟨r13,h13,h⟩:=ob h;obtain⟨h14,h⟩:=AQ h;refine D3 (ks:= [0,2,3]) (bs:= [99999999999,2,3]) (rs:= [640,2240]) (τ:=(Gb r1 r2 r3 r4 r5 r6 r7 r9 r12 r13)) W (vO r1 r2 r3 r4 r5 r6 r7 r9 r10 r12 r13 h12 h13 h14 _ G G G G) ?_;simp only[Gb,BX,A3];try simp only[h11,h14,A,B,C,E,F,J]
  refine W2 h ?_ (by kernel_rfl);try simp only[h11,h14,A,B,C,E,F,J,pL,aM,Z]
 ·try simp only[h11,A,B,C,E,F,J]
  refine W2 h ?_ (by kernel_rfl);try simp only[h11,A,B,C,E,F,J,pL,aM,Z]
def SX:Hw:=([(22,[0,3],[],[])],[])
def Ye:=fun(k_:P→(N V)→O (N V))=>∀{v6 v7} {zr},k_ v6 v7=H zr→Kh Y 147 SX 22 [0,3] [] [] ⟨[pI 0 v6,(3,vc (aS v7))],[],[]⟩ (A9 [2] [.sc (.v (.str zr))])
theorem vU{rec_:P→O (N V)}(h_rec:∀(a0:P) zr,rec_ a0=H zr→FC Y 147 [.sc (.int .i64 a0)] [.sc (.v (.str zr))]){n:U}:Ye (N1 rec_ n):=by
 induction n with
 | zero=>intro _ _ r h; cases h
 | succ n ih=>
  intro v6 v7 r h σ hσ;rw[N1] at h;have:Ct 147 _:=⟨h_rec⟩;have s0:= @Ay (X r8 ([(IntKind.u8.wrap (zH .i64 ((48:P)+(zH .i64 (Int.tmod v6 (10:P))))))]:N P));have s1:= @Ay (X r8 ([(IntKind.u8.wrap (zH .i64 ((48:P)+v6)))]:N P));exact gc
theorem rv(rec_:P→O (N V))(a0:P)(r:(N V))(h_rec:∀(a0:P) zr,rec_ a0=H zr→FC Y 147 [.sc (.int .i64 a0)] [.sc (.v (.str zr))])(h:P2 rec_ a0=H r):FC Y 147 [.sc (.int .i64 a0)] [.sc (.v (.str r))]:=by
 unfold P2 at h;refine A5 mixed SX [2] 44 ?_;intro S hS;refine ev hS ?_;simp only[A,B,C,E,F,J];obtain⟨h1,h⟩|⟨h1,h⟩:=ic h
 ·obtain⟨h2,h⟩|⟨h2,h⟩:=ic h
  ·try simp only[h1,h2,A,B,C,E,F,J]
   refine B3 (es:=X r8 ([(IntKind.u8.wrap (zH .i64 ((48:P) - a0)))]:N P)) ?_;obtain⟨h3,h⟩:=AQ h;try simp only[h1,h2,h3,A,B,C,E,F,J]
   cases h;exact t0
  ·try simp only[h1,h2,A,B,C,E,F,J]
   refine At ?_;obtain⟨r4,h4,h⟩:=ob h;try simp only[h1,h2,A,B,C,E,F,J]
   refine Cs (h_rec _ _ h4) ?_;try simp only[h1,h2,A,B,C,E,F,J]
   refine P8 (m:= .row 22 1 (X r8 ([(IntKind.u8.wrap (zH .i64 ((48:P) - (zH .i64 (Int.tmod a0 (10:P))))))]:N P))) W W (PG W) ?_;obtain⟨h5,h⟩:=AQ h;try simp only[h1,h2,h5,A,B,C,E,F,J]
   cases h;exact t0
 ·try simp only[h1,A,B,C,E,F,J]
  refine vU h_rec h ?_ (by kernel_rfl);try simp only[h1,A,B,C,E,F,J,pL,aM,Z]
theorem rx:∀(n:U) (a0:P) (r:(N V)),KP n a0=H r→FC Y 147 [.sc (.int .i64 a0)] [.sc (.v (.str r))]:=by
 intro n
 induction n with
 | zero=>intro _ r h; cases h
 | succ n ih=>intro a0 r h; rw[KP] at h; exact rv (KP n) a0 r ih h
theorem ru{a0}{r}(h:P1 a0=H r):FC Y 147 [.sc (.int .i64 a0)] [.sc (.v (.str r))]:=rx bigN a0 r h
theorem dT:AD Y 124=H ((Bp Y 124 h0).strip,[.c 4 T 6],21):=by kernel_rfl
theorem sG{a0}{a1}{r}(h:IG a0 a1=H r):FCy Y 124 [.p,.d (.sc (.int .i64 a1))] [.sl (X r8 a0.b),.int .i64 a0.i,.int .i64 a0.h] [.sl (X r8 r.2.b),.int .i64 r.2.i,.int .i64 r.2.h] [.ag [.v (.str r.1.Name),.v (.int .i64 r.1.Length),.v (.int .i64 r.1.Draught),.v (.int .i64 r.1.Line),.v (.int .i64 r.1.Tugs),.v (.bool r.1.Slow)]]:=by
 unfold IG at h;refine CF (σ:=⟨[(0,vc (.pb 99999999999 0)),(1,vc (aI a1))],[(99999999999,[aL (X r8 a0.b),aI a0.i,aI a0.h])],[]⟩) mixed dT W W ?_;refine Bv h0 ?_;intro S hS;refine ev hS ?_;try simp only[A,B,C,E,F,J]
 refine AK ?_;obtain⟨r1,h1,h⟩:=ob h;try simp only[A,B,C,E,F,J]
 refine AM (ru h1) ?_;obtain⟨h2,h⟩:=AQ h;obtain⟨r3,h3,h⟩:=ob h;try simp only[h2,A,B,C,E,F,J]
 refine Aq (AW h3) 99999999999 ?_;obtain⟨r4,h4,h⟩:=ob h;try simp only[h2,A,B,C,E,F,J]
 refine Aq (AW h4) 99999999999 ?_;obtain⟨r5,h5,h⟩:=ob h;try simp only[h2,A,B,C,E,F,J]
 refine Aq (AW h5) 99999999999 ?_;obtain⟨r6,h6,h⟩:=ob h;try simp only[h2,A,B,C,E,F,J]
 refine Aq (AW h6) 99999999999 ?_;obtain⟨r7,h7,h⟩:=ob h;try simp only[h2,A,B,C,E,F,J]
 refine Aq (Gd h7) 99999999999 ?_;try simp only[h2,A,B,C,E,F,J]
 cases h;try simp only[Cj,A,B,C,E,F,J]
 trivial
def Pn:Hw:=([(8,[0,5,6],[99999999999],[448])],[])
def Yk:=fun(k_:P→(N P)→P→P→(N X9)→O ((N X9) × X4))=>∀{v2 v3 v4 v5 v6} {zr},k_ v2 v3 v4 v5 v6=H zr→Kh Y 81 Pn 8 [0,5,6] [99999999999] [448] ⟨[(0,vc (.pb 99999999999 0)),pW 5 448,pI 6 v2],[(99999999999,[aM r8 v3,aI v4,aI v5])],[(448,6,X X9.row v6)]⟩ (Jn [4] [.sc (.o 6 (X X9.row zr.1))] [.sl (X r8 zr.2.b),.int .i64 zr.2.i,.int .i64 zr.2.h])
theorem vV{n:U}:Yk (He n):=by
 induction n with
 | zero=>intro _ _ _ _ _ r h; cases h
 | succ n ih=>
  intro v2 v3 v4 v5 v6 r h σ hσ S hS;refine ev hS ?_;rw[He] at h;refine AP (Aw ?_);obtain⟨h7,h⟩|⟨h7,h⟩:=ic h
  ·obtain⟨r9,h9,h⟩:=ob h;try simp only[hσ,h7,A,B,C,E,F,J]
   refine Aq (sG h9) 99999999999 ?_;try simp only[h7,A,B,C,E,F,J]
   refine B3 (es:=X X9.row ([r9.1]:N X9)) ?_;obtain⟨h10,h⟩:=AQ h;try simp only[h7,h10,A,B,C,E,F,J]
   refine ih h ?_ (by kernel_rfl);try simp only[h7,h10,A,B,C,E,F,J,pL,aM,Z]
  ·try simp only[hσ,h7,A,B,C,E,F,J]
   cases h;trivial
theorem dU:AD Y 81=H ((Bp Y 81 Pn).strip,[4],24):=by kernel_rfl
theorem sF{a0}{a1}{r}(h:KW a0 a1=H r):FCo Y 81 [.p,.d (.sc (.int .i64 a1))] [.sl (X r8 a0.b),.int .i64 a0.i,.int .i64 a0.h] [.sl (X r8 r.2.b),.int .i64 r.2.i,.int .i64 r.2.h] [.sc (.o 6 (X X9.row r.1))]:=by
 unfold KW at h;refine QA (σ:=⟨[(0,vc (.pb 99999999999 0)),(1,vc (aI a1))],[(99999999999,[aL (X r8 a0.b),aI a0.i,aI a0.h])],[]⟩) mixed dU W W ?_;refine Bv Pn ?_;intro S hS;refine ev hS ?_;try simp only[A,B,C,E,F,J]
 refine B3 (es:=X X9.row ([]:N X9)) ?_;obtain⟨r1,h1,h⟩:=ob h;try simp only[A,B,C,E,F,J]
 refine Aq (AW h1) 99999999999 ?_;try simp only[A,B,C,E,F,J]
 refine vV h ?_ (by kernel_rfl);try simp only[A,B,C,E,F,J,pL,aM,Z]
theorem dV:AD Y 82=H ((Bp Y 82 h0).strip,[.c 2 T 2],8):=by kernel_rfl
theorem sH{a0}{r}(h:KX a0=H r):FCy Y 82 [.p] [.sl (X r8 a0.b),.int .i64 a0.i,.int .i64 a0.h] [.sl (X r8 r.2.b),.int .i64 r.2.i,.int .i64 r.2.h] [.ag [.v (.int .i64 r.1.Gap),.v (.bool r.1.NoMeet)]]:=by
 unfold KX at h;refine CF (σ:=⟨[(0,vc (.pb 99999999999 0))],[(99999999999,[aL (X r8 a0.b),aI a0.i,aI a0.h])],[]⟩) mixed dV W W ?_;refine Bv h0 ?_;intro S hS;refine ev hS ?_;try simp only[A,B,C,E,F,J]
 refine AK ?_;obtain⟨r1,h1,h⟩:=ob h;try simp only[A,B,C,E,F,J]
 refine Aq (AW h1) 99999999999 ?_;obtain⟨r2,h2,h⟩:=ob h;try simp only[A,B,C,E,F,J]
 refine Aq (Gd h2) 99999999999 ?_;try simp only[A,B,C,E,F,J]
 cases h;try simp only[Cj,A,B,C,E,F,J]
 trivial
instance yp:Ct 148 (∀{r},N2=H r→FC Y 148 [] [.sc (.o 1 (X rI r))]):=by
 refine⟨fun h=> ?_⟩;unfold N2 at h;refine A5 mixed h0 [0] 2 ?_;have s0:= @IY _ rI (0:P);exact gc
def Po:Hw:=([(8,[0,3,7,8],[99999999999],[320])],[(26,0,(L,.frz 320))])
def Yl:=fun(r1:(N P)) (k_:P→(N P)→P→P→(N P)→O ((N P) × X4))=>∀{v2 v3 v4 v5 v6} {zr},k_ v2 v3 v4 v5 v6=H zr→Kh Y 125 Po 8 [0,3,7,8] [99999999999] [320] ⟨[(0,vc (.pb 99999999999 0)),pW 3 320,pI 7 (r1.length:P),pI 8 v2],[(99999999999,[aM r8 v3,aI v4,aI v5])],[(320,1,X rI v6)]⟩ (Fe [2] [.sc (.v (.sl (X rI zr.1)))] [.sl (X r8 zr.2.b),.int .i64 zr.2.i,.int .i64 zr.2.h])
theorem vW{r1}{n:U}:Yl r1 (FN r1 n):=by
 induction n with
 | zero=>intro _ _ _ _ _ r h; cases h
 | succ n ih=>
  intro v2 v3 v4 v5 v6 r h σ hσ S hS;refine ev hS ?_;rw[FN] at h;refine AP (Aw ?_);obtain⟨h7,h⟩|⟨h7,h⟩:=ic h
  ·obtain⟨h8,h⟩|⟨h8,h⟩:=ic h
   ·obtain⟨r9,h9,h⟩:=ob h;try simp only[hσ,h7,h8,A,B,C,E,F,J]
    refine Aq (AW h9) 99999999999 ?_;obtain⟨x10,h10,h⟩:=ob h;have h10n:=AJ h10;try simp only[h7,h8,h10,A,B,C,E,F,J]
    refine Cw (row:=rI) (y:=(zH .i64 ((5:P)*r9.1))) W W h10n W W (by rfl) ?_;try simp only[h7,h8,h10,A,B,C,E,F,J]
    refine ih h ?_ (by kernel_rfl);try simp only[h7,h8,h10,A,B,C,E,F,J,pL,aM,Z]
   ·try simp only[hσ,h7,h8,A,B,C,E,F,J]
    refine ih h ?_ (by kernel_rfl);try simp only[h7,h8,A,B,C,E,F,J,pL,aM,Z]
  ·try simp only[hσ,h7,A,B,C,E,F,J]
   refine C3 ?_;try simp only[h7,A,B,C,E,F,J]
   cases h;exact t0
theorem dW:AD Y 125=H ((Bp Y 125 Po).strip,[2],22):=by kernel_rfl
theorem sI{a0}{r}(h:KY a0=H r):FCy Y 125 [.p] [.sl (X r8 a0.b),.int .i64 a0.i,.int .i64 a0.h] [.sl (X r8 r.2.b),.int .i64 r.2.i,.int .i64 r.2.h] [.sc (.v (.sl (X rI r.1)))]:=by
 unfold KY at h;refine CF (σ:=⟨[(0,vc (.pb 99999999999 0))],[(99999999999,[aL (X r8 a0.b),aI a0.i,aI a0.h])],[]⟩) mixed dW W W ?_;refine Bv Po ?_;have k0:= @vW;exact gc
theorem dY:AD Y 83=H ((Bp Y 83 h0).strip,[.c 2 T 4],14):=by kernel_rfl
theorem sJ{a0}{r}(h:KZ a0=H r):FCy Y 83 [.p] [.sl (X r8 a0.b),.int .i64 a0.i,.int .i64 a0.h] [.sl (X r8 r.2.b),.int .i64 r.2.i,.int .i64 r.2.h] [.ag [.v (.int .i64 r.1.Tugs),.v (.int .i64 r.1.Pilots),.v (.int .i64 r.1.Rest),.v (.sl (X rI r.1.Moves))]]:=by
 unfold KZ at h;refine CF (σ:=⟨[(0,vc (.pb 99999999999 0))],[(99999999999,[aL (X r8 a0.b),aI a0.i,aI a0.h])],[]⟩) mixed dY W W ?_;refine Bv h0 ?_;intro S hS;refine ev hS ?_;try simp only[A,B,C,E,F,J]
 refine AK ?_;obtain⟨r1,h1,h⟩:=ob h;try simp only[A,B,C,E,F,J]
 refine Aq (AW h1) 99999999999 ?_;obtain⟨r2,h2,h⟩:=ob h;try simp only[A,B,C,E,F,J]
 refine Aq (AW h2) 99999999999 ?_;obtain⟨r3,h3,h⟩:=ob h;try simp only[A,B,C,E,F,J]
 refine Aq (AW h3) 99999999999 ?_;obtain⟨r4,h4,h⟩:=ob h;try simp only[A,B,C,E,F,J]
 refine Aq (sI h4) 99999999999 ?_;try simp only[A,B,C,E,F,J]
 cases h;try simp only[Cj,A,B,C,E,F,J]
 trivial
def Pp:Hw:=([(10,[0,2,3,26,27],[99999999999,2,3],[640])],[(24,0,(L,.frz 640))])
def Yn:=fun(r3:(N X9) × X4) (r5:Xo × X4) (r1:Xd × X4) (r2:X5 × X4) (r4:Xl × X4) y7 (k_:P→(N X9)→O (X3 × X4))=>∀{v6 v8} {zr},k_ v6 v8=H zr→Kh Y 38 Pp 10 [0,2,3,26,27] [99999999999,2,3] [640] ⟨[(0,vc (.pb 99999999999 0)),pB 2,pB 3,pI 26 (r3.1.length:P),pI 27 v6],[(99999999999,(dm r5.2.row)),(2,[aI (0:P),.nil,.nil,.nil,.nil,.nil,aI (0:P),aB G,aI (0:P),aI (0:P),aI (0:P),.nil]),(3,([aI y7,aM zA r1.1.Tide.Parts,aM zC r1.1.Surges,aM zB r2.1.Points,aM X1.row r2.1.Segments,.own 640,aI r4.1.Gap,aB r4.1.NoMeet]++dm r5.1.row))],[(640,6,X X9.row v8)]⟩ (Fe [.c 2 T 12] [.ag [.v (.int .i64 zr.1.Forecast.Tide.Mean),.v (.sl (X zA zr.1.Forecast.Tide.Parts)),.v (.sl (X zC zr.1.Forecast.Surges)),.v (.sl (X zB zr.1.Chart.Points)),.v (.sl (X X1.row zr.1.Chart.Segments)),.v (.sl (X X9.row zr.1.Fleet)),.v (.int .i64 zr.1.Regime.Gap),.v (.bool zr.1.Regime.NoMeet),.v (.int .i64 zr.1.Crew.Tugs),.v (.int .i64 zr.1.Crew.Pilots),.v (.int .i64 zr.1.Crew.Rest),.v (.sl (X rI zr.1.Crew.Moves))]] [.sl (X r8 zr.2.b),.int .i64 zr.2.i,.int .i64 zr.2.h])
theorem vX{r3 r5 r1 r2 r4 y7}{n:U}:Yn r3 r5 r1 r2 r4 y7 (Hf r3 r5 r1 r2 r4 y7 n):=by
 induction n with
 | zero=>intro _ _ r h; cases h
 | succ n ih=>
  intro v6 v8 r h σ hσ S hS;refine ev hS ?_;rw[Hf] at h;refine AP (Aw ?_);obtain⟨h9,h⟩|⟨h9,h⟩:=ic h
  ·try simp only[hσ,h9,A,B,C,E,F,J]
   refine At ?_;obtain⟨x10,h10,h⟩:=ob h;have h10n:=AJ h10;try simp only[h9,h10,h10n,A,B,C,E,F,J]
   refine Cw (row:=X9.row) (y:=(⟨x10.Name,x10.Length,x10.Draught,x10.Line,(if(1:P)<x10.Tugs then(1:P) else x10.Tugs),x10.Slow⟩:X9)) W W h10n W W (by rfl) ?_;try simp only[h9,h10,h10n,A,B,C,E,F,J]
   refine At ?_;try simp only[h9,h10,h10n,A,B,C,E,F,J]
   refine ih h ?_ (by kernel_rfl);try simp only[h9,h10,h10n,A,B,C,E,F,J,pL,aM,Z]
  ·try simp only[hσ,h9,A,B,C,E,F,J]
   refine C3 ?_;try simp only[h9,A,B,C,E,F,J]
   cases h;try simp only[Cj,A,B,C,E,F,J]
   trivial
theorem dZ:AD Y 38=H ((Bp Y 38 Pp).strip,[.c 2 T 12],44):=by kernel_rfl
theorem sL{a0}{r}(h:L1 a0=H r):FCy Y 38 [.p] [.sl (X r8 a0.b),.int .i64 a0.i,.int .i64 a0.h] [.sl (X r8 r.2.b),.int .i64 r.2.i,.int .i64 r.2.h] [.ag [.v (.int .i64 r.1.Forecast.Tide.Mean),.v (.sl (X zA r.1.Forecast.Tide.Parts)),.v (.sl (X zC r.1.Forecast.Surges)),.v (.sl (X zB r.1.Chart.Points)),.v (.sl (X X1.row r.1.Chart.Segments)),.v (.sl (X X9.row r.1.Fleet)),.v (.int .i64 r.1.Regime.Gap),.v (.bool r.1.Regime.NoMeet),.v (.int .i64 r.1.Crew.Tugs),.v (.int .i64 r.1.Crew.Pilots),.v (.int .i64 r.1.Crew.Rest),.v (.sl (X rI r.1.Crew.Moves))]]:=by
 unfold L1 at h;refine CF (σ:=⟨[(0,vc (.pb 99999999999 0))],[(99999999999,[aL (X r8 a0.b),aI a0.i,aI a0.h])],[]⟩) mixed dZ W W ?_;refine Bv Pp ?_;intro S hS;refine ev hS ?_;try simp only[A,B,C,E,F,J]
 refine AK ?_;obtain⟨r1,h1,h⟩:=ob h;try simp only[A,B,C,E,F,J]
 refine Aq (sD h1) 99999999999 ?_;obtain⟨r2,h2,h⟩:=ob h;try simp only[A,B,C,E,F,J]
 refine Aq (sE h2) 99999999999 ?_;obtain⟨r3,h3,h⟩:=ob h;try simp only[A,B,C,E,F,J]
 refine Sl (sF h3) 99999999999 W W W W ?_;obtain⟨r4,h4,h⟩:=ob h;try simp only[A,B,C,E,F,J]
 refine Aq (sH h4) 99999999999 ?_;obtain⟨r5,h5,h⟩:=ob h;try simp only[A,B,C,E,F,J]
 refine Aq (sJ h5) 99999999999 ?_;try simp only[A,B,C,E,F,J]
 refine AK ?_;try simp only[A,B,C,E,F,J]
 refine vX h ?_ (by kernel_rfl);try simp only[A,B,C,E,F,J,pL,aM,Z]
def Qw:N (N U × AItem):= [([],(L,.faddr 15 (S 5) 3)),([0],(L,.load 16 (S 15) G 1)),([1],(L,.bin 17 .add (S 16) (K 60))),([],(L,.mv 18 (S 0))),([3],(L,.call 19 84 [(S 18),(K 400)])),([2,4],(L,.bin 20 .add (S 17) (S 19))),([0,1,2,3,4,5],(L,.faddr 21 (S 5) 4)),([6,5,4,0,1,2,3,4,5],(L,.store (S 21) (S 20) 1))]
def Pq:Hw:=([(12,[0,4,5],[99999999999,4,5],[])],[])
abbrev F8(v6:P)(r7:P × X4)(c0_ c1_:Q)(c2_ c3_:Q)(c4_ c5_ c6_:Q)(bx_:N (U × N AC))(rs_:Rows):St:=⟨[(0,vc (.pb 99999999999 0)),(4,vc (.pb 4 0)),(5,vc (.pb 5 0)),(15,bif c0_ then vc (.pb 5 3) else .undef),(16,bif c1_ then vc (aI v6) else .undef),(17,bif c2_ then vc (aI (zH .i64 (v6+(60:P)))) else .undef),(18,bif c3_ then vc (.pb 99999999999 0) else .undef),(19,bif c4_ then vc (aI r7.1) else .undef),(20,bif c5_ then vc (aI (zH .i64 ((zH .i64 (v6+(60:P)))+r7.1))) else .undef),(21,bif c6_ then vc (.pb 5 4) else .undef)],bx_,rs_⟩
abbrev LV(a1 v4:P)(v5 v6:P)(r7:P × X4):St:=(F8 v6 r7 T T T T T T T [(99999999999,(dm r7.2.row)),(4,[aI (0:P),aI (0:P),aI (0:P),aI (0:P),aI (0:P)]),(5,[aI a1,aI v4,aI v5,aI v6,aI (zH .i64 ((zH .i64 (v6+(60:P)))+r7.1))])] [])
theorem vY(r2:Q × X4)(a1)(v4)(v5)(v6)(r7)(h7:An r2.2 (400:P)=H r7):∀(f:U),Af Y Qw (LV a1 v4 v5 v6 r7) f [T,T,T,T,T,T,T,T] (F8 v6 r7 T T T T T T T [(99999999999,(dm r7.2.row)),(4,[aI (0:P),aI (0:P),aI (0:P),aI (0:P),aI (0:P)]),(5,[aI a1,aI v4,aI v5,aI v6,aI (zH .i64 ((zH .i64 (v6+(60:P)))+r7.1))])] []):=by
 intro f
 induction f with
 | zero=>intro h; rfl
 | succ f ih=>
  refine Aj ⟨?_,?_,?_,?_,?_,?_,?_,?_,⟨⟩⟩<;>try first | (intro h; cases h; done)
theorem vZ(r2:Q × X4)(a1)(v4)(v5)(v6)(r7)(h7:An r2.2 (400:P)=H r7):∀(f:U) (b0 b1:Q) (b2 b5 b6:Q),Af Y Qw (LV a1 v4 v5 v6 r7) f [b0,b1,b2,T,T,b5,b6,G] (F8 v6 r7 b0 b1 b2 T T b5 b6 [(99999999999,(dm r7.2.row)),(4,[aI (0:P),aI (0:P),aI (0:P),aI (0:P),aI (0:P)]),(5,[aI a1,aI v4,aI v5,aI v6,aI (0:P)])] []):=by
 intro f
 induction f with
 | zero=>intro b0 b1 b2 b5 b6 h; simp at h
 | succ f ih=>
  intro b0 b1 b2 b5 b6;refine Aj ⟨?_,?_,?_,?_,?_,?_,?_,?_,⟨⟩⟩<;>try first | (intro h; cases h; done) | (intro h0 hw; obtain rfl:=hz h0 rfl; (try obtain rfl:=hq hw 0 rfl rfl); (try obtain rfl:=hq hw 1 rfl rfl); (try obtain rfl:=hq hw 2 rfl rfl); (try obtain rfl:=hq hw 5 rfl rfl); refine np ?_; simp only[F8,A3,A6,A2,A,B,C,E,F,J]; exact ih _ _ _ _ _)
  ·intro h0 hw;obtain rfl:=hq hw 0 rfl rfl;obtain rfl:=hq hw 1 rfl rfl;obtain rfl:=hq hw 2 rfl rfl;obtain rfl:=hq hw 5 rfl rfl;obtain rfl:=hq hw 6 rfl rfl;refine np ?_;try simp only[F8,A3,A6,A2,A,B,C,E,F,J]
   exact vY r2 a1 v4 v5 v6 r7 h7 _
theorem vb(r2:Q × X4)(a1)(v4)(v5)(v6)(r7)(h7:An r2.2 (400:P)=H r7):∀(f:U) (b0 b1:Q) (b2 b3:Q),Af Y Qw (LV a1 v4 v5 v6 r7) f [b0,b1,b2,b3,G,G,G,G] (F8 v6 r7 b0 b1 b2 b3 G G G [(99999999999,(dm r2.2.row)),(4,[aI (0:P),aI (0:P),aI (0:P),aI (0:P),aI (0:P)]),(5,[aI a1,aI v4,aI v5,aI v6,aI (0:P)])] []):=by
 intro f
 induction f with
 | zero=>intro b0 b1 b2 b3 h; simp at h
 | succ f ih=>
  intro b0 b1 b2 b3;refine Aj ⟨?_,?_,?_,?_,?_,?_,?_,?_,⟨⟩⟩<;>try first | (intro _ hw; simp at hw; done) | (intro h0 hw; obtain rfl:=hz h0 rfl; (try obtain rfl:=hq hw 0 rfl rfl); (try obtain rfl:=hq hw 1 rfl rfl); refine np ?_; simp only[F8,A3,A6,A2,A,B,C,E,F,J]; exact ih _ _ _ _)
  ·intro h0 hw;obtain rfl:=hq hw 3 rfl rfl;refine np ?_;try simp only[F8,A3,A6,A2,A,B,C,E,F,J]
   refine Aq (AW h7) 99999999999 ?_;try simp only[A2,A,B,C,E,F,J]
   exact vZ r2 a1 v4 v5 v6 r7 h7 _ b0 b1 b2 G G
def Ym:=fun(r2:Q × X4) a1 (k_:P→P→P→O (X7 × X4))=>∀{v4 v5 v6} {zr},k_ v4 v5 v6=H zr→Kh Y 40 Pq 12 [0,4,5] [99999999999,4,5] [] ⟨[(0,vc (.pb 99999999999 0)),pB 4,pB 5],[(99999999999,(dm r2.2.row)),(4,[aI (0:P),aI (0:P),aI (0:P),aI (0:P),aI (0:P)]),(5,[aI a1,aI v4,aI v5,aI v6,aI (0:P)])],[]⟩ (Fe [.c 4 T 5] [.ag [.v (.int .i64 zr.1.Ship),.v (.int .i64 zr.1.From),.v (.int .i64 zr.1.To),.v (.int .i64 zr.1.Ready),.v (.int .i64 zr.1.Due)]] [.sl (X r8 zr.2.b),.int .i64 zr.2.i,.int .i64 zr.2.h])
theorem W3{r2 a1}:Ym r2 a1 (L0 r2 a1):=by
 intro v4 v5 v6 r h σ hσ S hS;refine ev hS ?_;refine Aw ?_;unfold L0 at h;try simp only[hσ,A,B,C,E,F,J]
 obtain⟨r7,h7,h⟩:=ob h;refine D3 (ks:= [0,4,5]) (bs:= [99999999999,4,5]) (rs:= []) (τ:=(LV a1 v4 v5 v6 r7)) W (vb r2 a1 v4 v5 v6 r7 h7 _ G G G G) ?_;simp only[LV,F8,A3];try simp only[A,B,C,E,F,J]
 cases h;try simp only[Cj,A,B,C,E,F,J]
 trivial
theorem da:AD Y 40=H ((Bp Y 40 Pq).strip,[.c 4 T 5],23):=by kernel_rfl
theorem sK{a0}{a1}{r}(h:IH a0 a1=H r):FCy Y 40 [.p,.d (.sc (.int .i64 a1))] [.sl (X r8 a0.b),.int .i64 a0.i,.int .i64 a0.h] [.sl (X r8 r.2.b),.int .i64 r.2.i,.int .i64 r.2.h] [.ag [.v (.int .i64 r.1.Ship),.v (.int .i64 r.1.From),.v (.int .i64 r.1.To),.v (.int .i64 r.1.Ready),.v (.int .i64 r.1.Due)]]:=by
 unfold IH at h;refine CF (σ:=⟨[(0,vc (.pb 99999999999 0)),(1,vc (aI a1))],[(99999999999,[aL (X r8 a0.b),aI a0.i,aI a0.h])],[]⟩) mixed da W W ?_;refine Bv Pq ?_;intro S hS;refine ev hS ?_;try simp only[A,B,C,E,F,J]
 refine AK ?_;obtain⟨r1,h1,h⟩:=ob h;try simp only[A,B,C,E,F,J]
 refine Aq (AW h1) 99999999999 ?_;try simp only[A,B,C,E,F,J]
 refine AK ?_;obtain⟨r2,h2,h⟩:=ob h;try simp only[A,B,C,E,F,J]
 refine Aq (Gd h2) 99999999999 ?_;obtain⟨h3,h⟩|⟨h3,h⟩:=ic h
 ·try simp only[h3,A,B,C,E,F,J]
  refine W3 h ?_ (by kernel_rfl);try simp only[h3,A,B,C,E,F,J,pL,aM,Z]
 ·try simp only[h3,A,B,C,E,F,J]
  refine W3 h ?_ (by kernel_rfl);try simp only[h3,A,B,C,E,F,J,pL,aM,Z]
def Nk:Hw:=([(10,[0,2,4,5,12,13],[99999999999,2,4],[576]),(23,[0,2,4,5,6,12,13,22],[99999999999,2,4],[576])],[])
def Yo:=fun v2 (r1:X3 × X4) v6 (k_:Q→(N P)→P→P→O (X3 × (N X7) × X4))=>∀{v10 v11 v12 v13} {zr},k_ v10 v11 v12 v13=H zr→Kh Y 13 Nk 23 [0,2,4,5,6,12,13,22] [99999999999,2,4] [576] ⟨[(0,vc (.pb 99999999999 0)),pB 2,pB 4,pW 5 576,pI 6 v2,pI 12 (r1.1.Fleet.length:P),pI 13 v2,(22,vc (aB v10))],[(99999999999,[aM r8 v11,aI v12,aI v13]),(2,[aI (0:P),.nil,.nil,.nil,.nil,.nil,aI (0:P),aB G,aI (0:P),aI (0:P),aI (0:P),.nil]),(4,(dm r1.1.row))],[(576,5,X X7.row v6)]⟩ (Jn [.c 2 T 12,3] [.ag [.v (.int .i64 zr.1.Forecast.Tide.Mean),.v (.sl (X zA zr.1.Forecast.Tide.Parts)),.v (.sl (X zC zr.1.Forecast.Surges)),.v (.sl (X zB zr.1.Chart.Points)),.v (.sl (X X1.row zr.1.Chart.Segments)),.v (.sl (X X9.row zr.1.Fleet)),.v (.int .i64 zr.1.Regime.Gap),.v (.bool zr.1.Regime.NoMeet),.v (.int .i64 zr.1.Crew.Tugs),.v (.int .i64 zr.1.Crew.Pilots),.v (.int .i64 zr.1.Crew.Rest),.v (.sl (X rI zr.1.Crew.Moves))],.sc (.o 5 (X X7.row zr.2.1))] [.sl (X r8 zr.2.2.b),.int .i64 zr.2.2.i,.int .i64 zr.2.2.h])
def QW:=fun(r1:X3 × X4) (k_:P→(N P)→P→P→(N X7)→O (X3 × (N X7) × X4))=>∀{v2 v3 v4 v5 v6} {zr},k_ v2 v3 v4 v5 v6=H zr→Kh Y 13 Nk 10 [0,2,4,5,12,13] [99999999999,2,4] [576] ⟨[(0,vc (.pb 99999999999 0)),pB 2,pB 4,pW 5 576,pI 12 (r1.1.Fleet.length:P),pI 13 v2],[(99999999999,[aM r8 v3,aI v4,aI v5]),(2,[aI (0:P),.nil,.nil,.nil,.nil,.nil,aI (0:P),aB G,aI (0:P),aI (0:P),aI (0:P),.nil]),(4,(dm r1.1.row))],[(576,5,X X7.row v6)]⟩ (Jn [.c 2 T 12,3] [.ag [.v (.int .i64 zr.1.Forecast.Tide.Mean),.v (.sl (X zA zr.1.Forecast.Tide.Parts)),.v (.sl (X zC zr.1.Forecast.Surges)),.v (.sl (X zB zr.1.Chart.Points)),.v (.sl (X X1.row zr.1.Chart.Segments)),.v (.sl (X X9.row zr.1.Fleet)),.v (.int .i64 zr.1.Regime.Gap),.v (.bool zr.1.Regime.NoMeet),.v (.int .i64 zr.1.Crew.Tugs),.v (.int .i64 zr.1.Crew.Pilots),.v (.int .i64 zr.1.Crew.Rest),.v (.sl (X rI zr.1.Crew.Moves))],.sc (.o 5 (X X7.row zr.2.1))] [.sl (X r8 zr.2.2.b),.int .i64 zr.2.2.i,.int .i64 zr.2.2.h])
theorem W4{v2 r1 v6}{Lv}(T9:QW r1 Lv):Yo v2 r1 v6 (FO v2 r1 v6 Lv):=by
 intro v10 v11 v12 v13 r h σ hσ S hS;refine ev hS ?_;refine Aw ?_;unfold FO at h;obtain⟨h14,h⟩|⟨h14,h⟩:=ic h
 ·obtain⟨r15,h15,h⟩:=ob h;try simp only[hσ,h14,A,B,C,E,F,J]
  refine Aq (sK h15) 99999999999 ?_;try simp only[h14,A,B,C,E,F,J]
  refine B3 (es:=X X7.row ([r15.1]:N X7)) ?_;obtain⟨h16,h⟩:=AQ h;try simp only[h14,h16,A,B,C,E,F,J]
  refine T9 h ?_ (by kernel_rfl);try simp only[h14,h16,A,B,C,E,F,J,pL,aM,Z]
 ·try simp only[hσ,h14,A,B,C,E,F,J]
  refine T9 h ?_ (by kernel_rfl);try simp only[h14,A,B,C,E,F,J,pL,aM,Z]
theorem vd{r1}{n:U}:QW r1 (DC r1 n):=by
 induction n with
 | zero=>intro _ _ _ _ _ r h; cases h
 | succ n ih=>
  intro v2 v3 v4 v5 v6 r h σ hσ S hS;refine ev hS ?_;rw[DC] at h;refine AP (Aw ?_);obtain⟨h7,h⟩|⟨h7,h⟩:=ic h
  ·obtain⟨h8,h⟩|⟨h8,h⟩:=ic h
   ·try simp only[hσ,h7,h8,A,B,C,E,F,J]
    refine W4 ih h ?_ (by kernel_rfl);try simp only[h7,h8,A,B,C,E,F,J,pL,aM,Z]
   ·obtain⟨r9,h9,h⟩:=ob h;try simp only[hσ,h7,h8,A,B,C,E,F,J]
    refine Aq (Gd h9) 99999999999 ?_;try simp only[h7,h8,A,B,C,E,F,J]
    refine W4 ih h ?_ (by kernel_rfl);try simp only[h7,h8,A,B,C,E,F,J,pL,aM,Z]
  ·try simp only[hσ,h7,A,B,C,E,F,J]
   cases h;try simp only[Cj,A,B,C,E,F,J]
   trivial
theorem dc:AD Y 13=H ((Bp Y 13 Nk).strip,[.c 2 T 12,3],32):=by kernel_rfl
theorem sM{a0}{r}(h:N3 a0=H r):FCo Y 13 [.p] [.sl (X r8 a0.b),.int .i64 a0.i,.int .i64 a0.h] [.sl (X r8 r.2.2.b),.int .i64 r.2.2.i,.int .i64 r.2.2.h] [.ag [.v (.int .i64 r.1.Forecast.Tide.Mean),.v (.sl (X zA r.1.Forecast.Tide.Parts)),.v (.sl (X zC r.1.Forecast.Surges)),.v (.sl (X zB r.1.Chart.Points)),.v (.sl (X X1.row r.1.Chart.Segments)),.v (.sl (X X9.row r.1.Fleet)),.v (.int .i64 r.1.Regime.Gap),.v (.bool r.1.Regime.NoMeet),.v (.int .i64 r.1.Crew.Tugs),.v (.int .i64 r.1.Crew.Pilots),.v (.int .i64 r.1.Crew.Rest),.v (.sl (X rI r.1.Crew.Moves))],.sc (.o 5 (X X7.row r.2.1))]:=by
 unfold N3 at h;refine QA (σ:=⟨[(0,vc (.pb 99999999999 0))],[(99999999999,[aL (X r8 a0.b),aI a0.i,aI a0.h])],[]⟩) mixed dc W W ?_;refine Bv Nk ?_;intro S hS;refine ev hS ?_;try simp only[A,B,C,E,F,J]
 refine AK ?_;obtain⟨r1,h1,h⟩:=ob h;try simp only[A,B,C,E,F,J]
 refine Aq (sL h1) 99999999999 ?_;try simp only[A,B,C,E,F,J]
 refine AK ?_;try simp only[A,B,C,E,F,J]
 refine B3 (es:=X X7.row ([]:N X7)) ?_;try simp only[A,B,C,E,F,J]
 refine vd h ?_ (by kernel_rfl);try simp only[A,B,C,E,F,J,pL,aM,Z]
instance ry:Ct 4 (∀{a0} {r},KQ a0=H r→FC Y 4 [.sc (.sl (X r8 a0))] [.ag [.v (.int .i64 r.1.Forecast.Tide.Mean),.v (.sl (X zA r.1.Forecast.Tide.Parts)),.v (.sl (X zC r.1.Forecast.Surges)),.v (.sl (X zB r.1.Chart.Points)),.v (.sl (X X1.row r.1.Chart.Segments)),.v (.sl (X X9.row r.1.Fleet)),.v (.int .i64 r.1.Regime.Gap),.v (.bool r.1.Regime.NoMeet),.v (.int .i64 r.1.Crew.Tugs),.v (.int .i64 r.1.Crew.Pilots),.v (.int .i64 r.1.Crew.Rest),.v (.sl (X rI r.1.Crew.Moves))],.sc (.o 5 (X X7.row r.2))]):=by
 refine⟨fun{a0} {r} h=> ?_⟩;unfold KQ at h;refine A5 mixed h0 [.c 2 T 12,3] 9 ?_;intro S hS;refine ev hS ?_;simp only[A,B,C,E,F,J];try simp only[A,B,C,E,F,J]
 refine AK ?_;obtain⟨r1,h1,h⟩:=ob h;try simp only[A,B,C,E,F,J]
 refine fk (rz h1) W W ?_;obtain⟨r2,h2,h⟩:=ob h;try simp only[A,B,C,E,F,J]
 refine Sl (sM h2) 5 W W W W ?_;try simp only[A,B,C,E,F,J]
 cases h;try simp only[Cj,A,B,C,E,F,J]
 trivial
instance yl:Ct 66 (∀{a0} {a1} {a2} {r},Bx a0 a1 a2=H r→FC Y 66 [.sc (.int .i64 a0),.sc (.int .i64 a1),.sc (.int .i64 a2)] [.sc (.v (.bool r))]):=by
 refine⟨fun h=> ?_⟩;unfold Bx at h;refine A5 mixed h0 [6] 15 ?_;exact gc
instance yc:Ct 141 (∀{a0} {r},Iw a0=H r→FC Y 141 [.sc (.int .i64 a0)] [.sc (.v (.bool r))]):=by
 refine⟨fun h=> ?_⟩;unfold Iw at h;refine A5 mixed h0 [2] 10 ?_;exact gc
instance xZ:Ct 116 (∀{a0} {r},K6 a0=H r→FC Y 116 [.ag (zA a0)] [.sc (.v (.bool r))]):=by
 refine⟨fun h=> ?_⟩;unfold K6 at h;refine A5 mixed h0 [2] 19 ?_;exact gc
def SY:Hw:=([(14,[16,17,18],[],[])],[])
def XB:=fun(a0:Xn) (k_:P→O Q)=>∀{v4} {zr},k_ v4=H zr→Kh Y 65 SY 14 [16,17,18] [] [] ⟨[pL 16 zA a0.Parts,pI 17 (a0.Parts.length:P),pI 18 v4],[],[]⟩ (A9 [2] [.sc (.v (.bool zr))])
theorem ve{a0}{n:U}:XB a0 (GW a0 n):=by
 induction n with
 | zero=>intro _ r h; cases h
 | succ n ih=>
  intro v4 r h σ hσ;rw[GW] at h;exact gc
instance xq:Ct 65 (∀{a0} {r},Kr a0=H r→FC Y 65 [.ag (Xn.row a0)] [.sc (.v (.bool r))]):=by
 refine⟨fun h=> ?_⟩;unfold Kr at h;refine A5 mixed SY [2] 26 ?_;have k0:= @ve;exact gc
instance rc:Ct 85 (∀{a0} {r},CI a0=H r→FC Y 85 [.sc (.int .i64 a0)] [.sc (.v (.bool r))]):=by
 refine⟨fun h=> ?_⟩;unfold CI at h;refine A5 mixed h0 [2] 5 ?_;exact gc
instance xp:Ct 67 (∀{a0} {r},Kq a0=H r→FC Y 67 [.ag (zC a0)] [.sc (.v (.bool r))]):=by
 refine⟨fun h=> ?_⟩;unfold Kq at h;refine A5 mixed h0 [2] 23 ?_;exact gc
def SZ:Hw:=([(14,[1,25,26,27],[1],[])],[])
def WD:=fun(a0:Xd) (k_:P→O Q)=>∀{v7} {zr},k_ v7=H zr→Kh Y 30 SZ 14 [1,25,26,27] [1] [] ⟨[pB 1,pL 25 zC a0.Surges,pI 26 (a0.Surges.length:P),pI 27 v7],[(1,(dm a0.row))],[]⟩ (A9 [2] [.sc (.v (.bool zr))])
theorem vf{a0}{n:U}:WD a0 (Fq a0 n):=by
 induction n with
 | zero=>intro _ r h; cases h
 | succ n ih=>
  intro v7 r h σ hσ;rw[Fq] at h;exact gc
instance qt:Ct 30 (∀{a0} {r},EA a0=H r→FC Y 30 [.ag (Xd.row a0)] [.sc (.v (.bool r))]):=by
 refine⟨fun h=> ?_⟩;unfold EA at h;refine A5 mixed SZ [2] 52 ?_;have k0:= @vf;exact gc
def Nl:Hw:=([(14,[0,3],[],[]),(25,[0,3,4],[],[]),(32,[0,3],[],[])],[])
def WK:=fun a0 v3 (k_:O Q)=>∀{zr},k_=H zr→Kh Y 68 Nl 32 [0,3] [] [] ⟨[(0,vc (aS a0)),pI 3 v3],[],[]⟩ (A9 [2] [.sc (.v (.bool zr))])
def WJ:=fun a0 v3 (k_:Q→O Q)=>∀{v7} {zr},k_ v7=H zr→Kh Y 68 Nl 25 [0,3,4] [] [] ⟨[(0,vc (aS a0)),pI 3 v3,(4,vc (aB v7))],[],[]⟩ (A9 [2] [.sc (.v (.bool zr))])
def Og:=fun a0 (k_:P→O Q)=>∀{v3} {zr},k_ v3=H zr→Kh Y 68 Nl 14 [0,3] [] [] ⟨[(0,vc (aS a0)),pI 3 v3],[],[]⟩ (A9 [2] [.sc (.v (.bool zr))])
theorem vg{a0 v3}{E8}(T6:Og a0 E8):WK a0 v3 (JW a0 v3 E8):=by
 intro r h σ hσ;unfold JW at h;have k0:= @T6;exact gc
theorem vh{a0 v3}{E8}(T6:Og a0 E8):WJ a0 v3 (JV a0 v3 E8):=by
 intro v7 r h σ hσ;unfold JV at h;have k0:= @vg;exact gc
theorem vj{a0}{n:U}:Og a0 (Fu a0 n):=by
 induction n with
 | zero=>intro _ r h; cases h
 | succ n ih=>
  intro v3 r h σ hσ;rw[Fu] at h;have k0:= @vh;exact gc
instance xP:Ct 68 (∀{a0} {r},Ih a0=H r→FC Y 68 [.sc (.str a0)] [.sc (.v (.bool r))]):=by
 refine⟨fun h=> ?_⟩;unfold Ih at h;refine A5 mixed Nl [2] 43 ?_;have k0:= @vj;exact gc
def T1:Hw:=([(6,[1,8,9,10],[],[])],[])
def Xt:=fun a1 (a0:X5) (k_:P→O P)=>∀{v1} {zr},k_ v1=H zr→Kh Y 69 T1 6 [1,8,9,10] [] [] ⟨[(1,vc (aS a1)),pL 8 zB a0.Points,pI 9 (a0.Points.length:P),pI 10 v1],[],[]⟩ (A9 [4] [.sc (.v (.int .i64 zr))])
theorem vk{a1 a0}{n:U}:Xt a1 a0 (GQ a1 a0 n):=by
 induction n with
 | zero=>intro _ r h; cases h
 | succ n ih=>
  intro v1 r h σ hσ;rw[GQ] at h;exact gc
instance xc:Ct 69 (∀{a0} {a1} {r},Ke a0 a1=H r→FC Y 69 [.ag (X5.row a0),.sc (.str a1)] [.sc (.v (.int .i64 r))]):=by
 refine⟨fun h=> ?_⟩;unfold Ke at h;refine A5 mixed T1 [4] 21 ?_;have k0:= @vk;exact gc
instance LY:Ct 25 (∀{a0} {a1} {r},B4 a0 a1=H r→FC Y 25 [.sc (.int .i64 a0),.sc (.int .i64 a1)] [.sc (.v (.bool r))]):=by
 refine⟨fun h=> ?_⟩;unfold B4 at h;refine A5 mixed h0 [4] 12 ?_;exact gc
instance xh:Ct 70 (∀{a0} {a1} {a2} {r},Kj a0 a1 a2=H r→FC Y 70 [.ag (X1.row a0),.sc (.int .i64 a1),.sc (.int .i64 a2)] [.sc (.v (.bool r))]):=by
 refine⟨fun h=> ?_⟩;unfold Kj at h;refine A5 mixed h0 [6] 29 ?_;exact gc
def Nm:Hw:=([(14,[1,20,21,22],[1],[]),(37,[1,41,42,43],[1],[]),(59,[1,6,41,42,43,86,87,88],[1,6],[])],[])
def Wv:=fun(a0:X5) v11 (x13:X1) y24 y25 (k_:P→O Q)=>∀{v26} {zr},k_ v26=H zr→Kh Y 31 Nm 59 [1,6,41,42,43,86,87,88] [1,6] [] ⟨[pB 1,pB 6,pL 41 X1.row a0.Segments,pI 42 (a0.Segments.length:P),pI 43 v11,pL 86 X1.row y24,pI 87 y25,pI 88 v26],[(1,(dm a0.row)),(6,(dm x13.row))],[]⟩ (A9 [2] [.sc (.v (.bool zr))])
def QG:=fun(a0:X5) (k_:P→O Q)=>∀{v11} {zr},k_ v11=H zr→Kh Y 31 Nm 37 [1,41,42,43] [1] [] ⟨[pB 1,pL 41 X1.row a0.Segments,pI 42 (a0.Segments.length:P),pI 43 v11],[(1,(dm a0.row))],[]⟩ (A9 [2] [.sc (.v (.bool zr))])
def Wu:=fun(a0:X5) (k_:P→O Q)=>∀{v3} {zr},k_ v3=H zr→Kh Y 31 Nm 14 [1,20,21,22] [1] [] ⟨[pB 1,pL 20 zB a0.Points,pI 21 (a0.Points.length:P),pI 22 v3],[(1,(dm a0.row))],[]⟩ (A9 [2] [.sc (.v (.bool zr))])
theorem vl{a0 v11 x13 y24 y25}{Ll}(iE:QG a0 Ll){n:U}:Wv a0 v11 x13 y24 y25 (Gs a0 v11 x13 y24 y25 Ll n):=by
 induction n with
 | zero=>intro _ r h; cases h
 | succ n ih=>
  intro v26 r h σ hσ;rw[Gs] at h;have k0:= @iE;exact gc
theorem vn{a0}{n:U}:QG a0 (DU a0 n):=by
 induction n with
 | zero=>intro _ r h; cases h
 | succ n ih=>
  intro v11 r h σ hσ;rw[DU] at h;have k0:= @vl;exact gc
theorem vo{a0}{n:U}:Wu a0 (Gr a0 n):=by
 induction n with
 | zero=>intro _ r h; cases h
 | succ n ih=>
  intro v3 r h σ hσ;rw[Gr] at h;have k0:= @vn;exact gc
instance qk:Ct 31 (∀{a0} {r},CH a0=H r→FC Y 31 [.ag (X5.row a0)] [.sc (.v (.bool r))]):=by
 refine⟨fun h=> ?_⟩;unfold CH at h;refine A5 mixed Nm [2] 100 ?_;have k0:= @vo;exact gc
instance xk:Ct 32 (∀{a0} {r},Dw a0=H r→FC Y 32 [.ag (X9.row a0)] [.sc (.v (.bool r))]):=by
 refine⟨fun h=> ?_⟩;unfold Dw at h;refine A5 mixed h0 [2] 26 ?_;exact gc
def T2:Hw:=([(6,[1,7,8,9],[],[])],[])
def Xy:=fun a1 a0 (k_:P→O P)=>∀{v1} {zr},k_ v1=H zr→Kh Y 108 T2 6 [1,7,8,9] [] [] ⟨[(1,vc (aS a1)),pL 7 X9.row a0,pI 8 (a0.length:P),pI 9 v1],[],[]⟩ (A9 [4] [.sc (.v (.int .i64 zr))])
theorem vp{a1 a0}{n:U}:Xy a1 a0 (GU a1 a0 n):=by
 induction n with
 | zero=>intro _ r h; cases h
 | succ n ih=>
  intro v1 r h σ hσ;rw[GU] at h;exact gc
instance xj:Ct 108 (∀{a0} {a1} {r},Km a0 a1=H r→FC Y 108 [.sc (.sl (X X9.row a0)),.sc (.str a1)] [.sc (.v (.int .i64 r))]):=by
 refine⟨fun h=> ?_⟩;unfold Km at h;refine A5 mixed T2 [4] 20 ?_;have k0:= @vp;exact gc
def T3:Hw:=([(14,[0,8,9,10],[],[])],[])
def WC:=fun a0 (k_:P→O Q)=>∀{v2} {zr},k_ v2=H zr→Kh Y 58 T3 14 [0,8,9,10] [] [] ⟨[pL 0 X9.row a0,pL 8 X9.row a0,pI 9 (a0.length:P),pI 10 v2],[],[]⟩ (A9 [2] [.sc (.v (.bool zr))])
theorem vq{a0}{n:U}:WC a0 (GB a0 n):=by
 induction n with
 | zero=>intro _ r h; cases h
 | succ n ih=>
  intro v2 r h σ hσ;rw[GB] at h;exact gc
instance xH:Ct 58 (∀{a0} {r},Ig a0=H r→FC Y 58 [.sc (.sl (X X9.row a0))] [.sc (.v (.bool r))]):=by
 refine⟨fun h=> ?_⟩;unfold Ig at h;refine A5 mixed T3 [2] 27 ?_;have k0:= @vq;exact gc
instance xe:Ct 59 (∀{a0} {r},MN a0=H r→FC Y 59 [.ag (Xl.row a0)] [.sc (.v (.bool r))]):=by
 refine⟨fun h=> ?_⟩;unfold MN at h;refine A5 mixed h0 [2] 6 ?_;exact gc
def T4:Hw:=([(14,[8,9,10],[],[])],[])
def XX:=fun a0 (k_:P→O Q)=>∀{v2} {zr},k_ v2=H zr→Kh Y 109 T4 14 [8,9,10] [] [] ⟨[pL 8 rI a0,pI 9 (a0.length:P),pI 10 v2],[],[]⟩ (A9 [2] [.sc (.v (.bool zr))])
theorem vr{a0}{n:U}:XX a0 (FI a0 n):=by
 induction n with
 | zero=>intro _ r h; cases h
 | succ n ih=>
  intro v2 r h σ hσ;rw[FI] at h;exact gc
instance ye:Ct 109 (∀{a0} {r},FH a0=H r→FC Y 109 [.sc (.sl (X rI a0))] [.sc (.v (.bool r))]):=by
 refine⟨fun h=> ?_⟩;unfold FH at h;refine A5 mixed T4 [2] 18 ?_;have k0:= @vr;exact gc
instance xF:Ct 60 (∀{a0} {r},Gy a0=H r→FC Y 60 [.ag (Xo.row a0)] [.sc (.v (.bool r))]):=by
 refine⟨fun h=> ?_⟩;unfold Gy at h;refine A5 mixed h0 [2] 21 ?_;exact gc
instance xM:Ct 26 (∀{a0} {r},GE a0=H r→FC Y 26 [.ag (X3.row a0)] [.sc (.v (.bool r))]):=by
 refine⟨fun h=> ?_⟩;unfold GE at h;refine A5 mixed h0 [2] 26 ?_;exact gc
instance xw:Ct 41 (∀{a0} {a1} {r},Ip a0 a1=H r→FC Y 41 [.ag (X3.row a0),.ag (X7.row a1)] [.sc (.v (.bool r))]):=by
 refine⟨fun h=> ?_⟩;unfold Ip at h;refine A5 mixed h0 [4] 47 ?_;exact gc
def Pr:Hw:=([(14,[1,2,17,18,19],[2],[]),(36,[1,2,6,17,18,19,30,31,32],[2,6],[])],[])
def Ws:=fun a1 v4 (a0:X3) (x6:X7) y10 y11 (k_:P→O Q)=>∀{v12} {zr},k_ v12=H zr→Kh Y 15 Pr 36 [1,2,6,17,18,19,30,31,32] [2,6] [] ⟨[pL 1 X7.row a1,pB 2,pB 6,pL 17 X7.row a1,pI 18 (a1.length:P),pI 19 v4,pL 30 X7.row y10,pI 31 y11,pI 32 v12],[(2,(dm a0.row)),(6,(dm x6.row))],[]⟩ (A9 [4] [.sc (.v (.bool zr))])
def QF:=fun a1 (a0:X3) (k_:P→O Q)=>∀{v4} {zr},k_ v4=H zr→Kh Y 15 Pr 14 [1,2,17,18,19] [2] [] ⟨[pL 1 X7.row a1,pB 2,pL 17 X7.row a1,pI 18 (a1.length:P),pI 19 v4],[(2,(dm a0.row))],[]⟩ (A9 [4] [.sc (.v (.bool zr))])
theorem vt{a1 v4 a0 x6 y10 y11}{Lk}(iD:QF a1 a0 Lk){n:U}:Ws a1 v4 a0 x6 y10 y11 (Gp a1 v4 a0 x6 y10 y11 Lk n):=by
 induction n with
 | zero=>intro _ r h; cases h
 | succ n ih=>
  intro v12 r h σ hσ;rw[Gp] at h;have k0:= @iD;exact gc
theorem vu{a1 a0}{n:U}:QF a1 a0 (Fo a1 a0 n):=by
 induction n with
 | zero=>intro _ r h; cases h
 | succ n ih=>
  intro v4 r h σ hσ;rw[Fo] at h;have k0:= @vt;exact gc
instance qj:Ct 15 (∀{a0} {a1} {r},CX a0 a1=H r→FC Y 15 [.ag (X3.row a0),.sc (.sl (X X7.row a1))] [.sc (.v (.bool r))]):=by
 refine⟨fun h=> ?_⟩;unfold CX at h;refine A5 mixed Pr [4] 43 ?_;have k0:= @vu;exact gc
instance xA:Ct 54 (∀{a0} {a1} {r},Ic a0 a1=H r→FC Y 54 [.ag (X3.row a0),.ag (X7.row a1)] [.sc (.v (.bool r))]):=by
 refine⟨fun h=> ?_⟩;unfold Ic at h;refine A5 mixed h0 [4] 12 ?_;exact gc
instance Oa:Ct 47 (∀{a0} {r},Bn a0=H r→FC Y 47 [.sc (.sl (X rI a0))] [.sc (.o 1 (X rI r))]):=by
 refine⟨fun h=> ?_⟩;unfold Bn at h;refine A5 mixed h0 [2] 8 ?_;have s0:= @IY _ rI (0:P);exact gc
instance VF:Ct 153 (∀{a0} {a1} {r},Il a0 a1=H r→FC Y 153 [.ag (X1.row a0),.sc (.int .i64 a1)] [.sc (.v (.int .i64 r))]):=by
 refine⟨fun h=> ?_⟩;unfold Il at h;refine A5 mixed h0 [4] 18 ?_;exact gc
def M1:N (N U × AItem):= [([],(L,.mv 18 (S 5))),([],(L,.mv 19 (S 5))),([1],(L,.nilc 20 (S 19))),([2],(L,.load 21 (S 20) G 1)),([],(L,.mv 22 (S 3))),([4],(L,.call 23 47 [(S 22)])),([5],(L,.bslice 24 1 [.sl []] 1 [(0,(S 23))])),([3,6,5],(L,.app 25 1 24 (S 21) (S 24))),([0,0,1,2,3,4,5,6,7],(L,.nilc 26 (S 18))),([8,7,7,0,1,2,3,4,5,6,7],(L,.store (S 26) (S 25) 1))]
def Ji:N (N U × AItem):= [([],(L,.load 48 (S 6) T 2)),([],(L,.mv 49 (S 14))),([],(L,.mv 50 (S 2))),([],(L,.mv 51 (S 3))),([3],(L,.call 52 47 [(S 51)])),([],(L,.mv 53 (S 12))),([5],(L,.bslice 54 1 [.int .i64 0] 1 [(0,(S 53))])),([4,6,4],(L,.app 55 1 8 (S 52) (S 54))),([],(L,.load 56 (S 10) T 8)),([],(L,.mv 57 (S 5))),([0,1,2,7,8,9,7],(L,.call 58 133 [(S 48),(S 49),(S 50),(S 55),(S 56),(S 57)]))]
def Nn:Hw:=([(15,[1,2,3,5,6,10,30,31,32],[99999999999,6,10],[90000]),(30,[1,2,3,5,6,10,12,14,30,31,32,47],[99999999999,6,10],[90000])],[])
abbrev Cy(a3:N P)(wo3_ wo5_:AV)(c0_ c1_:Q)(c2_ c3_:Q)(c4_ c5_:Q)(c6_ c7_ c8_:Q)(bx_:N (U × N AC))(rs_:Rows):St:=⟨[(3,vc (aL (X rI a3))),(5,vc (.pb 99999999999 0)),(18,bif c0_ then vc (.pb 99999999999 0) else .undef),(19,bif c1_ then vc (.pb 99999999999 0) else .undef),(20,bif c2_ then vc (.pb 99999999999 0) else .undef),(21,bif c3_ then wo3_ else .undef),(22,bif c4_ then vc (aL (X rI a3)) else .undef),(23,bif c5_ then wo5_ else .undef),(24,bif c6_ then vc (.own 1536) else .undef),(25,bif c7_ then vc (.own 90000) else .undef),(26,bif c8_ then vc (.pb 99999999999 0) else .undef)],bx_,rs_⟩
abbrev HJ(a3:N P)(a5:N (N P))(r2:(N P)):St:=(Cy a3 (vc (.undef)) (vc (aL (X rI r2))) T T T T T T T T T [(99999999999,[.own 90000])] [(90000,1,X (rL rI) (a5++([r2]:N (N P)))),(1536,1,X (rL rI) ([r2]:N (N P)))])
theorem vw(rec_:X5→P→P→(N P)→X6→(N (N P))→O (N (N P)))(h_rec:∀(a0:X5) (a1 a2:P) (a3:N P) (a4:X6) (a5:N (N P)) zr,rec_ a0 a1 a2 a3 a4 a5=H zr→FCz Y 133 [.d (.ag (X5.row a0)),.d (.sc (.int .i64 a1)),.d (.sc (.int .i64 a2)),.d (.sc (.sl (X rI a3))),.d (.ag (X6.row a4)),.p] [.r 0] [(1,X (rL rI) a5)] [.r 0] [(1,X (rL rI) zr)] [])(a3)(a5:N (N P))(r2)(h2:Bn a3=H r2)(h3:(A7 a5.length ([r2]:N (N P)).length 24)=T):∀(f:U),Af Y M1 (HJ a3 a5 r2) f [T,T,T,T,T,T,T,T,T,T] (Cy a3 (vc (.undef)) (vc (aL (X rI r2))) T T T T T T T T T [(99999999999,[.own 90000])] [(90000,1,X (rL rI) (a5++([r2]:N (N P)))),(1536,1,X (rL rI) ([r2]:N (N P)))]):=by
 intro f
 induction f with
 | zero=>intro h; rfl
 | succ f ih=>
  refine Aj ⟨?_,?_,?_,?_,?_,?_,?_,?_,?_,?_,⟨⟩⟩<;>try first | (intro h; cases h; done)
theorem vz(rec_:X5→P→P→(N P)→X6→(N (N P))→O (N (N P)))(h_rec:∀(a0:X5) (a1 a2:P) (a3:N P) (a4:X6) (a5:N (N P)) zr,rec_ a0 a1 a2 a3 a4 a5=H zr→FCz Y 133 [.d (.ag (X5.row a0)),.d (.sc (.int .i64 a1)),.d (.sc (.int .i64 a2)),.d (.sc (.sl (X rI a3))),.d (.ag (X6.row a4)),.p] [.r 0] [(1,X (rL rI) a5)] [.r 0] [(1,X (rL rI) zr)] [])(a3)(a5:N (N P))(r2)(h2:Bn a3=H r2)(h3:(A7 a5.length ([r2]:N (N P)).length 24)=T):∀(f:U) (b0 b1:Q) (b2 b8:Q),Af Y M1 (HJ a3 a5 r2) f [b0,b1,b2,T,T,T,T,T,b8,G] (Cy a3 (vc (.undef)) (vc (aL (X rI r2))) b0 b1 b2 T T T T T b8 [(99999999999,[.undef])] [(90000,1,X (rL rI) (a5++([r2]:N (N P)))),(1536,1,X (rL rI) ([r2]:N (N P)))]):=by
 intro f
 induction f with
 | zero=>intro b0 b1 b2 b8 h; simp at h
 | succ f ih=>
  intro b0 b1 b2 b8;refine Aj ⟨?_,?_,?_,?_,?_,?_,?_,?_,?_,?_,⟨⟩⟩<;>try first | (intro h; cases h; done) | (intro h0 hw; obtain rfl:=hz h0 rfl; (try obtain rfl:=hq hw 0 rfl rfl); (try obtain rfl:=hq hw 1 rfl rfl); (try obtain rfl:=hq hw 2 rfl rfl); refine np ?_; simp only[Cy,A3,A6,A2,A,B,C,E,F,J]; exact ih _ _ _ _)
  ·intro h0 hw;obtain rfl:=hq hw 0 rfl rfl;obtain rfl:=hq hw 1 rfl rfl;obtain rfl:=hq hw 2 rfl rfl;obtain rfl:=hq hw 8 rfl rfl;refine np ?_;try simp only[Cy,A3,A6,A2,A,B,C,E,F,J]
   exact vw rec_ h_rec a3 a5 r2 h2 h3 _
theorem wA(rec_:X5→P→P→(N P)→X6→(N (N P))→O (N (N P)))(h_rec:∀(a0:X5) (a1 a2:P) (a3:N P) (a4:X6) (a5:N (N P)) zr,rec_ a0 a1 a2 a3 a4 a5=H zr→FCz Y 133 [.d (.ag (X5.row a0)),.d (.sc (.int .i64 a1)),.d (.sc (.int .i64 a2)),.d (.sc (.sl (X rI a3))),.d (.ag (X6.row a4)),.p] [.r 0] [(1,X (rL rI) a5)] [.r 0] [(1,X (rL rI) zr)] [])(a3)(a5:N (N P))(r2)(h2:Bn a3=H r2)(h3:(A7 a5.length ([r2]:N (N P)).length 24)=T):∀(f:U) (b0 b1:Q) (b2 b3:Q),Af Y M1 (HJ a3 a5 r2) f [b0,b1,b2,b3,T,T,T,G,G,G] (Cy a3 (vc (.own 90000)) (vc (aL (X rI r2))) b0 b1 b2 b3 T T T G G [(99999999999,[.own 90000])] [(90000,1,X (rL rI) a5),(1536,1,X (rL rI) ([r2]:N (N P)))]):=by
 intro f
 induction f with
 | zero=>intro b0 b1 b2 b3 h; simp at h
 | succ f ih=>
  intro b0 b1 b2 b3;refine Aj ⟨?_,?_,?_,?_,?_,?_,?_,?_,?_,?_,⟨⟩⟩<;>try first | (intro h; cases h; done) | (intro _ hw; simp at hw; done) | (intro h0 hw; obtain rfl:=hz h0 rfl; (try obtain rfl:=hq hw 1 rfl rfl); (try obtain rfl:=hq hw 2 rfl rfl); refine np ?_; simp only[Cy,A3,A6,A2,A,B,C,E,F,J]; exact ih _ _ _ _)
  ·intro h0 hw;obtain rfl:=hq hw 3 rfl rfl;refine np ?_;try simp only[h3,Cy,A3,A6,A2,A,B,C,E,F,J]
   exact vz rec_ h_rec a3 a5 r2 h2 h3 _ b0 b1 b2 G
theorem wB(rec_:X5→P→P→(N P)→X6→(N (N P))→O (N (N P)))(h_rec:∀(a0:X5) (a1 a2:P) (a3:N P) (a4:X6) (a5:N (N P)) zr,rec_ a0 a1 a2 a3 a4 a5=H zr→FCz Y 133 [.d (.ag (X5.row a0)),.d (.sc (.int .i64 a1)),.d (.sc (.int .i64 a2)),.d (.sc (.sl (X rI a3))),.d (.ag (X6.row a4)),.p] [.r 0] [(1,X (rL rI) a5)] [.r 0] [(1,X (rL rI) zr)] [])(a3)(a5:N (N P))(r2)(h2:Bn a3=H r2)(h3:(A7 a5.length ([r2]:N (N P)).length 24)=T):∀(f:U) (b0 b1:Q) (b2 b3:Q),Af Y M1 (HJ a3 a5 r2) f [b0,b1,b2,b3,T,T,G,G,G,G] (Cy a3 (vc (.own 90000)) (vc (.own 1472)) b0 b1 b2 b3 T T G G G [(99999999999,[.own 90000])] [(90000,1,X (rL rI) a5),(1472,1,X rI r2)]):=by
 intro f
 induction f with
 | zero=>intro b0 b1 b2 b3 h; simp at h
 | succ f ih=>
  intro b0 b1 b2 b3;refine Aj ⟨?_,?_,?_,?_,?_,?_,?_,?_,?_,?_,⟨⟩⟩<;>try first | (intro h; cases h; done) | (intro _ hw; simp at hw; done) | (intro h0 hw; obtain rfl:=hz h0 rfl; (try obtain rfl:=hq hw 1 rfl rfl); (try obtain rfl:=hq hw 2 rfl rfl); refine np ?_; simp only[Cy,A3,A6,A2,A,B,C,E,F,J]; exact ih _ _ _ _)
  ·intro h0 hw;refine⟨[(L,.frz 1472)],[],W,W,?_⟩;try simp only[Cy,A3,A6,zG,zF,A2,A,B,C,E,F,J]
   refine C3 ?_;try simp only[A2,A,B,C,E,F,J]
   refine Ce (es:=X (rL rI) ([r2]:N (N P))) W (by simp only[St.fresh,zD,zE,Bf]; simp[AV.cells,V1.cells,AC.uses]) ?_;try simp only[A2,A,B,C,E,F,J]
   exact wA rec_ h_rec a3 a5 r2 h2 h3 _ b0 b1 b2 b3
theorem wC(rec_:X5→P→P→(N P)→X6→(N (N P))→O (N (N P)))(h_rec:∀(a0:X5) (a1 a2:P) (a3:N P) (a4:X6) (a5:N (N P)) zr,rec_ a0 a1 a2 a3 a4 a5=H zr→FCz Y 133 [.d (.ag (X5.row a0)),.d (.sc (.int .i64 a1)),.d (.sc (.int .i64 a2)),.d (.sc (.sl (X rI a3))),.d (.ag (X6.row a4)),.p] [.r 0] [(1,X (rL rI) a5)] [.r 0] [(1,X (rL rI) zr)] [])(a3)(a5:N (N P))(r2)(h2:Bn a3=H r2)(h3:(A7 a5.length ([r2]:N (N P)).length 24)=T):∀(f:U) (b0 b1:Q) (b2 b3 b4:Q),Af Y M1 (HJ a3 a5 r2) f [b0,b1,b2,b3,b4,G,G,G,G,G] (Cy a3 (vc (.own 90000)) (vc (.own 1472)) b0 b1 b2 b3 b4 G G G G [(99999999999,[.own 90000])] [(90000,1,X (rL rI) a5)]):=by
 intro f
 induction f with
 | zero=>intro b0 b1 b2 b3 b4 h; simp at h
 | succ f ih=>
  intro b0 b1 b2 b3 b4;refine Aj ⟨?_,?_,?_,?_,?_,?_,?_,?_,?_,?_,⟨⟩⟩<;>try first | (intro _ hw; simp at hw; done) | (intro h0 hw; obtain rfl:=hz h0 rfl; (try obtain rfl:=hq hw 1 rfl rfl); (try obtain rfl:=hq hw 2 rfl rfl); refine np ?_; simp only[Cy,A3,A6,A2,A,B,C,E,F,J]; exact ih _ _ _ _ _)
  ·intro h0 hw;obtain rfl:=hq hw 4 rfl rfl;refine np ?_;try simp only[Cy,A3,A6,A2,A,B,C,E,F,J]
   refine IK (Ak Oa h2) W (by simp only[St.fresh,zD,zE,Bf]; simp[AV.cells,V1.cells,AC.uses]) (uf W) ?_;try simp only[A2,A,B,C,E,F,J]
   exact wB rec_ h_rec a3 a5 r2 h2 h3 _ b0 b1 b2 b3
abbrev BP(a1 a2:P)(a3:N P)(v6 r11:P)(a0:X5)(y7:X6)(wo4_ wo7_:AV)(c0_ c1_:Q)(c2_ c3_:Q)(c4_ c5_:Q)(c6_ c7_:Q)(c8_ c9_ c10_:Q)(bx_:N (U × N AC))(rs_:Rows):St:=⟨[(1,vc (aI a1)),(2,vc (aI a2)),(3,vc (aL (X rI a3))),(5,vc (.pb 99999999999 0)),(6,vc (.pb 6 0)),(10,vc (.pb 10 0)),(12,vc (aI v6)),(14,vc (aI r11)),(30,vc (aL (X X1.row a0.Segments))),(31,vc (aI (a0.Segments.length:P))),(32,vc (aI v6)),(48,bif c0_ then va (dm a0.row) else .undef),(49,bif c1_ then vc (aI r11) else .undef),(50,bif c2_ then vc (aI a2) else .undef),(51,bif c3_ then vc (aL (X rI a3)) else .undef),(52,bif c4_ then wo4_ else .undef),(53,bif c5_ then vc (aI v6) else .undef),(54,bif c6_ then vc (.own 3456) else .undef),(55,bif c7_ then wo7_ else .undef),(56,bif c8_ then va [aB y7.i0,aB y7.i1,aB y7.i2,aB y7.i3,aB y7.i4,aB y7.i5,aB y7.i6,aB y7.i7] else .undef),(57,bif c9_ then vc (.pb 99999999999 0) else .undef),(58,bif c10_ then .tup [] else .undef)],bx_,rs_⟩
abbrev Ga(a1 a2:P)(a3:N P)(v6 r11:P)(a0:X5)(y7:X6)(r18:(N P))(r20:(N (N P))):St:=(BP a1 a2 a3 v6 r11 a0 y7 (vc (.undef)) (vc (aL (X rI (r18++([v6]:N P))))) T T T T T T T T T T T [(99999999999,[.own 90000]),(6,(dm a0.row)),(10,[aB y7.i0,aB y7.i1,aB y7.i2,aB y7.i3,aB y7.i4,aB y7.i5,aB y7.i6,aB y7.i7])] [(90000,1,X (rL rI) r20),(3456,1,X rI ([v6]:N P))])
theorem wD(rec_:X5→P→P→(N P)→X6→(N (N P))→O (N (N P)))(h_rec:∀(a0:X5) (a1 a2:P) (a3:N P) (a4:X6) (a5:N (N P)) zr,rec_ a0 a1 a2 a3 a4 a5=H zr→FCz Y 133 [.d (.ag (X5.row a0)),.d (.sc (.int .i64 a1)),.d (.sc (.int .i64 a2)),.d (.sc (.sl (X rI a3))),.d (.ag (X6.row a4)),.p] [.r 0] [(1,X (rL rI) a5)] [.r 0] [(1,X (rL rI) zr)] [])(a1:P)(a2)(a3)(v6)(r11)(a0)(y7)(v8)(r18)(r20)(h18:Bn a3=H r18)(h19:(A7 r18.length ([v6]:N P).length 8)=T)(h20:rec_ a0 r11 a2 (r18++([v6]:N P)) y7 v8=H r20):∀(f:U),Af Y Ji (Ga a1 a2 a3 v6 r11 a0 y7 r18 r20) f [T,T,T,T,T,T,T,T,T,T,T] (BP a1 a2 a3 v6 r11 a0 y7 (vc (.undef)) (vc (aL (X rI (r18++([v6]:N P))))) T T T T T T T T T T T [(99999999999,[.own 90000]),(6,(dm a0.row)),(10,[aB y7.i0,aB y7.i1,aB y7.i2,aB y7.i3,aB y7.i4,aB y7.i5,aB y7.i6,aB y7.i7])] [(90000,1,X (rL rI) r20),(3456,1,X rI ([v6]:N P))]):=by
 intro f
 induction f with
 | zero=>intro h; rfl
 | succ f ih=>
  refine Aj ⟨?_,?_,?_,?_,?_,?_,?_,?_,?_,?_,?_,⟨⟩⟩<;>try first | (intro h; cases h; done)
theorem wE(rec_:X5→P→P→(N P)→X6→(N (N P))→O (N (N P)))(h_rec:∀(a0:X5) (a1 a2:P) (a3:N P) (a4:X6) (a5:N (N P)) zr,rec_ a0 a1 a2 a3 a4 a5=H zr→FCz Y 133 [.d (.ag (X5.row a0)),.d (.sc (.int .i64 a1)),.d (.sc (.int .i64 a2)),.d (.sc (.sl (X rI a3))),.d (.ag (X6.row a4)),.p] [.r 0] [(1,X (rL rI) a5)] [.r 0] [(1,X (rL rI) zr)] [])(a1:P)(a2)(a3)(v6)(r11)(a0)(y7)(v8)(r18)(r20)(h18:Bn a3=H r18)(h19:(A7 r18.length ([v6]:N P).length 8)=T)(h20:rec_ a0 r11 a2 (r18++([v6]:N P)) y7 v8=H r20):∀(f:U) (b0 b1:Q) (b2 b8 b9:Q),Af Y Ji (Ga a1 a2 a3 v6 r11 a0 y7 r18 r20) f [b0,b1,b2,T,T,T,T,T,b8,b9,G] (BP a1 a2 a3 v6 r11 a0 y7 (vc (.undef)) (vc (.own 3328)) b0 b1 b2 T T T T T b8 b9 G [(99999999999,[.own 90000]),(6,(dm a0.row)),(10,[aB y7.i0,aB y7.i1,aB y7.i2,aB y7.i3,aB y7.i4,aB y7.i5,aB y7.i6,aB y7.i7])] [(90000,1,X (rL rI) v8),(3328,1,X rI (r18++([v6]:N P))),(3456,1,X rI ([v6]:N P))]):=by
 intro f
 induction f with
 | zero=>intro b0 b1 b2 b8 b9 h; simp at h
 | succ f ih=>
  intro b0 b1 b2 b8 b9;refine Aj ⟨?_,?_,?_,?_,?_,?_,?_,?_,?_,?_,?_,⟨⟩⟩<;>try first | (intro h; cases h; done) | (intro h0 hw; obtain rfl:=hz h0 rfl; refine np ?_; simp only[BP,A3,A6,A2,A,B,C,E,F,J]; exact ih _ _ _ _ _)
  ·intro h0 hw;obtain rfl:=hq hw 0 rfl rfl;obtain rfl:=hq hw 1 rfl rfl;obtain rfl:=hq hw 2 rfl rfl;obtain rfl:=hq hw 8 rfl rfl;obtain rfl:=hq hw 9 rfl rfl;refine⟨[(L,.frz 3328)],[],W,W,?_⟩;try simp only[BP,A3,A6,zG,zF,A2,A,B,C,E,F,J]
   refine C3 ?_;try simp only[A2,A,B,C,E,F,J]
   refine IL (h_rec _ _ _ _ _ _ _ h20) 99999999999 [90000] rfl W W W (by decide) W W W ?_;try simp only[A2,A,B,C,E,F,J]
   exact wD rec_ h_rec a1 a2 a3 v6 r11 a0 y7 v8 r18 r20 h18 h19 h20 _
theorem W5(rec_:X5→P→P→(N P)→X6→(N (N P))→O (N (N P)))(h_rec:∀(a0:X5) (a1 a2:P) (a3:N P) (a4:X6) (a5:N (N P)) zr,rec_ a0 a1 a2 a3 a4 a5=H zr→FCz Y 133 [.d (.ag (X5.row a0)),.d (.sc (.int .i64 a1)),.d (.sc (.int .i64 a2)),.d (.sc (.sl (X rI a3))),.d (.ag (X6.row a4)),.p] [.r 0] [(1,X (rL rI) a5)] [.r 0] [(1,X (rL rI) zr)] [])(a1:P)(a2)(a3)(v6)(r11)(a0)(y7)(v8)(r18)(r20)(h18:Bn a3=H r18)(h19:(A7 r18.length ([v6]:N P).length 8)=T)(h20:rec_ a0 r11 a2 (r18++([v6]:N P)) y7 v8=H r20):∀(f:U) (b0 b1:Q) (b2 b8 b9:Q),Af Y Ji (Ga a1 a2 a3 v6 r11 a0 y7 r18 r20) f [b0,b1,b2,T,T,T,T,G,b8,b9,G] (BP a1 a2 a3 v6 r11 a0 y7 (vc (.own 3328)) (vc (.own 3328)) b0 b1 b2 T T T T G b8 b9 G [(99999999999,[.own 90000]),(6,(dm a0.row)),(10,[aB y7.i0,aB y7.i1,aB y7.i2,aB y7.i3,aB y7.i4,aB y7.i5,aB y7.i6,aB y7.i7])] [(90000,1,X (rL rI) v8),(3328,1,X rI r18),(3456,1,X rI ([v6]:N P))]):=by
 intro f
 induction f with
 | zero=>intro b0 b1 b2 b8 b9 h; simp at h
 | succ f ih=>
  intro b0 b1 b2 b8 b9;refine Aj ⟨?_,?_,?_,?_,?_,?_,?_,?_,?_,?_,?_,⟨⟩⟩<;>try first | (intro h; cases h; done) | (intro _ hw; simp at hw; done) | (intro h0 hw; obtain rfl:=hz h0 rfl; refine np ?_; simp only[BP,A3,A6,A2,A,B,C,E,F,J]; exact ih _ _ _ _ _)
  ·intro h0 hw;refine np ?_;try simp only[h19,BP,A3,A6,A2,A,B,C,E,F,J]
   exact wE rec_ h_rec a1 a2 a3 v6 r11 a0 y7 v8 r18 r20 h18 h19 h20 _ b0 b1 b2 b8 b9
theorem wF(rec_:X5→P→P→(N P)→X6→(N (N P))→O (N (N P)))(h_rec:∀(a0:X5) (a1 a2:P) (a3:N P) (a4:X6) (a5:N (N P)) zr,rec_ a0 a1 a2 a3 a4 a5=H zr→FCz Y 133 [.d (.ag (X5.row a0)),.d (.sc (.int .i64 a1)),.d (.sc (.int .i64 a2)),.d (.sc (.sl (X rI a3))),.d (.ag (X6.row a4)),.p] [.r 0] [(1,X (rL rI) a5)] [.r 0] [(1,X (rL rI) zr)] [])(a1:P)(a2)(a3)(v6)(r11)(a0)(y7)(v8)(r18)(r20)(h18:Bn a3=H r18)(h19:(A7 r18.length ([v6]:N P).length 8)=T)(h20:rec_ a0 r11 a2 (r18++([v6]:N P)) y7 v8=H r20):∀(f:U) (b0 b1:Q) (b2 b5:Q) (b8 b9:Q),Af Y Ji (Ga a1 a2 a3 v6 r11 a0 y7 r18 r20) f [b0,b1,b2,T,T,b5,G,G,b8,b9,G] (BP a1 a2 a3 v6 r11 a0 y7 (vc (.own 3328)) (vc (.own 3328)) b0 b1 b2 T T b5 G G b8 b9 G [(99999999999,[.own 90000]),(6,(dm a0.row)),(10,[aB y7.i0,aB y7.i1,aB y7.i2,aB y7.i3,aB y7.i4,aB y7.i5,aB y7.i6,aB y7.i7])] [(90000,1,X (rL rI) v8),(3328,1,X rI r18)]):=by
 intro f
 induction f with
 | zero=>intro b0 b1 b2 b5 b8 b9 h; simp at h
 | succ f ih=>
  intro b0 b1 b2 b5 b8 b9;refine Aj ⟨?_,?_,?_,?_,?_,?_,?_,?_,?_,?_,?_,⟨⟩⟩<;>try first | (intro h; cases h; done) | (intro _ hw; simp at hw; done) | (intro h0 hw; obtain rfl:=hz h0 rfl; refine np ?_; simp only[BP,A3,A6,A2,A,B,C,E,F,J]; exact ih _ _ _ _ _ _)
  ·intro h0 hw;obtain rfl:=hq hw 5 rfl rfl;refine np ?_;try simp only[BP,A3,A6,A2,A,B,C,E,F,J]
   refine Ce (es:=X rI ([v6]:N P)) W (by simp only[St.fresh,zD,zE,Bf]; simp[AV.cells,V1.cells,AC.uses]) ?_;try simp only[A2,A,B,C,E,F,J]
   exact W5 rec_ h_rec a1 a2 a3 v6 r11 a0 y7 v8 r18 r20 h18 h19 h20 _ b0 b1 b2 b8 b9
theorem wG(rec_:X5→P→P→(N P)→X6→(N (N P))→O (N (N P)))(h_rec:∀(a0:X5) (a1 a2:P) (a3:N P) (a4:X6) (a5:N (N P)) zr,rec_ a0 a1 a2 a3 a4 a5=H zr→FCz Y 133 [.d (.ag (X5.row a0)),.d (.sc (.int .i64 a1)),.d (.sc (.int .i64 a2)),.d (.sc (.sl (X rI a3))),.d (.ag (X6.row a4)),.p] [.r 0] [(1,X (rL rI) a5)] [.r 0] [(1,X (rL rI) zr)] [])(a1:P)(a2)(a3)(v6)(r11)(a0)(y7)(v8)(r18)(r20)(h18:Bn a3=H r18)(h19:(A7 r18.length ([v6]:N P).length 8)=T)(h20:rec_ a0 r11 a2 (r18++([v6]:N P)) y7 v8=H r20):∀(f:U) (b0 b1:Q) (b2 b3:Q) (b8 b9:Q),Af Y Ji (Ga a1 a2 a3 v6 r11 a0 y7 r18 r20) f [b0,b1,b2,b3,G,T,T,G,b8,b9,G] (BP a1 a2 a3 v6 r11 a0 y7 (vc (.own 3328)) (vc (.own 3328)) b0 b1 b2 b3 G T T G b8 b9 G [(99999999999,[.own 90000]),(6,(dm a0.row)),(10,[aB y7.i0,aB y7.i1,aB y7.i2,aB y7.i3,aB y7.i4,aB y7.i5,aB y7.i6,aB y7.i7])] [(90000,1,X (rL rI) v8),(3456,1,X rI ([v6]:N P))]):=by
 intro f
 induction f with
 | zero=>intro b0 b1 b2 b3 b8 b9 h; simp at h
 | succ f ih=>
  intro b0 b1 b2 b3 b8 b9;refine Aj ⟨?_,?_,?_,?_,?_,?_,?_,?_,?_,?_,?_,⟨⟩⟩<;>try first | (intro h; cases h; done) | (intro _ hw; simp at hw; done) | (intro h0 hw; obtain rfl:=hz h0 rfl; refine np ?_; simp only[BP,A3,A6,A2,A,B,C,E,F,J]; exact ih _ _ _ _ _ _)
  ·intro h0 hw;obtain rfl:=hq hw 3 rfl rfl;refine⟨[],[(L,.keep [1,2,3,5,6,10,12,14,30,31,32,48,49,50,51,52,53,54,55,56,57,58] [99999999999,6,10] [90000,3328,3456])],W,W,?_⟩;try simp only[BP,A3,A6,zG,zF,A2,A,B,C,E,F,J]
   refine IK (Ak Oa h18) W (by simp only[St.fresh,zD,zE,Bf]; simp[AV.cells,V1.cells,AC.uses]) (uf W) ?_;try simp only[A2,A,B,C,E,F,J]
   exact W5 rec_ h_rec a1 a2 a3 v6 r11 a0 y7 v8 r18 r20 h18 h19 h20 _ b0 b1 b2 b8 b9
theorem wH(rec_:X5→P→P→(N P)→X6→(N (N P))→O (N (N P)))(h_rec:∀(a0:X5) (a1 a2:P) (a3:N P) (a4:X6) (a5:N (N P)) zr,rec_ a0 a1 a2 a3 a4 a5=H zr→FCz Y 133 [.d (.ag (X5.row a0)),.d (.sc (.int .i64 a1)),.d (.sc (.int .i64 a2)),.d (.sc (.sl (X rI a3))),.d (.ag (X6.row a4)),.p] [.r 0] [(1,X (rL rI) a5)] [.r 0] [(1,X (rL rI) zr)] [])(a1:P)(a2)(a3)(v6)(r11)(a0)(y7)(v8)(r18)(r20)(h18:Bn a3=H r18)(h19:(A7 r18.length ([v6]:N P).length 8)=T)(h20:rec_ a0 r11 a2 (r18++([v6]:N P)) y7 v8=H r20):∀(f:U) (b0 b1:Q) (b2 b3:Q) (b5 b8 b9:Q),Af Y Ji (Ga a1 a2 a3 v6 r11 a0 y7 r18 r20) f [b0,b1,b2,b3,G,b5,G,G,b8,b9,G] (BP a1 a2 a3 v6 r11 a0 y7 (vc (.own 3328)) (vc (.own 3328)) b0 b1 b2 b3 G b5 G G b8 b9 G [(99999999999,[.own 90000]),(6,(dm a0.row)),(10,[aB y7.i0,aB y7.i1,aB y7.i2,aB y7.i3,aB y7.i4,aB y7.i5,aB y7.i6,aB y7.i7])] [(90000,1,X (rL rI) v8)]):=by
 intro f
 induction f with
 | zero=>intro b0 b1 b2 b3 b5 b8 b9 h; simp at h
 | succ f ih=>
  intro b0 b1 b2 b3 b5 b8 b9;refine Aj ⟨?_,?_,?_,?_,?_,?_,?_,?_,?_,?_,?_,⟨⟩⟩<;>try first | (intro _ hw; simp at hw; done) | (intro h0 hw; obtain rfl:=hz h0 rfl; refine np ?_; simp only[BP,A3,A6,A2,A,B,C,E,F,J]; exact ih _ _ _ _ _ _ _)
  ·intro h0 hw;obtain rfl:=hq hw 3 rfl rfl;refine np ?_;try simp only[BP,A3,A6,A2,A,B,C,E,F,J]
   refine IK (Ak Oa h18) W (by simp only[St.fresh,zD,zE,Bf]; simp[AV.cells,V1.cells,AC.uses]) (uf W) ?_;try simp only[A2,A,B,C,E,F,J]
   exact wF rec_ h_rec a1 a2 a3 v6 r11 a0 y7 v8 r18 r20 h18 h19 h20 _ b0 b1 b2 b5 b8 b9
  ·intro h0 hw;obtain rfl:=hq hw 5 rfl rfl;refine np ?_;try simp only[BP,A3,A6,A2,A,B,C,E,F,J]
   refine Ce (es:=X rI ([v6]:N P)) W (by simp only[St.fresh,zD,zE,Bf]; simp[AV.cells,V1.cells,AC.uses]) ?_;try simp only[A2,A,B,C,E,F,J]
   exact wG rec_ h_rec a1 a2 a3 v6 r11 a0 y7 v8 r18 r20 h18 h19 h20 _ b0 b1 b2 b3 b8 b9
def Wx:=fun a1 a2 a3 v6 r11 (a0:X5) (y7:X6) v8 (k_:Q→O (N (N P)))=>∀{v16} {zr},k_ v16=H zr→Kh Y 133 Nn 30 [1,2,3,5,6,10,12,14,30,31,32,47] [99999999999,6,10] [90000] ⟨[pI 1 a1,pI 2 a2,pL 3 rI a3,(5,vc (.pb 99999999999 0)),pB 6,pB 10,pI 12 v6,pI 14 r11,pL 30 X1.row a0.Segments,pI 31 (a0.Segments.length:P),pI 32 v6,(47,vc (aB v16))],[(99999999999,[.own 90000]),(6,(dm a0.row)),(10,[aB y7.i0,aB y7.i1,aB y7.i2,aB y7.i3,aB y7.i4,aB y7.i5,aB y7.i6,aB y7.i7])],[(90000,1,X (rL rI) v8)]⟩ (Eo [] [] [.r 0] [(1,X (rL rI) zr)])
def QI:=fun a1 a2 a3 (a0:X5) (y7:X6) (k_:P→(N (N P))→O (N (N P)))=>∀{v6 v8} {zr},k_ v6 v8=H zr→Kh Y 133 Nn 15 [1,2,3,5,6,10,30,31,32] [99999999999,6,10] [90000] ⟨[pI 1 a1,pI 2 a2,pL 3 rI a3,(5,vc (.pb 99999999999 0)),pB 6,pB 10,pL 30 X1.row a0.Segments,pI 31 (a0.Segments.length:P),pI 32 v6],[(99999999999,[.own 90000]),(6,(dm a0.row)),(10,[aB y7.i0,aB y7.i1,aB y7.i2,aB y7.i3,aB y7.i4,aB y7.i5,aB y7.i6,aB y7.i7])],[(90000,1,X (rL rI) v8)]⟩ (Eo [] [] [.r 0] [(1,X (rL rI) zr)])
theorem W6{rec_:X5→P→P→(N P)→X6→(N (N P))→O (N (N P))}(h_rec:∀(a0:X5) (a1 a2:P) (a3:N P) (a4:X6) (a5:N (N P)) zr,rec_ a0 a1 a2 a3 a4 a5=H zr→FCz Y 133 [.d (.ag (X5.row a0)),.d (.sc (.int .i64 a1)),.d (.sc (.int .i64 a2)),.d (.sc (.sl (X rI a3))),.d (.ag (X6.row a4)),.p] [.r 0] [(1,X (rL rI) a5)] [.r 0] [(1,X (rL rI) zr)] []){a1 a2 a3 v6 r11 a0 y7 v8}{Lm}(T5:QI a1 a2 a3 a0 y7 Lm):Wx a1 a2 a3 v6 r11 a0 y7 v8 (Gv rec_ a1 a2 a3 v6 r11 a0 y7 v8 Lm):=by
 intro v16 r h σ hσ S hS;refine ev hS ?_;refine Aw ?_;unfold Gv at h;obtain⟨h17,h⟩|⟨h17,h⟩:=ic h
 ·try simp only[hσ,h17,A,B,C,E,F,J]
  obtain⟨r18,h18,h⟩:=ob h;obtain⟨h19,h⟩:=AQ h;obtain⟨r20,h20,h⟩:=ob h;refine D3 (ks:= [1,2,3,5,6,10,12,14,30,31,32]) (bs:= [99999999999,6,10]) (rs:= [90000]) (τ:=(Ga a1 a2 a3 v6 r11 a0 y7 r18 r20)) W (wH rec_ h_rec a1 a2 a3 v6 r11 a0 y7 v8 r18 r20 h18 h19 h20 _ G G G G G G G) ?_;simp only[Ga,BP,A3];try simp only[h17,h19,A,B,C,E,F,J]
  refine T5 h ?_ (by kernel_rfl);try simp only[h17,h19,A,B,C,E,F,J,pL,aM,Z]
 ·try simp only[hσ,h17,A,B,C,E,F,J]
  refine T5 h ?_ (by kernel_rfl);try simp only[h17,A,B,C,E,F,J,pL,aM,Z]
theorem sr{rec_:X5→P→P→(N P)→X6→(N (N P))→O (N (N P))}(h_rec:∀(a0:X5) (a1 a2:P) (a3:N P) (a4:X6) (a5:N (N P)) zr,rec_ a0 a1 a2 a3 a4 a5=H zr→FCz Y 133 [.d (.ag (X5.row a0)),.d (.sc (.int .i64 a1)),.d (.sc (.int .i64 a2)),.d (.sc (.sl (X rI a3))),.d (.ag (X6.row a4)),.p] [.r 0] [(1,X (rL rI) a5)] [.r 0] [(1,X (rL rI) zr)] []){a1 a2 a3 a0 y7}{n:U}:QI a1 a2 a3 a0 y7 (Ex rec_ a1 a2 a3 a0 y7 n):=by
 induction n with
 | zero=>intro _ _ r h; cases h
 | succ n ih=>
  intro v6 v8 r h σ hσ S hS;refine ev hS ?_;rw[Ex] at h;refine AP (Aw ?_);obtain⟨h9,h⟩|⟨h9,h⟩:=ic h
  ·obtain⟨x10,h10,h⟩:=ob h;try simp only[hσ,h9,h10,A,B,C,E,F,J]
   refine AK ?_;obtain⟨r11,h11,h⟩:=ob h;try simp only[h9,h10,A,B,C,E,F,J]
   refine AM (Ak VF h11) ?_;obtain⟨h12,h⟩|⟨h12,h⟩:=ic h
   ·obtain⟨h13,h⟩:=AQ h;try simp only[h9,h10,h12,A,B,C,E,F,J]
    refine L8 W W h13 ?_;obtain⟨x14,h14,h⟩:=ob h;have h14n:=AJ h14;have hA15:([aB y7.i0,aB y7.i1,aB y7.i2,aB y7.i3,aB y7.i4,aB y7.i5,aB y7.i6,aB y7.i7]:N AC)[I r11]?=H (aB x14):=Ri h14n;try simp only[h9,h10,h12,hA15,A,B,C,E,F,J]
    refine W6 h_rec ih h ?_ (by kernel_rfl);try simp only[h9,h10,h12,hA15,A,B,C,E,F,J,pL,aM,Z]
   ·try simp only[h9,h10,h12,A,B,C,E,F,J]
    refine W6 h_rec ih h ?_ (by kernel_rfl);try simp only[h9,h10,h12,A,B,C,E,F,J,pL,aM,Z]
  ·try simp only[hσ,h9,A,B,C,E,F,J]
   cases h;exact⟨trivial,[90000],by decide,by decide,W,W⟩
theorem dJ:AD Y 133=H ((Bp Y 133 Nn).strip,[],60):=by kernel_rfl
theorem qm(rec_:X5→P→P→(N P)→X6→(N (N P))→O (N (N P)))(a0:X5)(a1 a2:P)(a3:N P)(a4:X6)(a5:N (N P))(r:(N (N P)))(h_rec:∀(a0:X5) (a1 a2:P) (a3:N P) (a4:X6) (a5:N (N P)) zr,rec_ a0 a1 a2 a3 a4 a5=H zr→FCz Y 133 [.d (.ag (X5.row a0)),.d (.sc (.int .i64 a1)),.d (.sc (.int .i64 a2)),.d (.sc (.sl (X rI a3))),.d (.ag (X6.row a4)),.p] [.r 0] [(1,X (rL rI) a5)] [.r 0] [(1,X (rL rI) zr)] [])(h:MF rec_ a0 a1 a2 a3 a4 a5=H r):FCz Y 133 [.d (.ag (X5.row a0)),.d (.sc (.int .i64 a1)),.d (.sc (.int .i64 a2)),.d (.sc (.sl (X rI a3))),.d (.ag (X6.row a4)),.p] [.r 0] [(1,X (rL rI) a5)] [.r 0] [(1,X (rL rI) r)] []:=by
 unfold MF at h;refine Of (σ:=⟨[(0,va (dm a0.row)),(1,vc (aI a1)),(2,vc (aI a2)),(3,vc (aL (X rI a3))),(4,va [aB a4.i0,aB a4.i1,aB a4.i2,aB a4.i3,aB a4.i4,aB a4.i5,aB a4.i6,aB a4.i7]),(5,vc (.pb 99999999999 0))],[(99999999999,[.own 90000])],[(90000,1,X (rL rI) a5)]⟩) mixed dJ W W W W ?_;refine Bv Nn ?_;intro S hS;refine ev hS ?_;try simp only[A,B,C,E,F,J]
 refine BL ?_;try simp only[A,B,C,E,F,J]
 refine BL ?_;obtain⟨h1,h⟩|⟨h1,h⟩:=ic h
 ·try simp only[h1,A,B,C,E,F,J]
  obtain⟨r2,h2,h⟩:=ob h;obtain⟨h3,h⟩:=AQ h;refine D3 (ks:= [3,5]) (bs:= [99999999999]) (rs:= [90000]) (τ:=(HJ a3 a5 r2)) W (wC rec_ h_rec a3 a5 r2 h2 h3 _ G G G G G) ?_;simp only[HJ,Cy,A3];try simp only[h1,h3,A,B,C,E,F,J]
  cases h;exact⟨trivial,[90000],by decide,by decide,W,W⟩
 ·obtain⟨h4,h⟩:=AQ h;try simp only[h1,A,B,C,E,F,J]
  refine L8 W W h4 ?_;have hA5:BB [aB a4.i0,aB a4.i1,aB a4.i2,aB a4.i3,aB a4.i4,aB a4.i5,aB a4.i6,aB a4.i7] (I a1) [aB T]= [aB ((X6.set a4 (I a1) T)).i0,aB ((X6.set a4 (I a1) T)).i1,aB ((X6.set a4 (I a1) T)).i2,aB ((X6.set a4 (I a1) T)).i3,aB ((X6.set a4 (I a1) T)).i4,aB ((X6.set a4 (I a1) T)).i5,aB ((X6.set a4 (I a1) T)).i6,aB ((X6.set a4 (I a1) T)).i7]:=X6.set_eq a4 (Es h4);have hA5g:BJ [aB a4.i0,aB a4.i1,aB a4.i2,aB a4.i3,aB a4.i4,aB a4.i5,aB a4.i6,aB a4.i7] (I a1+1)=T:=OA (Es h4);have hA5h:BJ [aB a4.i1,aB a4.i2,aB a4.i3,aB a4.i4,aB a4.i5,aB a4.i6,aB a4.i7] (I a1)=T:=OB (c:=aB a4.i0) (Es h4);try simp only[h1,hA5,hA5g,hA5h,A,B,C,E,F,J]
  refine sr h_rec h ?_ (by kernel_rfl);try simp only[h1,hA5,hA5g,hA5h,A,B,C,E,F,J,pL,aM,Z]
theorem qn:∀(n:U) (a0:X5) (a1:P) (a2:P) (a3:N P) (a4:X6) (a5:N (N P)) (r:(N (N P))),Ey n a0 a1 a2 a3 a4 a5=H r→FCz Y 133 [.d (.ag (X5.row a0)),.d (.sc (.int .i64 a1)),.d (.sc (.int .i64 a2)),.d (.sc (.sl (X rI a3))),.d (.ag (X6.row a4)),.p] [.r 0] [(1,X (rL rI) a5)] [.r 0] [(1,X (rL rI) r)] []:=by
 intro n
 induction n with
 | zero=>intro _ _ _ _ _ _ r h; cases h
 | succ n ih=>intro a0 a1 a2 a3 a4 a5 r h; rw[Ey] at h; exact qm (Ey n) a0 a1 a2 a3 a4 a5 r ih h
theorem ql{a0}{a1}{a2}{a3}{a4}{a5}{r}(h:OW a0 a1 a2 a3 a4 a5=H r):FCz Y 133 [.d (.ag (X5.row a0)),.d (.sc (.int .i64 a1)),.d (.sc (.int .i64 a2)),.d (.sc (.sl (X rI a3))),.d (.ag (X6.row a4)),.p] [.r 0] [(1,X (rL rI) a5)] [.r 0] [(1,X (rL rI) r)] []:=qn bigN a0 a1 a2 a3 a4 a5 r h
instance rG:Ct 101 (∀{a0} {a1} {a2} {r},Kg a0 a1 a2=H r→FC Y 101 [.ag (X5.row a0),.sc (.int .i64 a1),.sc (.int .i64 a2)] [.sc (.o 1 (X (rL rI) r))]):=by
 refine⟨fun{a0} {a1} {a2} {r} h=> ?_⟩;unfold Kg at h;refine A5 mixed h0 [6] 34 ?_;intro S hS;refine ev hS ?_;simp only[A,B,C,E,F,J];try simp only[A,B,C,E,F,J]
 refine BL ?_;obtain⟨r1,h1,h⟩:=ob h;try simp only[A,B,C,E,F,J]
 refine AM (Ak qk h1) ?_;obtain⟨h2,h⟩|⟨h2,h⟩:=ic h
 ·obtain⟨r3,h3,h⟩:=ob h;try simp only[h2,A,B,C,E,F,J]
  refine AM (Ak LY h3) ?_;obtain⟨h4,h⟩|⟨h4,h⟩:=ic h
  ·obtain⟨r5,h5,h⟩:=ob h;try simp only[h2,h4,A,B,C,E,F,J]
   refine AM (Ak LY h5) ?_;obtain⟨h6,h⟩|⟨h6,h⟩:=ic h
   ·try simp only[h2,h4,h6,A,B,C,E,F,J]
    refine B3 (es:=X (rL rI) ([]:N (N P))) ?_;try simp only[h2,h4,h6,A,B,C,E,F,J]
    refine AK ?_;try simp only[h2,h4,h6,A,B,C,E,F,J]
    refine L9 ?_;obtain⟨r7,h7,h⟩:=ob h;try simp only[h2,h4,h6,A,B,C,E,F,J]
    refine IL (ql h7) 7 [1728] rfl W W W (by decide) W W W ?_;try simp only[h2,h4,h6,A,B,C,E,F,J]
    cases h;exact t0
   ·try simp only[h2,h4,h6,A,B,C,E,F,J]
    cases h;exact t0
  ·try simp only[h2,h4,A,B,C,E,F,J]
   cases h;exact t0
 ·try simp only[h2,A,B,C,E,F,J]
  cases h;exact t0
def So:Hw:=([(16,[2,5,11,12,13],[2],[])],[])
def Xw:=fun a1 (a0:X5) (k_:P→P→O P)=>∀{v3 v4} {zr},k_ v3 v4=H zr→Kh Y 102 So 16 [2,5,11,12,13] [2] [] ⟨[pB 2,pI 5 v3,pL 11 rI a1,pI 12 (a1.length:P),pI 13 v4],[(2,(dm a0.row))],[]⟩ (A9 [4] [.sc (.v (.int .i64 zr))])
theorem ss{a1 a0}{n:U}:Xw a1 a0 (DX a1 a0 n):=by
 induction n with
 | zero=>intro _ _ r h; cases h
 | succ n ih=>
  intro v3 v4 r h σ hσ;rw[DX] at h;exact gc
instance VD:Ct 102 (∀{a0} {a1} {r},EG a0 a1=H r→FC Y 102 [.ag (X5.row a0),.sc (.sl (X rI a1))] [.sc (.v (.int .i64 r))]):=by
 refine⟨fun h=> ?_⟩;unfold EG at h;refine A5 mixed So [4] 33 ?_;have k0:= @ss;exact gc
def Sp:Hw:=([(18,[3,9,22,23,24],[3],[960])],[])
def Wp:=fun r1 (a0:X5) (k_:(N P)→P→O ((N P) × Q))=>∀{v4 v5} {zr},k_ v4 v5=H zr→Kh Y 55 Sp 18 [3,9,22,23,24] [3] [960] ⟨[pB 3,pL 9 rI v4,pW 22 960,pI 23 (r1.length:P),pI 24 v5],[(3,(dm a0.row))],[(960,1,X (rL rI) r1)]⟩ (A9 [6,7] [.sc (.v (.sl (X rI zr.1))),.sc (.v (.bool zr.2))])
theorem su{r1 a0}{n:U}:Wp r1 a0 (Fm r1 a0 n):=by
 induction n with
 | zero=>intro _ _ r h; cases h
 | succ n ih=>
  intro v4 v5 r h σ hσ S hS;refine ev hS ?_;rw[Fm] at h;refine AP (Aw ?_);obtain⟨h6,h⟩|⟨h6,h⟩:=ic h
  ·obtain⟨x7,h7,h⟩:=ob h;have h7n:=AJ h7;try simp only[hσ,h6,h7,h7n,A,B,C,E,F,J]
   refine At ?_;obtain⟨r9,h9,h⟩:=ob h;try simp only[h6,h7,h7n,A,B,C,E,F,J]
   refine Cs (Ak VD h9) ?_;obtain⟨r10,h10,h⟩:=ob h;try simp only[h6,h7,h7n,A,B,C,E,F,J]
   refine Cs (Ak VD h10) ?_;obtain⟨h11,h⟩|⟨h11,h⟩:=ic h
   ·try simp only[h6,h7,h7n,h11,A,B,C,E,F,J]
    refine ih h ?_ (by kernel_rfl);try simp only[h6,h7,h7n,h11,A,B,C,E,F,J,pL,aM,Z]
   ·try simp only[h6,h7,h7n,h11,A,B,C,E,F,J]
    refine ih h ?_ (by kernel_rfl);try simp only[h6,h7,h7n,h11,A,B,C,E,F,J,pL,aM,Z]
  ·try simp only[hσ,h6,A,B,C,E,F,J]
   cases h;trivial
instance wy:Ct 55 (∀{a0} {a1} {a2} {r},JK a0 a1 a2=H r→FC Y 55 [.ag (X5.row a0),.sc (.int .i64 a1),.sc (.int .i64 a2)] [.sc (.v (.sl (X rI r.1))),.sc (.v (.bool r.2))]):=by
 refine⟨fun{a0} {a1} {a2} {r} h=> ?_⟩;unfold JK at h;refine A5 mixed Sp [6,7] 38 ?_;intro S hS;refine ev hS ?_;simp only[A,B,C,E,F,J];try simp only[A,B,C,E,F,J]
 refine BL ?_;obtain⟨r1,h1,h⟩:=ob h;try simp only[A,B,C,E,F,J]
 refine AM (Ak rG h1) ?_;obtain⟨h2,h⟩|⟨h2,h⟩:=ic h
 ·try simp only[h2,A,B,C,E,F,J]
  cases h;trivial
 ·obtain⟨x3,h3,h⟩:=ob h;have h3n:=AJ h3;try simp only[h2,h3,h3n,A,B,C,E,F,J]
  refine su h ?_ (by kernel_rfl);try simp only[h2,h3,h3n,A,B,C,E,F,J,pL,aM,Z]
def Pb:Hw:=([(20,[1,3,8,9,22,23,24],[3,8],[1344]),(44,[1,3,8,9,22,23,24,47],[3,8],[1344])],[])
def Ww:=fun r14 a2 v6 (a0:X5) (v7:X6) v8 (k_:Q→O ((N P) × Q))=>∀{v19} {zr},k_ v19=H zr→Kh Y 134 Pb 44 [1,3,8,9,22,23,24,47] [3,8] [1344] ⟨[pI 1 r14,pB 3,pB 8,pW 9 1344,pL 22 rI a2,pI 23 (a2.length:P),pI 24 v6,(47,vc (aB v19))],[(3,(dm a0.row)),(8,[aB v7.i0,aB v7.i1,aB v7.i2,aB v7.i3,aB v7.i4,aB v7.i5,aB v7.i6,aB v7.i7])],[(1344,1,X rI v8)]⟩ (A9 [6,7] [.sc (.o 1 (X rI zr.1)),.sc (.v (.bool zr.2))])
def QH:=fun a2 (a0:X5) (k_:P→P→X6→(N P)→O ((N P) × Q))=>∀{v5 v6 v7 v8} {zr},k_ v5 v6 v7 v8=H zr→Kh Y 134 Pb 20 [1,3,8,9,22,23,24] [3,8] [1344] ⟨[pI 1 v5,pB 3,pB 8,pW 9 1344,pL 22 rI a2,pI 23 (a2.length:P),pI 24 v6],[(3,(dm a0.row)),(8,[aB v7.i0,aB v7.i1,aB v7.i2,aB v7.i3,aB v7.i4,aB v7.i5,aB v7.i6,aB v7.i7])],[(1344,1,X rI v8)]⟩ (A9 [6,7] [.sc (.o 1 (X rI zr.1)),.sc (.v (.bool zr.2))])
theorem VK{r14 a2 v6 a0 v7 v8}{ND}(iF:QH a2 a0 ND):Ww r14 a2 v6 a0 v7 v8 (Gu r14 a2 v6 a0 v7 v8 ND):=by
 intro v19 r h σ hσ S hS;refine ev hS ?_;refine Aw ?_;unfold Gu at h;obtain⟨h20,h⟩|⟨h20,h⟩:=ic h
 ·try simp only[hσ,h20,A,B,C,E,F,J]
  cases h;trivial
 ·obtain⟨h21,h⟩:=AQ h;try simp only[hσ,h20,A,B,C,E,F,J]
  refine L8 W W h21 ?_;have hA22:BB [aB v7.i0,aB v7.i1,aB v7.i2,aB v7.i3,aB v7.i4,aB v7.i5,aB v7.i6,aB v7.i7] (I r14) [aB T]= [aB ((X6.set v7 (I r14) T)).i0,aB ((X6.set v7 (I r14) T)).i1,aB ((X6.set v7 (I r14) T)).i2,aB ((X6.set v7 (I r14) T)).i3,aB ((X6.set v7 (I r14) T)).i4,aB ((X6.set v7 (I r14) T)).i5,aB ((X6.set v7 (I r14) T)).i6,aB ((X6.set v7 (I r14) T)).i7]:=X6.set_eq v7 (Es h21);have hA22g:BJ [aB v7.i0,aB v7.i1,aB v7.i2,aB v7.i3,aB v7.i4,aB v7.i5,aB v7.i6,aB v7.i7] (I r14+1)=T:=OA (Es h21);have hA22h:BJ [aB v7.i1,aB v7.i2,aB v7.i3,aB v7.i4,aB v7.i5,aB v7.i6,aB v7.i7] (I r14)=T:=OB (c:=aB v7.i0) (Es h21);try simp only[h20,hA22,hA22g,hA22h,A,B,C,E,F,J]
  refine B3 (es:=X rI ([r14]:N P)) ?_;obtain⟨h23,h⟩:=AQ h;try simp only[h20,hA22,hA22g,hA22h,h23,A,B,C,E,F,J]
  refine iF h ?_ (by kernel_rfl);try simp only[h20,hA22,hA22g,hA22h,h23,A,B,C,E,F,J,pL,aM,Z]
theorem sw{a2 a0}{n:U}:QH a2 a0 (Fp a2 a0 n):=by
 induction n with
 | zero=>intro _ _ _ _ r h; cases h
 | succ n ih=>
  intro v5 v6 v7 v8 r h σ hσ S hS;refine ev hS ?_;rw[Fp] at h;refine AP (Aw ?_);obtain⟨h9,h⟩|⟨h9,h⟩:=ic h
  ·obtain⟨x10,h10,h⟩:=ob h;obtain⟨r11,h11,h⟩:=ob h;try simp only[hσ,h9,h10,A,B,C,E,F,J]
   refine AM (Ak LY h11) ?_;obtain⟨h12,h⟩|⟨h12,h⟩:=ic h
   ·obtain⟨x13,h13,h⟩:=ob h;obtain⟨r14,h14,h⟩:=ob h;try simp only[h9,h10,h12,h13,A,B,C,E,F,J]
    refine AM (Ak VF h14) ?_;obtain⟨h15,h⟩|⟨h15,h⟩:=ic h
    ·try simp only[h9,h10,h12,h13,h15,A,B,C,E,F,J]
     refine VK ih h ?_ (by kernel_rfl);try simp only[h9,h10,h12,h13,h15,A,B,C,E,F,J,pL,aM,Z]
    ·obtain⟨h16,h⟩:=AQ h;try simp only[h9,h10,h12,h13,h15,A,B,C,E,F,J]
     refine L8 W W h16 ?_;obtain⟨x17,h17,h⟩:=ob h;have h17n:=AJ h17;have hA18:([aB v7.i0,aB v7.i1,aB v7.i2,aB v7.i3,aB v7.i4,aB v7.i5,aB v7.i6,aB v7.i7]:N AC)[I r14]?=H (aB x17):=Ri h17n;try simp only[h9,h10,h12,h13,h15,hA18,A,B,C,E,F,J]
     refine VK ih h ?_ (by kernel_rfl);try simp only[h9,h10,h12,h13,h15,hA18,A,B,C,E,F,J,pL,aM,Z]
   ·try simp only[h9,h10,h12,A,B,C,E,F,J]
    cases h;trivial
  ·try simp only[hσ,h9,A,B,C,E,F,J]
   cases h;trivial
instance xD:Ct 134 (∀{a0} {a1} {a2} {r},Gt a0 a1 a2=H r→FC Y 134 [.ag (X5.row a0),.sc (.int .i64 a1),.sc (.sl (X rI a2))] [.sc (.o 1 (X rI r.1)),.sc (.v (.bool r.2))]):=by
 refine⟨fun{a0} {a1} {a2} {r} h=> ?_⟩;unfold Gt at h;refine A5 mixed Pb [6,7] 56 ?_;intro S hS;refine ev hS ?_;simp only[A,B,C,E,F,J];try simp only[A,B,C,E,F,J]
 refine BL ?_;obtain⟨r1,h1,h⟩:=ob h;try simp only[A,B,C,E,F,J]
 refine AM (Ak LY h1) ?_;obtain⟨h2,h⟩|⟨h2,h⟩:=ic h
 ·try simp only[h2,A,B,C,E,F,J]
  refine AK ?_;obtain⟨h3,h⟩:=AQ h;try simp only[h2,A,B,C,E,F,J]
  refine L8 W W h3 ?_;have hA4:BB [aB G,aB G,aB G,aB G,aB G,aB G,aB G,aB G] (I a1) [aB T]= [aB ((X6.set (⟨G,G,G,G,G,G,G,G⟩:X6) (I a1) T)).i0,aB ((X6.set (⟨G,G,G,G,G,G,G,G⟩:X6) (I a1) T)).i1,aB ((X6.set (⟨G,G,G,G,G,G,G,G⟩:X6) (I a1) T)).i2,aB ((X6.set (⟨G,G,G,G,G,G,G,G⟩:X6) (I a1) T)).i3,aB ((X6.set (⟨G,G,G,G,G,G,G,G⟩:X6) (I a1) T)).i4,aB ((X6.set (⟨G,G,G,G,G,G,G,G⟩:X6) (I a1) T)).i5,aB ((X6.set (⟨G,G,G,G,G,G,G,G⟩:X6) (I a1) T)).i6,aB ((X6.set (⟨G,G,G,G,G,G,G,G⟩:X6) (I a1) T)).i7]:=X6.set_eq (⟨G,G,G,G,G,G,G,G⟩:X6) (Es h3);have hA4g:BJ [aB G,aB G,aB G,aB G,aB G,aB G,aB G,aB G] (I a1+1)=T:=OA (Es h3);have hA4h:BJ [aB G,aB G,aB G,aB G,aB G,aB G,aB G] (I a1)=T:=OB (c:=aB G) (Es h3);try simp only[h2,hA4,hA4g,hA4h,A,B,C,E,F,J]
  refine B3 (es:=X rI ([a1]:N P)) ?_;try simp only[h2,hA4,hA4g,hA4h,A,B,C,E,F,J]
  refine sw h ?_ (by kernel_rfl);try simp only[h2,hA4,hA4g,hA4h,A,B,C,E,F,J,pL,aM,Z]
 ·try simp only[h2,A,B,C,E,F,J]
  cases h;trivial
instance VE:Ct 103 (∀{a0} {a1} {a2} {r},EH a0 a1 a2=H r→FC Y 103 [.ag (X5.row a0),.sc (.int .i64 a1),.sc (.sl (X rI a2))] [.sc (.o 1 (X rI r))]):=by
 refine⟨fun h=> ?_⟩;unfold EH at h;refine A5 mixed h0 [6] 20 ?_;exact gc
instance xf:Ct 135 (∀{a0} {a1} {a2} {r},GS a0 a1 a2=H r→FC Y 135 [.ag (X5.row a0),.sc (.int .i64 a1),.sc (.sl (X rI a2))] [.sc (.v (.bool r))]):=by
 refine⟨fun h=> ?_⟩;unfold GS at h;refine A5 mixed h0 [6] 20 ?_;exact gc
instance VG:Ct 121 (∀{a0} {a1} {r},EI a0 a1=H r→FC Y 121 [.ag (X9.row a0),.ag (X1.row a1)] [.sc (.v (.int .i64 r))]):=by
 refine⟨fun h=> ?_⟩;unfold EI at h;refine A5 mixed h0 [4] 12 ?_;exact gc
instance yg:Ct 72 (∀{a0} {a1} {a2} {r},Iz a0 a1 a2=H r→FC Y 72 [.ag (X5.row a0),.sc (.int .i64 a1),.ag (X9.row a2)] [.sc (.v (.bool r))]):=by
 refine⟨fun h=> ?_⟩;unfold Iz at h;refine A5 mixed h0 [6] 20 ?_;exact gc
instance xn:Ct 144 (∀{a0} {r},MP a0=H r→FC Y 144 [.ag (X9.row a0)] [.sc (.v (.int .i64 r))]):=by
 refine⟨fun h=> ?_⟩;unfold MP at h;refine A5 mixed h0 [2] 11 ?_;exact gc
instance xl:Ct 120 (∀{a0} {r},MO a0=H r→FC Y 120 [.ag (X9.row a0)] [.sc (.v (.int .i64 r))]):=by
 refine⟨fun h=> ?_⟩;unfold MO at h;refine A5 mixed h0 [2] 9 ?_;exact gc
instance xT:Ct 75 (∀{a0} {a1} {a2} {r},JY a0 a1 a2=H r→FC Y 75 [.ag (X5.row a0),.sc (.int .i64 a1),.ag (X9.row a2)] [.sc (.v (.int .i64 r))]):=by
 refine⟨fun h=> ?_⟩;unfold JY at h;refine A5 mixed h0 [6] 21 ?_;exact gc
def Nc:Hw:=([(10,[0,3,4,5],[],[384]),(35,[0,3,4,5],[],[384]),(36,[0,3,4,5],[],[384])],[])
def Y8:=fun F_a0 caps_a0 v2 (k_:Q→(N X8)→O (N X8))=>∀{v11 v12} {zr},k_ v11 v12=H zr→Kh Y 117 Nc 36 [0,3,4,5] [] [384] ⟨[(0,vc (.dat (.clo F_a0 caps_a0))),pW 3 384,(4,vc (aB v11)),pI 5 v2],[],[(384,2,X X8.row v12)]⟩ (A9 [2] [.sc (.o 2 (X X8.row zr))])
def Y7:=fun F_a0 caps_a0 v2 (k_:(N X8)→O (N X8))=>∀{v9} {zr},k_ v9=H zr→Kh Y 117 Nc 35 [0,3,4,5] [] [384] ⟨[(0,vc (.dat (.clo F_a0 caps_a0))),pW 3 384,(4,vc (aB T)),pI 5 v2],[],[(384,2,X X8.row v9)]⟩ (A9 [2] [.sc (.o 2 (X X8.row zr))])
def Oi:=fun F_a0 caps_a0 (k_:Q→P→(N X8)→O (N X8))=>∀{v1 v2 v3} {zr},k_ v1 v2 v3=H zr→Kh Y 117 Nc 10 [0,3,4,5] [] [384] ⟨[(0,vc (.dat (.clo F_a0 caps_a0))),pW 3 384,(4,vc (aB v1)),pI 5 v2],[],[(384,2,X X8.row v3)]⟩ (A9 [2] [.sc (.o 2 (X X8.row zr))])
theorem VL{a0:P→O Q}{F_a0 caps_a0}(hF_a0:Bs Y F_a0=T)(h_a0:∀z0 zr,a0 z0=H zr→FC Y F_a0 ([.sc (.int .i64 z0)]++caps_a0.map .sc) [.sc (.v (.bool zr))]){v2}{EX}(T8:Oi F_a0 caps_a0 EX):Y8 F_a0 caps_a0 v2 (H9 a0 v2 EX):=by
 intro v11 v12 r h σ hσ;unfold H9 at h;have k0:= @T8;exact gc
theorem VM{a0:P→O Q}{F_a0 caps_a0}(hF_a0:Bs Y F_a0=T)(h_a0:∀z0 zr,a0 z0=H zr→FC Y F_a0 ([.sc (.int .i64 z0)]++caps_a0.map .sc) [.sc (.v (.bool zr))]){v2}{EX}(T8:Oi F_a0 caps_a0 EX):Y7 F_a0 caps_a0 v2 (IA a0 v2 EX):=by
 intro v9 r h σ hσ;unfold IA at h;have s0:=fun(x10:X8)=> @UF _ X8.row ((⟨x10.From,v2⟩:X8))
 have k0:= @VL;exact gc
theorem sy{a0:P→O Q}{F_a0 caps_a0}(hF_a0:Bs Y F_a0=T)(h_a0:∀z0 zr,a0 z0=H zr→FC Y F_a0 ([.sc (.int .i64 z0)]++caps_a0.map .sc) [.sc (.v (.bool zr))]){n:U}:Oi F_a0 caps_a0 (ER a0 n):=by
 induction n with
 | zero=>intro _ _ _ r h; cases h
 | succ n ih=>
  intro v1 v2 v3 r h σ hσ S hS;refine ev hS ?_;rw[ER] at h;refine AP (Aw ?_);obtain⟨h4,h⟩|⟨h4,h⟩:=ic h
  ·obtain⟨r5,h5,h⟩:=ob h;try simp only[hσ,h4,A,B,C,E,F,J]
   refine fm (h_a0 _ _ h5) hF_a0 W W (Cv W) W (uf W) ?_;obtain⟨h6,h⟩|⟨h6,h⟩:=ic h
   ·obtain⟨h7,h⟩|⟨h7,h⟩:=ic h
    ·try simp only[h4,h6,h7,A,B,C,E,F,J]
     refine VM hF_a0 h_a0 ih h ?_ (by kernel_rfl);try simp only[h4,h6,h7,A,B,C,E,F,J,pL,aM,Z]
    ·try simp only[h4,h6,h7,A,B,C,E,F,J]
     refine B3 (es:=X X8.row ([(⟨v2,(0:P)⟩:X8)]:N X8)) ?_;obtain⟨h8,h⟩:=AQ h;try simp only[h4,h6,h7,h8,A,B,C,E,F,J]
     refine VM hF_a0 h_a0 ih h ?_ (by kernel_rfl);try simp only[h4,h6,h7,h8,A,B,C,E,F,J,pL,aM,Z]
   ·try simp only[h4,h6,A,B,C,E,F,J]
    refine VL hF_a0 h_a0 ih h ?_ (by kernel_rfl);try simp only[h4,h6,A,B,C,E,F,J,pL,aM,Z]
  ·try simp only[hσ,h4,A,B,C,E,F,J]
   cases h;exact t0
theorem rp{a0}{r}(F_a0:FuncId)(caps_a0:N D)(hF_a0:Bs Y F_a0=T)(h_a0:∀z0 zr,a0 z0=H zr→FC Y F_a0 ([.sc (.int .i64 z0)]++caps_a0.map .sc) [.sc (.v (.bool zr))])(h:MY a0=H r):FC Y 117 [.sc (.clo F_a0 caps_a0)] [.sc (.o 2 (X X8.row r))]:=by
 unfold MY at h;refine A5 mixed Nc [2] 30 ?_;have s0:= @Ay (X X8.row ([]:N X8));have k0:= @sy;exact gc
instance xu:Ct 157 (∀{a0} {a1} {r},Kt a0 a1=H r→FC Y 157 [.sc (.int .i64 a0),.sc (.int .i64 a1)] [.sc (.v (.int .i64 r))]):=by
 refine⟨fun h=> ?_⟩;unfold Kt at h;refine A5 mixed h0 [4] 46 ?_;exact gc
def Sq:Hw:=([(8,[1,5,11,12,13],[],[])],[])
def XD:=fun a1 (a0:Xn) (k_:P→P→O P)=>∀{v1 v2} {zr},k_ v1 v2=H zr→Kh Y 142 Sq 8 [1,5,11,12,13] [] [] ⟨[pI 1 a1,pI 5 v1,pL 11 zA a0.Parts,pI 12 (a0.Parts.length:P),pI 13 v2],[],[]⟩ (A9 [4] [.sc (.v (.int .i64 zr))])
theorem tA{a1 a0}{n:U}:XD a1 a0 (GX a1 a0 n):=by
 induction n with
 | zero=>intro _ _ r h; cases h
 | succ n ih=>
  intro v1 v2 r h σ hσ;rw[GX] at h;exact gc
instance xr:Ct 142 (∀{a0} {a1} {r},MQ a0 a1=H r→FC Y 142 [.ag (Xn.row a0),.sc (.int .i64 a1)] [.sc (.v (.int .i64 r))]):=by
 refine⟨fun h=> ?_⟩;unfold MQ at h;refine A5 mixed Sq [4] 32 ?_;have k0:= @tA;exact gc
def Sr:Hw:=([(8,[1,5,9,10,11],[],[])],[])
def WE:=fun a1 (a0:Xd) (k_:P→P→O P)=>∀{v1 v2} {zr},k_ v1 v2=H zr→Kh Y 143 Sr 8 [1,5,9,10,11] [] [] ⟨[pI 1 a1,pI 5 v1,pL 9 zC a0.Surges,pI 10 (a0.Surges.length:P),pI 11 v2],[],[]⟩ (A9 [4] [.sc (.v (.int .i64 zr))])
theorem tB{a1 a0}{n:U}:WE a1 a0 (EB a1 a0 n):=by
 induction n with
 | zero=>intro _ _ r h; cases h
 | succ n ih=>
  intro v1 v2 r h σ hσ;rw[EB] at h;exact gc
instance xJ:Ct 143 (∀{a0} {a1} {r},MI a0 a1=H r→FC Y 143 [.ag (Xd.row a0),.sc (.int .i64 a1)] [.sc (.v (.int .i64 r))]):=by
 refine⟨fun h=> ?_⟩;unfold MI at h;refine A5 mixed Sr [4] 23 ?_;have k0:= @tB;exact gc
instance xI:Ct 119 (∀{a0} {a1} {r},Fs a0 a1=H r→FC Y 119 [.ag (Xd.row a0),.sc (.int .i64 a1)] [.sc (.v (.int .i64 r))]):=by
 refine⟨fun h=> ?_⟩;unfold Fs at h;refine A5 mixed h0 [4] 18 ?_;exact gc
theorem tC{a0}{c0}{c1}{r}(h:JZ a0 c0 c1=H r):FC Y 118 [.sc (.int .i64 a0),.sc (.pd (Xd.row c0)),.sc (.pd (rI c1))] [.sc (.v (.bool r))]:=by
 unfold JZ at h;refine A5 mixed h0 [4] 10 ?_;exact gc
instance xU:Ct 74 (∀{a0} {a1} {r},ML a0 a1=H r→FC Y 74 [.ag (Xd.row a0),.sc (.int .i64 a1)] [.sc (.o 2 (X X8.row r))]):=by
 refine⟨fun{a0} {a1} {r} h=> ?_⟩;unfold ML at h;refine A5 mixed h0 [4] 10 ?_;intro S hS;refine ev hS ?_;simp only[A,B,C,E,F,J];try simp only[A,B,C,E,F,J]
 refine BL ?_;try simp only[A,B,C,E,F,J]
 refine BL ?_;obtain⟨r1,h1,h⟩:=ob h;try simp only[A,B,C,E,F,J]
 refine AM (Ak qt h1) ?_;obtain⟨h2,h⟩|⟨h2,h⟩:=ic h
 ·obtain⟨r3,h3,h⟩:=ob h;try simp only[h2,A,B,C,E,F,J]
  refine Dj (rp 118 [.pd (Xd.row a0),.pd (rI a1)] (by kernel_rfl) (fun z0 zr zh=>tC zh) h3) W (D1 W ⟨D2,⟨⟩⟩) W (uf W) ?_;try simp only[h2,A,B,C,E,F,J]
  cases h;exact t0
 ·try simp only[h2,A,B,C,E,F,J]
  cases h;exact t0
instance xW:Ct 76 (∀{a0} {a1} {a2} {r},MM a0 a1 a2=H r→FC Y 76 [.ag (X5.row a0),.sc (.int .i64 a1),.ag (X9.row a2)] [.sc (.v (.int .i64 r))]):=by
 refine⟨fun h=> ?_⟩;unfold MM at h;refine A5 mixed h0 [6] 30 ?_;exact gc
def Ss:Hw:=([(6,[0,5,6,7],[],[])],[])
def XE:=fun a0 (k_:P→O Q)=>∀{v1} {zr},k_ v1=H zr→Kh Y 71 Ss 6 [0,5,6,7] [] [] ⟨[pL 0 X8.row a0,pL 5 X8.row a0,pI 6 (a0.length:P),pI 7 v1],[],[]⟩ (A9 [2] [.sc (.v (.bool zr))])
theorem tD{a0}{n:U}:XE a0 (Fz a0 n):=by
 induction n with
 | zero=>intro _ r h; cases h
 | succ n ih=>
  intro v1 r h σ hσ;rw[Fz] at h;exact gc
instance xv:Ct 71 (∀{a0} {r},In a0=H r→FC Y 71 [.sc (.sl (X X8.row a0))] [.sc (.v (.bool r))]):=by
 refine⟨fun h=> ?_⟩;unfold In at h;refine A5 mixed Ss [2] 44 ?_;have k0:= @tD;exact gc
def Su:Hw:=([(16,[1,5,17,18,19],[],[1024])],[])
def Xz:=fun a1 a0 (k_:P→(N X8)→O (N X8))=>∀{v5 v6} {zr},k_ v5 v6=H zr→Kh Y 73 Su 16 [1,5,17,18,19] [] [1024] ⟨[pI 1 a1,pW 5 1024,pL 17 X8.row a0,pI 18 (a0.length:P),pI 19 v5],[],[(1024,2,X X8.row v6)]⟩ (A9 [4] [.sc (.o 2 (X X8.row zr))])
theorem tF{a1 a0}{n:U}:Xz a1 a0 (Fy a1 a0 n):=by
 induction n with
 | zero=>intro _ _ r h; cases h
 | succ n ih=>
  intro v5 v6 r h σ hσ;rw[Fy] at h;have s0:=fun(x8:X8)=> @Ay (X X8.row ([(⟨x8.From,(zH .i64 (x8.To - a1))⟩:X8)]:N X8))
  exact gc
instance xo:Ct 73 (∀{a0} {a1} {r},Kn a0 a1=H r→FC Y 73 [.sc (.sl (X X8.row a0)),.sc (.int .i64 a1)] [.sc (.o 2 (X X8.row r))]):=by
 refine⟨fun h=> ?_⟩;unfold Kn at h;refine A5 mixed Su [4] 42 ?_;have s0:= @Ay (X X8.row ([]:N X8));have k0:= @tF;exact gc
end Go.Vi
