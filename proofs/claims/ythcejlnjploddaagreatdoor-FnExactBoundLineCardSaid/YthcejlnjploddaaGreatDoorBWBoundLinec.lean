/-
Walks. No condition.
-/
import Derived.Test.YthcejlnjploddaaGreatDoorBNf
import Derived.Test.YthcejlnjploddaaGreatDoorChecked
import Derived.Test.YthcejlnjploddaaGreatDoorBSh
import Derived.Test.YthcejlnjploddaaGreatDoorBVi42
import Derived.KernelRfl
import Derived.Test.YthcejlnjploddaaGreatDoorBWBoundLineb
namespace Go.Vi
open Go.Proofs
set_option linter.all false
set_option maxRecDepth 4000
set_option maxHeartbeats 2000000
open Nat renaming reduceBEq → C, reduceMul → E, reduceAdd → F, reduceDiv → G, le_of_ble_eq_true → uf
open Int renaming reduceBEq → H
attribute [local irreducible] go Ba Ja
open List renaming map → Y, map_nil → I, all_cons → zD, all_nil → zE, all_eq_true → zF, cons_append → zH, nil_append → zI
open Tryz renaming prog → Z
open Int renaming toNat → zA
open Xa renaming row → zB
open Xb renaming row → zC
open Xc renaming row → zG
open Xd renaming row → zJ
open Bool renaming true → T, false → L
open Option renaming some → N, none → O
open _root_ renaming List → P, Option → Q, Int → U, Bool → V, Nat → W, rfl → X
def Xu:Hw:=([(6,[1,8,9,10],[],[])],[])
def de:=fun a1 (a0:X1) (k_:U→Q U)=>∀{v1} {zr},k_ v1=N zr→Kh Z 128 Xu 6 [1,8,9,10] [] [] ⟨[(1,vc (aS a1)),pL 8 X7.row a0.Points,pI 9 (a0.Points.length:U),pI 10 v1],[],[]⟩ (A7 [4] [.sc (.v (.int .i64 zr))])
theorem A41{a1 a0}{n:W}:de a1 a0 (HK a1 a0 n):=by
 induction n with
 | zero=>intro _ r h; cases h
 | succ n ih=>
  intro v1 r h σ hσ;rw[HK] at h;exact gc
instance B00:Ct 128 (∀{a0} {a1} {r},Mf a0 a1=N r→FC Z 128 [.ag (X1.row a0),.sc (.str a1)] [.sc (.v (.int .i64 r))]):=by
 refine⟨fun h=> ?_⟩;unfold Mf at h;refine A4 mixed Xu [4] 21 ?_;have k0:= @A41;exact gc
instance RJ:Ct 93 (∀{a0} {a1} {r},Bt a0 a1=N r→FC Z 93 [.sc (.int .i64 a0),.sc (.int .i64 a1)] [.sc (.v (.bool r))]):=by
 refine⟨fun h=> ?_⟩;unfold Bt at h;refine A4 mixed h0 [4] 12 ?_;exact gc
instance B03:Ct 129 (∀{a0} {a1} {a2} {r},Mh a0 a1 a2=N r→FC Z 129 [.ag (X2.row a0),.sc (.int .i64 a1),.sc (.int .i64 a2)] [.sc (.v (.bool r))]):=by
 refine⟨fun h=> ?_⟩;unfold Mh at h;refine A4 mixed h0 [6] 29 ?_;exact gc
def QG:Hw:=([(14,[1,20,21,22],[1],[]),(37,[1,41,42,43],[1],[]),(59,[1,6,41,42,43,86,87,88],[1,6],[])],[])
def dL:=fun(a0:X1) v11 (x13:X2) y24 y25 (k_:U→Q V)=>∀{v26} {zr},k_ v26=N zr→Kh Z 89 QG 59 [1,6,41,42,43,86,87,88] [1,6] [] ⟨[pB 1,pB 6,pL 41 X2.row a0.Segments,pI 42 (a0.Segments.length:U),pI 43 v11,pL 86 X2.row y24,pI 87 y25,pI 88 v26],[(1,[aM X7.row a0.Points,aM X2.row a0.Segments]),(6,(dm x13.row))],[]⟩ (A7 [2] [.sc (.v (.bool zr))])
def UG:=fun(a0:X1) (k_:U→Q V)=>∀{v11} {zr},k_ v11=N zr→Kh Z 89 QG 37 [1,41,42,43] [1] [] ⟨[pB 1,pL 41 X2.row a0.Segments,pI 42 (a0.Segments.length:U),pI 43 v11],[(1,[aM X7.row a0.Points,aM X2.row a0.Segments])],[]⟩ (A7 [2] [.sc (.v (.bool zr))])
def dK:=fun(a0:X1) (k_:U→Q V)=>∀{v3} {zr},k_ v3=N zr→Kh Z 89 QG 14 [1,20,21,22] [1] [] ⟨[pB 1,pL 20 X7.row a0.Points,pI 21 (a0.Points.length:U),pI 22 v3],[(1,[aM X7.row a0.Points,aM X2.row a0.Segments])],[]⟩ (A7 [2] [.sc (.v (.bool zr))])
theorem A42{a0 v11 x13 y24 y25}{Oj}(qr:UG a0 Oj){n:W}:dL a0 v11 x13 y24 y25 (Hv a0 v11 x13 y24 y25 Oj n):=by
 induction n with
 | zero=>intro _ r h; cases h
 | succ n ih=>
  intro v26 r h σ hσ;rw[Hv] at h;have k0:= @qr;exact gc
theorem A43{a0}{n:W}:UG a0 (Em a0 n):=by
 induction n with
 | zero=>intro _ r h; cases h
 | succ n ih=>
  intro v11 r h σ hσ;rw[Em] at h;have k0:= @A42;exact gc
theorem A44{a0}{n:W}:dK a0 (Hu a0 n):=by
 induction n with
 | zero=>intro _ r h; cases h
 | succ n ih=>
  intro v3 r h σ hσ;rw[Hu] at h;have k0:= @A43;exact gc
instance A0v:Ct 89 (∀{a0} {r},Ds a0=N r→FC Z 89 [.ag (X1.row a0)] [.sc (.v (.bool r))]):=by
 refine⟨fun h=> ?_⟩;unfold Ds at h;refine A4 mixed QG [2] 100 ?_;have k0:= @A44;exact gc
instance B05:Ct 130 (∀{a0} {r},En a0=N r→FC Z 130 [.ag (X6.row a0)] [.sc (.v (.bool r))]):=by
 refine⟨fun h=> ?_⟩;unfold En at h;refine A4 mixed h0 [2] 26 ?_;exact gc
def Xv:Hw:=([(6,[1,7,8,9],[],[])],[])
def dh:=fun a1 a0 (k_:U→Q U)=>∀{v1} {zr},k_ v1=N zr→Kh Z 131 Xv 6 [1,7,8,9] [] [] ⟨[(1,vc (aS a1)),pL 7 X6.row a0,pI 8 (a0.length:U),pI 9 v1],[],[]⟩ (A7 [4] [.sc (.v (.int .i64 zr))])
theorem A45{a1 a0}{n:W}:dh a1 a0 (HM a1 a0 n):=by
 induction n with
 | zero=>intro _ r h; cases h
 | succ n ih=>
  intro v1 r h σ hσ;rw[HM] at h;exact gc
instance B04:Ct 131 (∀{a0} {a1} {r},Mi a0 a1=N r→FC Z 131 [.sc (.sl (Y X6.row a0)),.sc (.str a1)] [.sc (.v (.int .i64 r))]):=by
 refine⟨fun h=> ?_⟩;unfold Mi at h;refine A4 mixed Xv [4] 20 ?_;have k0:= @A45;exact gc
def Xw:Hw:=([(14,[0,8,9,10],[],[])],[])
def dR:=fun a0 (k_:U→Q V)=>∀{v2} {zr},k_ v2=N zr→Kh Z 90 Xw 14 [0,8,9,10] [] [] ⟨[pL 0 X6.row a0,pL 8 X6.row a0,pI 9 (a0.length:U),pI 10 v2],[],[]⟩ (A7 [2] [.sc (.v (.bool zr))])
theorem A46{a0}{n:W}:dR a0 (HE a0 n):=by
 induction n with
 | zero=>intro _ r h; cases h
 | succ n ih=>
  intro v2 r h σ hσ;rw[HE] at h;exact gc
instance B0h:Ct 90 (∀{a0} {r},JW a0=N r→FC Z 90 [.sc (.sl (Y X6.row a0))] [.sc (.v (.bool r))]):=by
 refine⟨fun h=> ?_⟩;unfold JW at h;refine A4 mixed Xw [2] 27 ?_;have k0:= @A46;exact gc
instance B01:Ct 91 (∀{a0} {r},PS a0=N r→FC Z 91 [.ag (Xh.row a0)] [.sc (.v (.bool r))]):=by
 refine⟨fun h=> ?_⟩;unfold PS at h;refine A4 mixed h0 [2] 6 ?_;exact gc
def Xx:Hw:=([(14,[8,9,10],[],[])],[])
def eG:=fun a0 (k_:U→Q V)=>∀{v2} {zr},k_ v2=N zr→Kh Z 132 Xx 14 [8,9,10] [] [] ⟨[pL 8 rI a0,pI 9 (a0.length:U),pI 10 v2],[],[]⟩ (A7 [2] [.sc (.v (.bool zr))])
theorem A47{a0}{n:W}:eG a0 (Gp a0 n):=by
 induction n with
 | zero=>intro _ r h; cases h
 | succ n ih=>
  intro v2 r h σ hσ;rw[Gp] at h;exact gc
instance B1k:Ct 132 (∀{a0} {r},Gn a0=N r→FC Z 132 [.sc (.sl (Y rI a0))] [.sc (.v (.bool r))]):=by
 refine⟨fun h=> ?_⟩;unfold Gn at h;refine A4 mixed Xx [2] 18 ?_;have k0:= @A47;exact gc
instance B0f:Ct 92 (∀{a0} {r},LY a0=N r→FC Z 92 [.ag (Xm.row a0)] [.sc (.v (.bool r))]):=by
 refine⟨fun h=> ?_⟩;unfold LY at h;refine A4 mixed h0 [2] 21 ?_;exact gc
instance B0m:Ct 54 (∀{a0} {r},JX a0=N r→FC Z 54 [.ag (X4.row a0)] [.sc (.v (.bool r))]):=by
 refine⟨fun h=> ?_⟩;unfold JX at h;refine A4 mixed h0 [2] 26 ?_;exact gc
instance B1e:Ct 55 (∀{a0} {a1} {r},K9 a0 a1=N r→FC Z 55 [.ag (X4.row a0),.ag (zC a1)] [.sc (.v (.bool r))]):=by
 refine⟨fun h=> ?_⟩;unfold K9 at h;refine A4 mixed h0 [4] 47 ?_;exact gc
def T2:Hw:=([(14,[1,2,17,18,19],[2],[]),(36,[1,2,6,17,18,19,30,31,32],[2,6],[])],[])
def dJ:=fun a1 v4 (a0:X4) (x6:Xb) y10 y11 (k_:U→Q V)=>∀{v12} {zr},k_ v12=N zr→Kh Z 26 T2 36 [1,2,6,17,18,19,30,31,32] [2,6] [] ⟨[pL 1 zC a1,pB 2,pB 6,pL 17 zC a1,pI 18 (a1.length:U),pI 19 v4,pL 30 zC y10,pI 31 y11,pI 32 v12],[(2,([aI a0.Forecast.Tide.Mean,aM zG a0.Forecast.Tide.Parts,aM X9.row a0.Forecast.Surges,aM X7.row a0.Chart.Points,aM X2.row a0.Chart.Segments,aM X6.row a0.Fleet,aI a0.Regime.Gap,aB a0.Regime.NoMeet]++dm a0.Crew.row)),(6,(dm x6.row))],[]⟩ (A7 [4] [.sc (.v (.bool zr))])
def UF:=fun a1 (a0:X4) (k_:U→Q V)=>∀{v4} {zr},k_ v4=N zr→Kh Z 26 T2 14 [1,2,17,18,19] [2] [] ⟨[pL 1 zC a1,pB 2,pL 17 zC a1,pI 18 (a1.length:U),pI 19 v4],[(2,([aI a0.Forecast.Tide.Mean,aM zG a0.Forecast.Tide.Parts,aM X9.row a0.Forecast.Surges,aM X7.row a0.Chart.Points,aM X2.row a0.Chart.Segments,aM X6.row a0.Fleet,aI a0.Regime.Gap,aB a0.Regime.NoMeet]++dm a0.Crew.row))],[]⟩ (A7 [4] [.sc (.v (.bool zr))])
theorem A48{a1 v4 a0 x6 y10 y11}{Oi}(qq:UF a1 a0 Oi){n:W}:dJ a1 v4 a0 x6 y10 y11 (F9 a1 v4 a0 x6 y10 y11 Oi n):=by
 induction n with
 | zero=>intro _ r h; cases h
 | succ n ih=>
  intro v12 r h σ hσ;rw[F9] at h;have k0:= @qq;exact gc
theorem A49{a1 a0}{n:W}:UF a1 a0 (DO a1 a0 n):=by
 induction n with
 | zero=>intro _ r h; cases h
 | succ n ih=>
  intro v4 r h σ hσ;rw[DO] at h;have k0:= @A48;exact gc
instance A0u:Ct 26 (∀{a0} {a1} {r},Dr a0 a1=N r→FC Z 26 [.ag (X4.row a0),.sc (.sl (Y zC a1))] [.sc (.v (.bool r))]):=by
 refine⟨fun h=> ?_⟩;unfold Dr at h;refine A4 mixed T2 [4] 43 ?_;have k0:= @A49;exact gc
instance B0c:Ct 135 (∀{a0} {a1} {r},LV a0 a1=N r→FC Z 135 [.ag (X4.row a0),.ag (zC a1)] [.sc (.v (.bool r))]):=by
 refine⟨fun h=> ?_⟩;unfold LV at h;refine A4 mixed h0 [4] 12 ?_;exact gc
instance RI:Ct 62 (∀{a0} {r},Bi a0=N r→FC Z 62 [.sc (.sl (Y rI a0))] [.sc (.o 1 (Y rI r))]):=by
 refine⟨fun h=> ?_⟩;unfold Bi at h;refine A4 mixed h0 [2] 8 ?_;have s0:= @Ea _ rI (0:U);exact gc
instance bZ:Ct 214 (∀{a0} {a1} {r},K6 a0 a1=N r→FC Z 214 [.ag (X2.row a0),.sc (.int .i64 a1)] [.sc (.v (.int .i64 r))]):=by
 refine⟨fun h=> ?_⟩;unfold K6 at h;refine A4 mixed h0 [4] 18 ?_;exact gc
def Ph:P (P W × AItem):= [([],(O,.mv 18 (S 5))),([],(O,.mv 19 (S 5))),([1],(O,.nilc 20 (S 19))),([2],(O,.load 21 (S 20) L 1)),([],(O,.mv 22 (S 3))),([4],(O,.call 23 62 [(S 22)])),([5],(O,.bslice 24 1 [.sl []] 1 [(0,(S 23))])),([3,6,5],(O,.app 25 1 24 (S 21) (S 24))),([0,0,1,2,3,4,5,6,7],(O,.nilc 26 (S 18))),([8,7,7,0,1,2,3,4,5,6,7],(O,.store (S 26) (S 25) 1))]
def Ls:P (P W × AItem):= [([],(O,.load 48 (S 6) T 2)),([],(O,.mv 49 (S 14))),([],(O,.mv 50 (S 2))),([],(O,.mv 51 (S 3))),([3],(O,.call 52 62 [(S 51)])),([],(O,.mv 53 (S 12))),([5],(O,.bslice 54 1 [.int .i64 0] 1 [(0,(S 53))])),([4,6,4],(O,.app 55 1 8 (S 52) (S 54))),([],(O,.load 56 (S 10) T 8)),([],(O,.mv 57 (S 5))),([0,1,2,7,8,9,7],(O,.call 58 188 [(S 48),(S 49),(S 50),(S 55),(S 56),(S 57)]))]
def QI:Hw:=([(15,[1,2,3,5,6,10,30,31,32],[99999999999,6,10],[90000]),(30,[1,2,3,5,6,10,12,14,30,31,32,47],[99999999999,6,10],[90000])],[])
abbrev CQ(a3:P U)(wo3_ wo5_:AV)(c0_ c1_:V)(c2_ c3_:V)(c4_ c5_:V)(c6_ c7_ c8_:V)(bx_:P (W × P AC))(rs_:Rows):St:=⟨[(3,vc (aL (Y rI a3))),(5,vc (.pb 99999999999 0)),(18,bif c0_ then vc (.pb 99999999999 0) else .undef),(19,bif c1_ then vc (.pb 99999999999 0) else .undef),(20,bif c2_ then vc (.pb 99999999999 0) else .undef),(21,bif c3_ then wo3_ else .undef),(22,bif c4_ then vc (aL (Y rI a3)) else .undef),(23,bif c5_ then wo5_ else .undef),(24,bif c6_ then vc (.own 1536) else .undef),(25,bif c7_ then vc (.own 90000) else .undef),(26,bif c8_ then vc (.pb 99999999999 0) else .undef)],bx_,rs_⟩
abbrev Ju(a3:P U)(a5:P (P U))(r2:(P U)):St:=(CQ a3 (vc (.undef)) (vc (aL (Y rI r2))) T T T T T T T T T [(99999999999,[.own 90000])] [(90000,1,Y (rL rI) (a5++([r2]:P (P U)))),(1536,1,Y (rL rI) ([r2]:P (P U)))])
theorem A5a(rec_:X1→U→U→(P U)→X8→(P (P U))→Q (P (P U)))(h_rec:∀(a0:X1) (a1 a2:U) (a3:P U) (a4:X8) (a5:P (P U)) zr,rec_ a0 a1 a2 a3 a4 a5=N zr→FCz Z 188 [.d (.ag (X1.row a0)),.d (.sc (.int .i64 a1)),.d (.sc (.int .i64 a2)),.d (.sc (.sl (Y rI a3))),.d (.ag (X8.row a4)),.p] [.r 0] [(1,Y (rL rI) a5)] [.r 0] [(1,Y (rL rI) zr)] [])(a3)(a5:P (P U))(r2)(h2:Bi a3=N r2)(h3:(A3 a5.length ([r2]:P (P U)).length 24)=T):∀(f:W),Ad Z Ph (Ju a3 a5 r2) f [T,T,T,T,T,T,T,T,T,T] (CQ a3 (vc (.undef)) (vc (aL (Y rI r2))) T T T T T T T T T [(99999999999,[.own 90000])] [(90000,1,Y (rL rI) (a5++([r2]:P (P U)))),(1536,1,Y (rL rI) ([r2]:P (P U)))]):=by
 intro f
 induction f with
 | zero=>intro h; rfl
 | succ f ih=>
  refine Af ⟨?_,?_,?_,?_,?_,?_,?_,?_,?_,?_,⟨⟩⟩<;>try first | (intro h; cases h; done)
theorem A5b(rec_:X1→U→U→(P U)→X8→(P (P U))→Q (P (P U)))(h_rec:∀(a0:X1) (a1 a2:U) (a3:P U) (a4:X8) (a5:P (P U)) zr,rec_ a0 a1 a2 a3 a4 a5=N zr→FCz Z 188 [.d (.ag (X1.row a0)),.d (.sc (.int .i64 a1)),.d (.sc (.int .i64 a2)),.d (.sc (.sl (Y rI a3))),.d (.ag (X8.row a4)),.p] [.r 0] [(1,Y (rL rI) a5)] [.r 0] [(1,Y (rL rI) zr)] [])(a3)(a5:P (P U))(r2)(h2:Bi a3=N r2)(h3:(A3 a5.length ([r2]:P (P U)).length 24)=T):∀(f:W) (b0 b1:V) (b2 b8:V),Ad Z Ph (Ju a3 a5 r2) f [b0,b1,b2,T,T,T,T,T,b8,L] (CQ a3 (vc (.undef)) (vc (aL (Y rI r2))) b0 b1 b2 T T T T T b8 [(99999999999,[.undef])] [(90000,1,Y (rL rI) (a5++([r2]:P (P U)))),(1536,1,Y (rL rI) ([r2]:P (P U)))]):=by
 intro f
 induction f with
 | zero=>intro b0 b1 b2 b8 h; simp at h
 | succ f ih=>
  intro b0 b1 b2 b8;refine Af ⟨?_,?_,?_,?_,?_,?_,?_,?_,?_,?_,⟨⟩⟩<;>try first | (intro h; cases h; done) | (intro h0 hw; obtain rfl:=hz h0 rfl; (try obtain rfl:=hq hw 0 rfl rfl); (try obtain rfl:=hq hw 1 rfl rfl); (try obtain rfl:=hq hw 2 rfl rfl); refine np ?_; simp only[CQ,A5,A6,A2,C,E,F,G,H,J]; exact ih _ _ _ _)
  ·intro h0 hw;obtain rfl:=hq hw 0 rfl rfl;obtain rfl:=hq hw 1 rfl rfl;obtain rfl:=hq hw 2 rfl rfl;obtain rfl:=hq hw 8 rfl rfl;refine np ?_;try simp only[CQ,A5,A6,A2,C,E,F,G,H,J]
   exact A5a rec_ h_rec a3 a5 r2 h2 h3 _
theorem A5c(rec_:X1→U→U→(P U)→X8→(P (P U))→Q (P (P U)))(h_rec:∀(a0:X1) (a1 a2:U) (a3:P U) (a4:X8) (a5:P (P U)) zr,rec_ a0 a1 a2 a3 a4 a5=N zr→FCz Z 188 [.d (.ag (X1.row a0)),.d (.sc (.int .i64 a1)),.d (.sc (.int .i64 a2)),.d (.sc (.sl (Y rI a3))),.d (.ag (X8.row a4)),.p] [.r 0] [(1,Y (rL rI) a5)] [.r 0] [(1,Y (rL rI) zr)] [])(a3)(a5:P (P U))(r2)(h2:Bi a3=N r2)(h3:(A3 a5.length ([r2]:P (P U)).length 24)=T):∀(f:W) (b0 b1:V) (b2 b3:V),Ad Z Ph (Ju a3 a5 r2) f [b0,b1,b2,b3,T,T,T,L,L,L] (CQ a3 (vc (.own 90000)) (vc (aL (Y rI r2))) b0 b1 b2 b3 T T T L L [(99999999999,[.own 90000])] [(90000,1,Y (rL rI) a5),(1536,1,Y (rL rI) ([r2]:P (P U)))]):=by
 intro f
 induction f with
 | zero=>intro b0 b1 b2 b3 h; simp at h
 | succ f ih=>
  intro b0 b1 b2 b3;refine Af ⟨?_,?_,?_,?_,?_,?_,?_,?_,?_,?_,⟨⟩⟩<;>try first | (intro h; cases h; done) | (intro _ hw; simp at hw; done) | (intro h0 hw; obtain rfl:=hz h0 rfl; (try obtain rfl:=hq hw 1 rfl rfl); (try obtain rfl:=hq hw 2 rfl rfl); refine np ?_; simp only[CQ,A5,A6,A2,C,E,F,G,H,J]; exact ih _ _ _ _)
  ·intro h0 hw;obtain rfl:=hq hw 3 rfl rfl;refine np ?_;try simp only[h3,CQ,A5,A6,A2,C,E,F,G,H,J]
   exact A5b rec_ h_rec a3 a5 r2 h2 h3 _ b0 b1 b2 L
theorem A5d(rec_:X1→U→U→(P U)→X8→(P (P U))→Q (P (P U)))(h_rec:∀(a0:X1) (a1 a2:U) (a3:P U) (a4:X8) (a5:P (P U)) zr,rec_ a0 a1 a2 a3 a4 a5=N zr→FCz Z 188 [.d (.ag (X1.row a0)),.d (.sc (.int .i64 a1)),.d (.sc (.int .i64 a2)),.d (.sc (.sl (Y rI a3))),.d (.ag (X8.row a4)),.p] [.r 0] [(1,Y (rL rI) a5)] [.r 0] [(1,Y (rL rI) zr)] [])(a3)(a5:P (P U))(r2)(h2:Bi a3=N r2)(h3:(A3 a5.length ([r2]:P (P U)).length 24)=T):∀(f:W) (b0 b1:V) (b2 b3:V),Ad Z Ph (Ju a3 a5 r2) f [b0,b1,b2,b3,T,T,L,L,L,L] (CQ a3 (vc (.own 90000)) (vc (.own 1472)) b0 b1 b2 b3 T T L L L [(99999999999,[.own 90000])] [(90000,1,Y (rL rI) a5),(1472,1,Y rI r2)]):=by
 intro f
 induction f with
 | zero=>intro b0 b1 b2 b3 h; simp at h
 | succ f ih=>
  intro b0 b1 b2 b3;refine Af ⟨?_,?_,?_,?_,?_,?_,?_,?_,?_,?_,⟨⟩⟩<;>try first | (intro h; cases h; done) | (intro _ hw; simp at hw; done) | (intro h0 hw; obtain rfl:=hz h0 rfl; (try obtain rfl:=hq hw 1 rfl rfl); (try obtain rfl:=hq hw 2 rfl rfl); refine np ?_; simp only[CQ,A5,A6,A2,C,E,F,G,H,J]; exact ih _ _ _ _)
  ·intro h0 hw;refine⟨[(O,.frz 1472)],[],X,X,?_⟩;try simp only[CQ,A5,A6,zI,zH,A2,C,E,F,G,H,J]
   refine C8 ?_;try simp only[A2,C,E,F,G,H,J]
   refine Aq (es:=Y (rL rI) ([r2]:P (P U))) X (by simp only[St.fresh,zD,zE,Ah]; simp[AV.cells,V1.cells,AC.uses]) ?_;try simp only[A2,C,E,F,G,H,J]
   exact A5c rec_ h_rec a3 a5 r2 h2 h3 _ b0 b1 b2 b3
theorem A5f(rec_:X1→U→U→(P U)→X8→(P (P U))→Q (P (P U)))(h_rec:∀(a0:X1) (a1 a2:U) (a3:P U) (a4:X8) (a5:P (P U)) zr,rec_ a0 a1 a2 a3 a4 a5=N zr→FCz Z 188 [.d (.ag (X1.row a0)),.d (.sc (.int .i64 a1)),.d (.sc (.int .i64 a2)),.d (.sc (.sl (Y rI a3))),.d (.ag (X8.row a4)),.p] [.r 0] [(1,Y (rL rI) a5)] [.r 0] [(1,Y (rL rI) zr)] [])(a3)(a5:P (P U))(r2)(h2:Bi a3=N r2)(h3:(A3 a5.length ([r2]:P (P U)).length 24)=T):∀(f:W) (b0 b1:V) (b2 b3 b4:V),Ad Z Ph (Ju a3 a5 r2) f [b0,b1,b2,b3,b4,L,L,L,L,L] (CQ a3 (vc (.own 90000)) (vc (.own 1472)) b0 b1 b2 b3 b4 L L L L [(99999999999,[.own 90000])] [(90000,1,Y (rL rI) a5)]):=by
 intro f
 induction f with
 | zero=>intro b0 b1 b2 b3 b4 h; simp at h
 | succ f ih=>
  intro b0 b1 b2 b3 b4;refine Af ⟨?_,?_,?_,?_,?_,?_,?_,?_,?_,?_,⟨⟩⟩<;>try first | (intro _ hw; simp at hw; done) | (intro h0 hw; obtain rfl:=hz h0 rfl; (try obtain rfl:=hq hw 1 rfl rfl); (try obtain rfl:=hq hw 2 rfl rfl); refine np ?_; simp only[CQ,A5,A6,A2,C,E,F,G,H,J]; exact ih _ _ _ _ _)
  ·intro h0 hw;obtain rfl:=hq hw 4 rfl rfl;refine np ?_;try simp only[CQ,A5,A6,A2,C,E,F,G,H,J]
   refine KY (Ag RI h2) X (by simp only[St.fresh,zD,zE,Ah]; simp[AV.cells,V1.cells,AC.uses]) (uf X) ?_;try simp only[A2,C,E,F,G,H,J]
   exact A5d rec_ h_rec a3 a5 r2 h2 h3 _ b0 b1 b2 b3
abbrev Cb(a1 a2:U)(a3:P U)(v6 r11:U)(a0:X1)(y7:X8)(wo4_ wo7_:AV)(c0_ c1_:V)(c2_ c3_:V)(c4_ c5_:V)(c6_ c7_:V)(c8_ c9_ c10_:V)(bx_:P (W × P AC))(rs_:Rows):St:=⟨[(1,vc (aI a1)),(2,vc (aI a2)),(3,vc (aL (Y rI a3))),(5,vc (.pb 99999999999 0)),(6,vc (.pb 6 0)),(10,vc (.pb 10 0)),(12,vc (aI v6)),(14,vc (aI r11)),(30,vc (aL (Y X2.row a0.Segments))),(31,vc (aI (a0.Segments.length:U))),(32,vc (aI v6)),(48,bif c0_ then va [aL (Y X7.row a0.Points),aL (Y X2.row a0.Segments)] else .undef),(49,bif c1_ then vc (aI r11) else .undef),(50,bif c2_ then vc (aI a2) else .undef),(51,bif c3_ then vc (aL (Y rI a3)) else .undef),(52,bif c4_ then wo4_ else .undef),(53,bif c5_ then vc (aI v6) else .undef),(54,bif c6_ then vc (.own 3456) else .undef),(55,bif c7_ then wo7_ else .undef),(56,bif c8_ then va [aB y7.i0,aB y7.i1,aB y7.i2,aB y7.i3,aB y7.i4,aB y7.i5,aB y7.i6,aB y7.i7] else .undef),(57,bif c9_ then vc (.pb 99999999999 0) else .undef),(58,bif c10_ then .tup [] else .undef)],bx_,rs_⟩
abbrev Ha(a1 a2:U)(a3:P U)(v6 r11:U)(a0:X1)(y7:X8)(r18:(P U))(r20:(P (P U))):St:=(Cb a1 a2 a3 v6 r11 a0 y7 (vc (.undef)) (vc (aL (Y rI (r18++([v6]:P U))))) T T T T T T T T T T T [(99999999999,[.own 90000]),(6,[aL (Y X7.row a0.Points),aL (Y X2.row a0.Segments)]),(10,[aB y7.i0,aB y7.i1,aB y7.i2,aB y7.i3,aB y7.i4,aB y7.i5,aB y7.i6,aB y7.i7])] [(90000,1,Y (rL rI) r20),(3456,1,Y rI ([v6]:P U))])
theorem A5g(rec_:X1→U→U→(P U)→X8→(P (P U))→Q (P (P U)))(h_rec:∀(a0:X1) (a1 a2:U) (a3:P U) (a4:X8) (a5:P (P U)) zr,rec_ a0 a1 a2 a3 a4 a5=N zr→FCz Z 188 [.d (.ag (X1.row a0)),.d (.sc (.int .i64 a1)),.d (.sc (.int .i64 a2)),.d (.sc (.sl (Y rI a3))),.d (.ag (X8.row a4)),.p] [.r 0] [(1,Y (rL rI) a5)] [.r 0] [(1,Y (rL rI) zr)] [])(a1:U)(a2)(a3)(v6)(r11)(a0)(y7)(v8)(r18)(r20)(h18:Bi a3=N r18)(h19:(A3 r18.length ([v6]:P U).length 8)=T)(h20:rec_ a0 r11 a2 (r18++([v6]:P U)) y7 v8=N r20):∀(f:W),Ad Z Ls (Ha a1 a2 a3 v6 r11 a0 y7 r18 r20) f [T,T,T,T,T,T,T,T,T,T,T] (Cb a1 a2 a3 v6 r11 a0 y7 (vc (.undef)) (vc (aL (Y rI (r18++([v6]:P U))))) T T T T T T T T T T T [(99999999999,[.own 90000]),(6,[aL (Y X7.row a0.Points),aL (Y X2.row a0.Segments)]),(10,[aB y7.i0,aB y7.i1,aB y7.i2,aB y7.i3,aB y7.i4,aB y7.i5,aB y7.i6,aB y7.i7])] [(90000,1,Y (rL rI) r20),(3456,1,Y rI ([v6]:P U))]):=by
 intro f
 induction f with
 | zero=>intro h; rfl
 | succ f ih=>
  refine Af ⟨?_,?_,?_,?_,?_,?_,?_,?_,?_,?_,?_,⟨⟩⟩<;>try first | (intro h; cases h; done)
theorem A5h(rec_:X1→U→U→(P U)→X8→(P (P U))→Q (P (P U)))(h_rec:∀(a0:X1) (a1 a2:U) (a3:P U) (a4:X8) (a5:P (P U)) zr,rec_ a0 a1 a2 a3 a4 a5=N zr→FCz Z 188 [.d (.ag (X1.row a0)),.d (.sc (.int .i64 a1)),.d (.sc (.int .i64 a2)),.d (.sc (.sl (Y rI a3))),.d (.ag (X8.row a4)),.p] [.r 0] [(1,Y (rL rI) a5)] [.r 0] [(1,Y (rL rI) zr)] [])(a1:U)(a2)(a3)(v6)(r11)(a0)(y7)(v8)(r18)(r20)(h18:Bi a3=N r18)(h19:(A3 r18.length ([v6]:P U).length 8)=T)(h20:rec_ a0 r11 a2 (r18++([v6]:P U)) y7 v8=N r20):∀(f:W) (b0 b1:V) (b2 b8 b9:V),Ad Z Ls (Ha a1 a2 a3 v6 r11 a0 y7 r18 r20) f [b0,b1,b2,T,T,T,T,T,b8,b9,L] (Cb a1 a2 a3 v6 r11 a0 y7 (vc (.undef)) (vc (.own 3328)) b0 b1 b2 T T T T T b8 b9 L [(99999999999,[.own 90000]),(6,[aL (Y X7.row a0.Points),aL (Y X2.row a0.Segments)]),(10,[aB y7.i0,aB y7.i1,aB y7.i2,aB y7.i3,aB y7.i4,aB y7.i5,aB y7.i6,aB y7.i7])] [(90000,1,Y (rL rI) v8),(3328,1,Y rI (r18++([v6]:P U))),(3456,1,Y rI ([v6]:P U))]):=by
 intro f
 induction f with
 | zero=>intro b0 b1 b2 b8 b9 h; simp at h
 | succ f ih=>
  intro b0 b1 b2 b8 b9;refine Af ⟨?_,?_,?_,?_,?_,?_,?_,?_,?_,?_,?_,⟨⟩⟩<;>try first | (intro h; cases h; done) | (intro h0 hw; obtain rfl:=hz h0 rfl; refine np ?_; simp only[Cb,A5,A6,A2,C,E,F,G,H,J]; exact ih _ _ _ _ _)
  ·intro h0 hw;obtain rfl:=hq hw 0 rfl rfl;obtain rfl:=hq hw 1 rfl rfl;obtain rfl:=hq hw 2 rfl rfl;obtain rfl:=hq hw 8 rfl rfl;obtain rfl:=hq hw 9 rfl rfl;refine⟨[(O,.frz 3328)],[],X,X,?_⟩;try simp only[Cb,A5,A6,zI,zH,A2,C,E,F,G,H,J]
   refine C8 ?_;try simp only[A2,C,E,F,G,H,J]
   refine GQ (h_rec _ _ _ _ _ _ _ h20) 99999999999 [90000] rfl X X X (by decide) X X X ?_;try simp only[A2,C,E,F,G,H,J]
   exact A5g rec_ h_rec a1 a2 a3 v6 r11 a0 y7 v8 r18 r20 h18 h19 h20 _
theorem cC(rec_:X1→U→U→(P U)→X8→(P (P U))→Q (P (P U)))(h_rec:∀(a0:X1) (a1 a2:U) (a3:P U) (a4:X8) (a5:P (P U)) zr,rec_ a0 a1 a2 a3 a4 a5=N zr→FCz Z 188 [.d (.ag (X1.row a0)),.d (.sc (.int .i64 a1)),.d (.sc (.int .i64 a2)),.d (.sc (.sl (Y rI a3))),.d (.ag (X8.row a4)),.p] [.r 0] [(1,Y (rL rI) a5)] [.r 0] [(1,Y (rL rI) zr)] [])(a1:U)(a2)(a3)(v6)(r11)(a0)(y7)(v8)(r18)(r20)(h18:Bi a3=N r18)(h19:(A3 r18.length ([v6]:P U).length 8)=T)(h20:rec_ a0 r11 a2 (r18++([v6]:P U)) y7 v8=N r20):∀(f:W) (b0 b1:V) (b2 b8 b9:V),Ad Z Ls (Ha a1 a2 a3 v6 r11 a0 y7 r18 r20) f [b0,b1,b2,T,T,T,T,L,b8,b9,L] (Cb a1 a2 a3 v6 r11 a0 y7 (vc (.own 3328)) (vc (.own 3328)) b0 b1 b2 T T T T L b8 b9 L [(99999999999,[.own 90000]),(6,[aL (Y X7.row a0.Points),aL (Y X2.row a0.Segments)]),(10,[aB y7.i0,aB y7.i1,aB y7.i2,aB y7.i3,aB y7.i4,aB y7.i5,aB y7.i6,aB y7.i7])] [(90000,1,Y (rL rI) v8),(3328,1,Y rI r18),(3456,1,Y rI ([v6]:P U))]):=by
 intro f
 induction f with
 | zero=>intro b0 b1 b2 b8 b9 h; simp at h
 | succ f ih=>
  intro b0 b1 b2 b8 b9;refine Af ⟨?_,?_,?_,?_,?_,?_,?_,?_,?_,?_,?_,⟨⟩⟩<;>try first | (intro h; cases h; done) | (intro _ hw; simp at hw; done) | (intro h0 hw; obtain rfl:=hz h0 rfl; refine np ?_; simp only[Cb,A5,A6,A2,C,E,F,G,H,J]; exact ih _ _ _ _ _)
  ·intro h0 hw;refine np ?_;try simp only[h19,Cb,A5,A6,A2,C,E,F,G,H,J]
   exact A5h rec_ h_rec a1 a2 a3 v6 r11 a0 y7 v8 r18 r20 h18 h19 h20 _ b0 b1 b2 b8 b9
theorem A5i(rec_:X1→U→U→(P U)→X8→(P (P U))→Q (P (P U)))(h_rec:∀(a0:X1) (a1 a2:U) (a3:P U) (a4:X8) (a5:P (P U)) zr,rec_ a0 a1 a2 a3 a4 a5=N zr→FCz Z 188 [.d (.ag (X1.row a0)),.d (.sc (.int .i64 a1)),.d (.sc (.int .i64 a2)),.d (.sc (.sl (Y rI a3))),.d (.ag (X8.row a4)),.p] [.r 0] [(1,Y (rL rI) a5)] [.r 0] [(1,Y (rL rI) zr)] [])(a1:U)(a2)(a3)(v6)(r11)(a0)(y7)(v8)(r18)(r20)(h18:Bi a3=N r18)(h19:(A3 r18.length ([v6]:P U).length 8)=T)(h20:rec_ a0 r11 a2 (r18++([v6]:P U)) y7 v8=N r20):∀(f:W) (b0 b1:V) (b2 b5:V) (b8 b9:V),Ad Z Ls (Ha a1 a2 a3 v6 r11 a0 y7 r18 r20) f [b0,b1,b2,T,T,b5,L,L,b8,b9,L] (Cb a1 a2 a3 v6 r11 a0 y7 (vc (.own 3328)) (vc (.own 3328)) b0 b1 b2 T T b5 L L b8 b9 L [(99999999999,[.own 90000]),(6,[aL (Y X7.row a0.Points),aL (Y X2.row a0.Segments)]),(10,[aB y7.i0,aB y7.i1,aB y7.i2,aB y7.i3,aB y7.i4,aB y7.i5,aB y7.i6,aB y7.i7])] [(90000,1,Y (rL rI) v8),(3328,1,Y rI r18)]):=by
 intro f
 induction f with
 | zero=>intro b0 b1 b2 b5 b8 b9 h; simp at h
 | succ f ih=>
  intro b0 b1 b2 b5 b8 b9;refine Af ⟨?_,?_,?_,?_,?_,?_,?_,?_,?_,?_,?_,⟨⟩⟩<;>try first | (intro h; cases h; done) | (intro _ hw; simp at hw; done) | (intro h0 hw; obtain rfl:=hz h0 rfl; refine np ?_; simp only[Cb,A5,A6,A2,C,E,F,G,H,J]; exact ih _ _ _ _ _ _)
  ·intro h0 hw;obtain rfl:=hq hw 5 rfl rfl;refine np ?_;try simp only[Cb,A5,A6,A2,C,E,F,G,H,J]
   refine Aq (es:=Y rI ([v6]:P U)) X (by simp only[St.fresh,zD,zE,Ah]; simp[AV.cells,V1.cells,AC.uses]) ?_;try simp only[A2,C,E,F,G,H,J]
   exact cC rec_ h_rec a1 a2 a3 v6 r11 a0 y7 v8 r18 r20 h18 h19 h20 _ b0 b1 b2 b8 b9
theorem A5j(rec_:X1→U→U→(P U)→X8→(P (P U))→Q (P (P U)))(h_rec:∀(a0:X1) (a1 a2:U) (a3:P U) (a4:X8) (a5:P (P U)) zr,rec_ a0 a1 a2 a3 a4 a5=N zr→FCz Z 188 [.d (.ag (X1.row a0)),.d (.sc (.int .i64 a1)),.d (.sc (.int .i64 a2)),.d (.sc (.sl (Y rI a3))),.d (.ag (X8.row a4)),.p] [.r 0] [(1,Y (rL rI) a5)] [.r 0] [(1,Y (rL rI) zr)] [])(a1:U)(a2)(a3)(v6)(r11)(a0)(y7)(v8)(r18)(r20)(h18:Bi a3=N r18)(h19:(A3 r18.length ([v6]:P U).length 8)=T)(h20:rec_ a0 r11 a2 (r18++([v6]:P U)) y7 v8=N r20):∀(f:W) (b0 b1:V) (b2 b3:V) (b8 b9:V),Ad Z Ls (Ha a1 a2 a3 v6 r11 a0 y7 r18 r20) f [b0,b1,b2,b3,L,T,T,L,b8,b9,L] (Cb a1 a2 a3 v6 r11 a0 y7 (vc (.own 3328)) (vc (.own 3328)) b0 b1 b2 b3 L T T L b8 b9 L [(99999999999,[.own 90000]),(6,[aL (Y X7.row a0.Points),aL (Y X2.row a0.Segments)]),(10,[aB y7.i0,aB y7.i1,aB y7.i2,aB y7.i3,aB y7.i4,aB y7.i5,aB y7.i6,aB y7.i7])] [(90000,1,Y (rL rI) v8),(3456,1,Y rI ([v6]:P U))]):=by
 intro f
 induction f with
 | zero=>intro b0 b1 b2 b3 b8 b9 h; simp at h
 | succ f ih=>
  intro b0 b1 b2 b3 b8 b9;refine Af ⟨?_,?_,?_,?_,?_,?_,?_,?_,?_,?_,?_,⟨⟩⟩<;>try first | (intro h; cases h; done) | (intro _ hw; simp at hw; done) | (intro h0 hw; obtain rfl:=hz h0 rfl; refine np ?_; simp only[Cb,A5,A6,A2,C,E,F,G,H,J]; exact ih _ _ _ _ _ _)
  ·intro h0 hw;obtain rfl:=hq hw 3 rfl rfl;refine⟨[],[(O,.keep [1,2,3,5,6,10,12,14,30,31,32,48,49,50,51,52,53,54,55,56,57,58] [99999999999,6,10] [90000,3328,3456])],X,X,?_⟩;try simp only[Cb,A5,A6,zI,zH,A2,C,E,F,G,H,J]
   refine KY (Ag RI h18) X (by simp only[St.fresh,zD,zE,Ah]; simp[AV.cells,V1.cells,AC.uses]) (uf X) ?_;try simp only[A2,C,E,F,G,H,J]
   exact cC rec_ h_rec a1 a2 a3 v6 r11 a0 y7 v8 r18 r20 h18 h19 h20 _ b0 b1 b2 b8 b9
theorem A5k(rec_:X1→U→U→(P U)→X8→(P (P U))→Q (P (P U)))(h_rec:∀(a0:X1) (a1 a2:U) (a3:P U) (a4:X8) (a5:P (P U)) zr,rec_ a0 a1 a2 a3 a4 a5=N zr→FCz Z 188 [.d (.ag (X1.row a0)),.d (.sc (.int .i64 a1)),.d (.sc (.int .i64 a2)),.d (.sc (.sl (Y rI a3))),.d (.ag (X8.row a4)),.p] [.r 0] [(1,Y (rL rI) a5)] [.r 0] [(1,Y (rL rI) zr)] [])(a1:U)(a2)(a3)(v6)(r11)(a0)(y7)(v8)(r18)(r20)(h18:Bi a3=N r18)(h19:(A3 r18.length ([v6]:P U).length 8)=T)(h20:rec_ a0 r11 a2 (r18++([v6]:P U)) y7 v8=N r20):∀(f:W) (b0 b1:V) (b2 b3:V) (b5 b8 b9:V),Ad Z Ls (Ha a1 a2 a3 v6 r11 a0 y7 r18 r20) f [b0,b1,b2,b3,L,b5,L,L,b8,b9,L] (Cb a1 a2 a3 v6 r11 a0 y7 (vc (.own 3328)) (vc (.own 3328)) b0 b1 b2 b3 L b5 L L b8 b9 L [(99999999999,[.own 90000]),(6,[aL (Y X7.row a0.Points),aL (Y X2.row a0.Segments)]),(10,[aB y7.i0,aB y7.i1,aB y7.i2,aB y7.i3,aB y7.i4,aB y7.i5,aB y7.i6,aB y7.i7])] [(90000,1,Y (rL rI) v8)]):=by
 intro f
 induction f with
 | zero=>intro b0 b1 b2 b3 b5 b8 b9 h; simp at h
 | succ f ih=>
  intro b0 b1 b2 b3 b5 b8 b9;refine Af ⟨?_,?_,?_,?_,?_,?_,?_,?_,?_,?_,?_,⟨⟩⟩<;>try first | (intro _ hw; simp at hw; done) | (intro h0 hw; obtain rfl:=hz h0 rfl; refine np ?_; simp only[Cb,A5,A6,A2,C,E,F,G,H,J]; exact ih _ _ _ _ _ _ _)
  ·intro h0 hw;obtain rfl:=hq hw 3 rfl rfl;refine np ?_;try simp only[Cb,A5,A6,A2,C,E,F,G,H,J]
   refine KY (Ag RI h18) X (by simp only[St.fresh,zD,zE,Ah]; simp[AV.cells,V1.cells,AC.uses]) (uf X) ?_;try simp only[A2,C,E,F,G,H,J]
   exact A5i rec_ h_rec a1 a2 a3 v6 r11 a0 y7 v8 r18 r20 h18 h19 h20 _ b0 b1 b2 b5 b8 b9
  ·intro h0 hw;obtain rfl:=hq hw 5 rfl rfl;refine np ?_;try simp only[Cb,A5,A6,A2,C,E,F,G,H,J]
   refine Aq (es:=Y rI ([v6]:P U)) X (by simp only[St.fresh,zD,zE,Ah]; simp[AV.cells,V1.cells,AC.uses]) ?_;try simp only[A2,C,E,F,G,H,J]
   exact A5j rec_ h_rec a1 a2 a3 v6 r11 a0 y7 v8 r18 r20 h18 h19 h20 _ b0 b1 b2 b3 b8 b9
def dN:=fun a1 a2 a3 v6 r11 (a0:X1) (y7:X8) v8 (k_:V→Q (P (P U)))=>∀{v16} {zr},k_ v16=N zr→Kh Z 188 QI 30 [1,2,3,5,6,10,12,14,30,31,32,47] [99999999999,6,10] [90000] ⟨[pI 1 a1,pI 2 a2,pL 3 rI a3,(5,vc (.pb 99999999999 0)),pB 6,pB 10,pI 12 v6,pI 14 r11,pL 30 X2.row a0.Segments,pI 31 (a0.Segments.length:U),pI 32 v6,(47,vc (aB v16))],[(99999999999,[.own 90000]),(6,[aM X7.row a0.Points,aM X2.row a0.Segments]),(10,[aB y7.i0,aB y7.i1,aB y7.i2,aB y7.i3,aB y7.i4,aB y7.i5,aB y7.i6,aB y7.i7])],[(90000,1,Y (rL rI) v8)]⟩ (D2 [] [] [.r 0] [(1,Y (rL rI) zr)])
def UI:=fun a1 a2 a3 (a0:X1) (y7:X8) (k_:U→(P (P U))→Q (P (P U)))=>∀{v6 v8} {zr},k_ v6 v8=N zr→Kh Z 188 QI 15 [1,2,3,5,6,10,30,31,32] [99999999999,6,10] [90000] ⟨[pI 1 a1,pI 2 a2,pL 3 rI a3,(5,vc (.pb 99999999999 0)),pB 6,pB 10,pL 30 X2.row a0.Segments,pI 31 (a0.Segments.length:U),pI 32 v6],[(99999999999,[.own 90000]),(6,[aM X7.row a0.Points,aM X2.row a0.Segments]),(10,[aB y7.i0,aB y7.i1,aB y7.i2,aB y7.i3,aB y7.i4,aB y7.i5,aB y7.i6,aB y7.i7])],[(90000,1,Y (rL rI) v8)]⟩ (D2 [] [] [.r 0] [(1,Y (rL rI) zr)])
theorem cD{rec_:X1→U→U→(P U)→X8→(P (P U))→Q (P (P U))}(h_rec:∀(a0:X1) (a1 a2:U) (a3:P U) (a4:X8) (a5:P (P U)) zr,rec_ a0 a1 a2 a3 a4 a5=N zr→FCz Z 188 [.d (.ag (X1.row a0)),.d (.sc (.int .i64 a1)),.d (.sc (.int .i64 a2)),.d (.sc (.sl (Y rI a3))),.d (.ag (X8.row a4)),.p] [.r 0] [(1,Y (rL rI) a5)] [.r 0] [(1,Y (rL rI) zr)] []){a1 a2 a3 v6 r11 a0 y7 v8}{Ol}(Ye:UI a1 a2 a3 a0 y7 Ol):dN a1 a2 a3 v6 r11 a0 y7 v8 (Hz rec_ a1 a2 a3 v6 r11 a0 y7 v8 Ol):=by
 intro v16 r h σ hσ S hS;refine ev hS ?_;refine AA ?_;unfold Hz at h;obtain⟨h17,h⟩|⟨h17,h⟩:=ic h
 ·try simp only[hσ,h17,C,E,F,G,H,J]
  obtain⟨r18,h18,h⟩:=ob h;obtain⟨h19,h⟩:=AR h;obtain⟨r20,h20,h⟩:=ob h;refine E3 (ks:= [1,2,3,5,6,10,12,14,30,31,32]) (bs:= [99999999999,6,10]) (rs:= [90000]) (τ:=(Ha a1 a2 a3 v6 r11 a0 y7 r18 r20)) X (A5k rec_ h_rec a1 a2 a3 v6 r11 a0 y7 v8 r18 r20 h18 h19 h20 _ L L L L L L L) ?_;simp only[Ha,Cb,A5];try simp only[h17,h19,C,E,F,G,H,J]
  refine Ye h ?_ (by kernel_rfl);try simp only[h17,h19,C,E,F,G,H,J,pL,aM,I]
 ·try simp only[hσ,h17,C,E,F,G,H,J]
  refine Ye h ?_ (by kernel_rfl);try simp only[h17,C,E,F,G,H,J,pL,aM,I]
theorem A5l{rec_:X1→U→U→(P U)→X8→(P (P U))→Q (P (P U))}(h_rec:∀(a0:X1) (a1 a2:U) (a3:P U) (a4:X8) (a5:P (P U)) zr,rec_ a0 a1 a2 a3 a4 a5=N zr→FCz Z 188 [.d (.ag (X1.row a0)),.d (.sc (.int .i64 a1)),.d (.sc (.int .i64 a2)),.d (.sc (.sl (Y rI a3))),.d (.ag (X8.row a4)),.p] [.r 0] [(1,Y (rL rI) a5)] [.r 0] [(1,Y (rL rI) zr)] []){a1 a2 a3 a0 y7}{n:W}:UI a1 a2 a3 a0 y7 (G9 rec_ a1 a2 a3 a0 y7 n):=by
 induction n with
 | zero=>intro _ _ r h; cases h
 | succ n ih=>
  intro v6 v8 r h σ hσ S hS;refine ev hS ?_;rw[G9] at h;refine AM (AA ?_);obtain⟨h9,h⟩|⟨h9,h⟩:=ic h
  ·obtain⟨x10,h10,h⟩:=ob h;try simp only[hσ,h9,h10,C,E,F,G,H,J]
   refine Bv ?_;obtain⟨r11,h11,h⟩:=ob h;try simp only[h9,h10,C,E,F,G,H,J]
   refine AE (Ag bZ h11) ?_;obtain⟨h12,h⟩|⟨h12,h⟩:=ic h
   ·obtain⟨h13,h⟩:=AR h;try simp only[h9,h10,h12,C,E,F,G,H,J]
    refine O3 X X h13 ?_;obtain⟨x14,h14,h⟩:=ob h;have h14n:=Ay h14;have hA15:([aB y7.i0,aB y7.i1,aB y7.i2,aB y7.i3,aB y7.i4,aB y7.i5,aB y7.i6,aB y7.i7]:P AC)[zA r11]?=N (aB x14):=Vz h14n;try simp only[h9,h10,h12,hA15,C,E,F,G,H,J]
    refine cD h_rec ih h ?_ (by kernel_rfl);try simp only[h9,h10,h12,hA15,C,E,F,G,H,J,pL,aM,I]
   ·try simp only[h9,h10,h12,C,E,F,G,H,J]
    refine cD h_rec ih h ?_ (by kernel_rfl);try simp only[h9,h10,h12,C,E,F,G,H,J,pL,aM,I]
  ·try simp only[hσ,h9,C,E,F,G,H,J]
   cases h;exact⟨trivial,[90000],by decide,by decide,X,X⟩
theorem mz:BM Z 188=N ((Ei Z 188 QI).strip,[],60):=by kernel_rfl
theorem A0x(rec_:X1→U→U→(P U)→X8→(P (P U))→Q (P (P U)))(a0:X1)(a1 a2:U)(a3:P U)(a4:X8)(a5:P (P U))(r:(P (P U)))(h_rec:∀(a0:X1) (a1 a2:U) (a3:P U) (a4:X8) (a5:P (P U)) zr,rec_ a0 a1 a2 a3 a4 a5=N zr→FCz Z 188 [.d (.ag (X1.row a0)),.d (.sc (.int .i64 a1)),.d (.sc (.int .i64 a2)),.d (.sc (.sl (Y rI a3))),.d (.ag (X8.row a4)),.p] [.r 0] [(1,Y (rL rI) a5)] [.r 0] [(1,Y (rL rI) zr)] [])(h:PO rec_ a0 a1 a2 a3 a4 a5=N r):FCz Z 188 [.d (.ag (X1.row a0)),.d (.sc (.int .i64 a1)),.d (.sc (.int .i64 a2)),.d (.sc (.sl (Y rI a3))),.d (.ag (X8.row a4)),.p] [.r 0] [(1,Y (rL rI) a5)] [.r 0] [(1,Y (rL rI) r)] []:=by
 unfold PO at h;refine Pn (σ:=⟨[(0,va [aL (Y X7.row a0.Points),aL (Y X2.row a0.Segments)]),(1,vc (aI a1)),(2,vc (aI a2)),(3,vc (aL (Y rI a3))),(4,va [aB a4.i0,aB a4.i1,aB a4.i2,aB a4.i3,aB a4.i4,aB a4.i5,aB a4.i6,aB a4.i7]),(5,vc (.pb 99999999999 0))],[(99999999999,[.own 90000])],[(90000,1,Y (rL rI) a5)]⟩) mixed mz X X X X ?_;refine F4 QI ?_;intro S hS;refine ev hS ?_;try simp only[C,E,F,G,H,J]
 refine BE ?_;try simp only[C,E,F,G,H,J]
 refine BE ?_;obtain⟨h1,h⟩|⟨h1,h⟩:=ic h
 ·try simp only[h1,C,E,F,G,H,J]
  obtain⟨r2,h2,h⟩:=ob h;obtain⟨h3,h⟩:=AR h;refine E3 (ks:= [3,5]) (bs:= [99999999999]) (rs:= [90000]) (τ:=(Ju a3 a5 r2)) X (A5f rec_ h_rec a3 a5 r2 h2 h3 _ L L L L L) ?_;simp only[Ju,CQ,A5];try simp only[h1,h3,C,E,F,G,H,J]
  cases h;exact⟨trivial,[90000],by decide,by decide,X,X⟩
 ·obtain⟨h4,h⟩:=AR h;try simp only[h1,C,E,F,G,H,J]
  refine O3 X X h4 ?_;have hA5:BK [aB a4.i0,aB a4.i1,aB a4.i2,aB a4.i3,aB a4.i4,aB a4.i5,aB a4.i6,aB a4.i7] (zA a1) [aB T]= [aB ((X8.set a4 (zA a1) T)).i0,aB ((X8.set a4 (zA a1) T)).i1,aB ((X8.set a4 (zA a1) T)).i2,aB ((X8.set a4 (zA a1) T)).i3,aB ((X8.set a4 (zA a1) T)).i4,aB ((X8.set a4 (zA a1) T)).i5,aB ((X8.set a4 (zA a1) T)).i6,aB ((X8.set a4 (zA a1) T)).i7]:=X8.set_eq a4 (F3 h4);have hA5g:BZ [aB a4.i0,aB a4.i1,aB a4.i2,aB a4.i3,aB a4.i4,aB a4.i5,aB a4.i6,aB a4.i7] (zA a1+1)=T:=Se (F3 h4);have hA5h:BZ [aB a4.i1,aB a4.i2,aB a4.i3,aB a4.i4,aB a4.i5,aB a4.i6,aB a4.i7] (zA a1)=T:=Sf (c:=aB a4.i0) (F3 h4);try simp only[h1,hA5,hA5g,hA5h,C,E,F,G,H,J]
  refine A5l h_rec h ?_ (by kernel_rfl);try simp only[h1,hA5,hA5g,hA5h,C,E,F,G,H,J,pL,aM,I]
theorem A0y:∀(n:W) (a0:X1) (a1:U) (a2:U) (a3:P U) (a4:X8) (a5:P (P U)) (r:(P (P U))),Ga n a0 a1 a2 a3 a4 a5=N r→FCz Z 188 [.d (.ag (X1.row a0)),.d (.sc (.int .i64 a1)),.d (.sc (.int .i64 a2)),.d (.sc (.sl (Y rI a3))),.d (.ag (X8.row a4)),.p] [.r 0] [(1,Y (rL rI) a5)] [.r 0] [(1,Y (rL rI) r)] []:=by
 intro n
 induction n with
 | zero=>intro _ _ _ _ _ _ r h; cases h
 | succ n ih=>intro a0 a1 a2 a3 a4 a5 r h; rw[Ga] at h; exact A0x (Ga n) a0 a1 a2 a3 a4 a5 r ih h
theorem A0w{a0}{a1}{a2}{a3}{a4}{a5}{r}(h:SE a0 a1 a2 a3 a4 a5=N r):FCz Z 188 [.d (.ag (X1.row a0)),.d (.sc (.int .i64 a1)),.d (.sc (.int .i64 a2)),.d (.sc (.sl (Y rI a3))),.d (.ag (X8.row a4)),.p] [.r 0] [(1,Y (rL rI) a5)] [.r 0] [(1,Y (rL rI) r)] []:=A0y bigN a0 a1 a2 a3 a4 a5 r h
instance A04:Ct 163 (∀{a0} {a1} {a2} {r},Mg a0 a1 a2=N r→FC Z 163 [.ag (X1.row a0),.sc (.int .i64 a1),.sc (.int .i64 a2)] [.sc (.o 1 (Y (rL rI) r))]):=by
 refine⟨fun{a0} {a1} {a2} {r} h=> ?_⟩;unfold Mg at h;refine A4 mixed h0 [6] 34 ?_;intro S hS;refine ev hS ?_;simp only[C,E,F,G,H,J];try simp only[C,E,F,G,H,J]
 refine BE ?_;obtain⟨r1,h1,h⟩:=ob h;try simp only[C,E,F,G,H,J]
 refine AE (Ag A0v h1) ?_;obtain⟨h2,h⟩|⟨h2,h⟩:=ic h
 ·obtain⟨r3,h3,h⟩:=ob h;try simp only[h2,C,E,F,G,H,J]
  refine AE (Ag RJ h3) ?_;obtain⟨h4,h⟩|⟨h4,h⟩:=ic h
  ·obtain⟨r5,h5,h⟩:=ob h;try simp only[h2,h4,C,E,F,G,H,J]
   refine AE (Ag RJ h5) ?_;obtain⟨h6,h⟩|⟨h6,h⟩:=ic h
   ·try simp only[h2,h4,h6,C,E,F,G,H,J]
    refine Be (es:=Y (rL rI) ([]:P (P U))) ?_;try simp only[h2,h4,h6,C,E,F,G,H,J]
    refine Bv ?_;try simp only[h2,h4,h6,C,E,F,G,H,J]
    refine KX ?_;obtain⟨r7,h7,h⟩:=ob h;try simp only[h2,h4,h6,C,E,F,G,H,J]
    refine GQ (A0w h7) 7 [1728] rfl X X X (by decide) X X X ?_;try simp only[h2,h4,h6,C,E,F,G,H,J]
    cases h;exact t0
   ·try simp only[h2,h4,h6,C,E,F,G,H,J]
    cases h;exact t0
  ·try simp only[h2,h4,C,E,F,G,H,J]
   cases h;exact t0
 ·try simp only[h2,C,E,F,G,H,J]
  cases h;exact t0
def Xy:Hw:=([(16,[2,5,11,12,13],[2],[])],[])
def dg:=fun a1 (a0:X1) (k_:U→U→Q U)=>∀{v3 v4} {zr},k_ v3 v4=N zr→Kh Z 164 Xy 16 [2,5,11,12,13] [2] [] ⟨[pB 2,pI 5 v3,pL 11 rI a1,pI 12 (a1.length:U),pI 13 v4],[(2,[aM X7.row a0.Points,aM X2.row a0.Segments])],[]⟩ (A7 [4] [.sc (.v (.int .i64 zr))])
theorem A5n{a1 a0}{n:W}:dg a1 a0 (HL a1 a0 n):=by
 induction n with
 | zero=>intro _ _ r h; cases h
 | succ n ih=>
  intro v3 v4 r h σ hσ;rw[HL] at h;exact gc
instance bX:Ct 164 (∀{a0} {a1} {r},Gg a0 a1=N r→FC Z 164 [.ag (X1.row a0),.sc (.sl (Y rI a1))] [.sc (.v (.int .i64 r))]):=by
 refine⟨fun h=> ?_⟩;unfold Gg at h;refine A4 mixed Xy [4] 33 ?_;have k0:= @A5n;exact gc
def Xz:Hw:=([(18,[3,9,22,23,24],[3],[960])],[])
def dG:=fun r1 (a0:X1) (k_:(P U)→U→Q ((P U) × V))=>∀{v4 v5} {zr},k_ v4 v5=N zr→Kh Z 136 Xz 18 [3,9,22,23,24] [3] [960] ⟨[pB 3,pL 9 rI v4,pW 22 960,pI 23 (r1.length:U),pI 24 v5],[(3,[aM X7.row a0.Points,aM X2.row a0.Segments])],[(960,1,Y (rL rI) r1)]⟩ (A7 [6,7] [.sc (.v (.sl (Y rI zr.1))),.sc (.v (.bool zr.2))])
theorem A5o{r1 a0}{n:W}:dG r1 a0 (F8 r1 a0 n):=by
 induction n with
 | zero=>intro _ _ r h; cases h
 | succ n ih=>
  intro v4 v5 r h σ hσ S hS;refine ev hS ?_;rw[F8] at h;refine AM (AA ?_);obtain⟨h6,h⟩|⟨h6,h⟩:=ic h
  ·obtain⟨x7,h7,h⟩:=ob h;have h7n:=Ay h7;try simp only[hσ,h6,h7,h7n,C,E,F,G,H,J]
   refine An ?_;obtain⟨r9,h9,h⟩:=ob h;try simp only[h6,h7,h7n,C,E,F,G,H,J]
   refine BF (Ag bX h9) ?_;obtain⟨r10,h10,h⟩:=ob h;try simp only[h6,h7,h7n,C,E,F,G,H,J]
   refine BF (Ag bX h10) ?_;obtain⟨h11,h⟩|⟨h11,h⟩:=ic h
   ·try simp only[h6,h7,h7n,h11,C,E,F,G,H,J]
    refine ih h ?_ (by kernel_rfl);try simp only[h6,h7,h7n,h11,C,E,F,G,H,J,pL,aM,I]
   ·try simp only[h6,h7,h7n,h11,C,E,F,G,H,J]
    refine ih h ?_ (by kernel_rfl);try simp only[h6,h7,h7n,h11,C,E,F,G,H,J,pL,aM,I]
  ·try simp only[hσ,h6,C,E,F,G,H,J]
   cases h;trivial
instance A99:Ct 136 (∀{a0} {a1} {a2} {r},LR a0 a1 a2=N r→FC Z 136 [.ag (X1.row a0),.sc (.int .i64 a1),.sc (.int .i64 a2)] [.sc (.v (.sl (Y rI r.1))),.sc (.v (.bool r.2))]):=by
 refine⟨fun{a0} {a1} {a2} {r} h=> ?_⟩;unfold LR at h;refine A4 mixed Xz [6,7] 38 ?_;intro S hS;refine ev hS ?_;simp only[C,E,F,G,H,J];try simp only[C,E,F,G,H,J]
 refine BE ?_;obtain⟨r1,h1,h⟩:=ob h;try simp only[C,E,F,G,H,J]
 refine AE (Ag A04 h1) ?_;obtain⟨h2,h⟩|⟨h2,h⟩:=ic h
 ·try simp only[h2,C,E,F,G,H,J]
  cases h;trivial
 ·obtain⟨x3,h3,h⟩:=ob h;have h3n:=Ay h3;try simp only[h2,h3,h3n,C,E,F,G,H,J]
  refine A5o h ?_ (by kernel_rfl);try simp only[h2,h3,h3n,C,E,F,G,H,J,pL,aM,I]
def T3:Hw:=([(20,[1,3,8,9,22,23,24],[3,8],[1344]),(44,[1,3,8,9,22,23,24,47],[3,8],[1344])],[])
def dM:=fun r14 a2 v6 (a0:X1) (v7:X8) v8 (k_:V→Q ((P U) × V))=>∀{v19} {zr},k_ v19=N zr→Kh Z 189 T3 44 [1,3,8,9,22,23,24,47] [3,8] [1344] ⟨[pI 1 r14,pB 3,pB 8,pW 9 1344,pL 22 rI a2,pI 23 (a2.length:U),pI 24 v6,(47,vc (aB v19))],[(3,[aM X7.row a0.Points,aM X2.row a0.Segments]),(8,[aB v7.i0,aB v7.i1,aB v7.i2,aB v7.i3,aB v7.i4,aB v7.i5,aB v7.i6,aB v7.i7])],[(1344,1,Y rI v8)]⟩ (A7 [6,7] [.sc (.o 1 (Y rI zr.1)),.sc (.v (.bool zr.2))])
def UH:=fun a2 (a0:X1) (k_:U→U→X8→(P U)→Q ((P U) × V))=>∀{v5 v6 v7 v8} {zr},k_ v5 v6 v7 v8=N zr→Kh Z 189 T3 20 [1,3,8,9,22,23,24] [3,8] [1344] ⟨[pI 1 v5,pB 3,pB 8,pW 9 1344,pL 22 rI a2,pI 23 (a2.length:U),pI 24 v6],[(3,[aM X7.row a0.Points,aM X2.row a0.Segments]),(8,[aB v7.i0,aB v7.i1,aB v7.i2,aB v7.i3,aB v7.i4,aB v7.i5,aB v7.i6,aB v7.i7])],[(1344,1,Y rI v8)]⟩ (A7 [6,7] [.sc (.o 1 (Y rI zr.1)),.sc (.v (.bool zr.2))])
theorem cE{r14 a2 v6 a0 v7 v8}{R5}(qt:UH a2 a0 R5):dM r14 a2 v6 a0 v7 v8 (Hy r14 a2 v6 a0 v7 v8 R5):=by
 intro v19 r h σ hσ S hS;refine ev hS ?_;refine AA ?_;unfold Hy at h;obtain⟨h20,h⟩|⟨h20,h⟩:=ic h
 ·try simp only[hσ,h20,C,E,F,G,H,J]
  cases h;trivial
 ·obtain⟨h21,h⟩:=AR h;try simp only[hσ,h20,C,E,F,G,H,J]
  refine O3 X X h21 ?_;have hA22:BK [aB v7.i0,aB v7.i1,aB v7.i2,aB v7.i3,aB v7.i4,aB v7.i5,aB v7.i6,aB v7.i7] (zA r14) [aB T]= [aB ((X8.set v7 (zA r14) T)).i0,aB ((X8.set v7 (zA r14) T)).i1,aB ((X8.set v7 (zA r14) T)).i2,aB ((X8.set v7 (zA r14) T)).i3,aB ((X8.set v7 (zA r14) T)).i4,aB ((X8.set v7 (zA r14) T)).i5,aB ((X8.set v7 (zA r14) T)).i6,aB ((X8.set v7 (zA r14) T)).i7]:=X8.set_eq v7 (F3 h21);have hA22g:BZ [aB v7.i0,aB v7.i1,aB v7.i2,aB v7.i3,aB v7.i4,aB v7.i5,aB v7.i6,aB v7.i7] (zA r14+1)=T:=Se (F3 h21);have hA22h:BZ [aB v7.i1,aB v7.i2,aB v7.i3,aB v7.i4,aB v7.i5,aB v7.i6,aB v7.i7] (zA r14)=T:=Sf (c:=aB v7.i0) (F3 h21);try simp only[h20,hA22,hA22g,hA22h,C,E,F,G,H,J]
  refine Be (es:=Y rI ([r14]:P U)) ?_;obtain⟨h23,h⟩:=AR h;try simp only[h20,hA22,hA22g,hA22h,h23,C,E,F,G,H,J]
  refine qt h ?_ (by kernel_rfl);try simp only[h20,hA22,hA22g,hA22h,h23,C,E,F,G,H,J,pL,aM,I]
theorem A5p{a2 a0}{n:W}:UH a2 a0 (G8 a2 a0 n):=by
 induction n with
 | zero=>intro _ _ _ _ r h; cases h
 | succ n ih=>
  intro v5 v6 v7 v8 r h σ hσ S hS;refine ev hS ?_;rw[G8] at h;refine AM (AA ?_);obtain⟨h9,h⟩|⟨h9,h⟩:=ic h
  ·obtain⟨x10,h10,h⟩:=ob h;obtain⟨r11,h11,h⟩:=ob h;try simp only[hσ,h9,h10,C,E,F,G,H,J]
   refine AE (Ag RJ h11) ?_;obtain⟨h12,h⟩|⟨h12,h⟩:=ic h
   ·obtain⟨x13,h13,h⟩:=ob h;obtain⟨r14,h14,h⟩:=ob h;try simp only[h9,h10,h12,h13,C,E,F,G,H,J]
    refine AE (Ag bZ h14) ?_;obtain⟨h15,h⟩|⟨h15,h⟩:=ic h
    ·try simp only[h9,h10,h12,h13,h15,C,E,F,G,H,J]
     refine cE ih h ?_ (by kernel_rfl);try simp only[h9,h10,h12,h13,h15,C,E,F,G,H,J,pL,aM,I]
    ·obtain⟨h16,h⟩:=AR h;try simp only[h9,h10,h12,h13,h15,C,E,F,G,H,J]
     refine O3 X X h16 ?_;obtain⟨x17,h17,h⟩:=ob h;have h17n:=Ay h17;have hA18:([aB v7.i0,aB v7.i1,aB v7.i2,aB v7.i3,aB v7.i4,aB v7.i5,aB v7.i6,aB v7.i7]:P AC)[zA r14]?=N (aB x17):=Vz h17n;try simp only[h9,h10,h12,h13,h15,hA18,C,E,F,G,H,J]
     refine cE ih h ?_ (by kernel_rfl);try simp only[h9,h10,h12,h13,h15,hA18,C,E,F,G,H,J,pL,aM,I]
   ·try simp only[h9,h10,h12,C,E,F,G,H,J]
    cases h;trivial
  ·try simp only[hσ,h9,C,E,F,G,H,J]
   cases h;trivial
instance B0d:Ct 189 (∀{a0} {a1} {a2} {r},Hx a0 a1 a2=N r→FC Z 189 [.ag (X1.row a0),.sc (.int .i64 a1),.sc (.sl (Y rI a2))] [.sc (.o 1 (Y rI r.1)),.sc (.v (.bool r.2))]):=by
 refine⟨fun{a0} {a1} {a2} {r} h=> ?_⟩;unfold Hx at h;refine A4 mixed T3 [6,7] 56 ?_;intro S hS;refine ev hS ?_;simp only[C,E,F,G,H,J];try simp only[C,E,F,G,H,J]
 refine BE ?_;obtain⟨r1,h1,h⟩:=ob h;try simp only[C,E,F,G,H,J]
 refine AE (Ag RJ h1) ?_;obtain⟨h2,h⟩|⟨h2,h⟩:=ic h
 ·try simp only[h2,C,E,F,G,H,J]
  refine Bv ?_;obtain⟨h3,h⟩:=AR h;try simp only[h2,C,E,F,G,H,J]
  refine O3 X X h3 ?_;have hA4:BK [aB L,aB L,aB L,aB L,aB L,aB L,aB L,aB L] (zA a1) [aB T]= [aB ((X8.set (⟨L,L,L,L,L,L,L,L⟩:X8) (zA a1) T)).i0,aB ((X8.set (⟨L,L,L,L,L,L,L,L⟩:X8) (zA a1) T)).i1,aB ((X8.set (⟨L,L,L,L,L,L,L,L⟩:X8) (zA a1) T)).i2,aB ((X8.set (⟨L,L,L,L,L,L,L,L⟩:X8) (zA a1) T)).i3,aB ((X8.set (⟨L,L,L,L,L,L,L,L⟩:X8) (zA a1) T)).i4,aB ((X8.set (⟨L,L,L,L,L,L,L,L⟩:X8) (zA a1) T)).i5,aB ((X8.set (⟨L,L,L,L,L,L,L,L⟩:X8) (zA a1) T)).i6,aB ((X8.set (⟨L,L,L,L,L,L,L,L⟩:X8) (zA a1) T)).i7]:=X8.set_eq (⟨L,L,L,L,L,L,L,L⟩:X8) (F3 h3);have hA4g:BZ [aB L,aB L,aB L,aB L,aB L,aB L,aB L,aB L] (zA a1+1)=T:=Se (F3 h3);have hA4h:BZ [aB L,aB L,aB L,aB L,aB L,aB L,aB L] (zA a1)=T:=Sf (c:=aB L) (F3 h3);try simp only[h2,hA4,hA4g,hA4h,C,E,F,G,H,J]
  refine Be (es:=Y rI ([a1]:P U)) ?_;try simp only[h2,hA4,hA4g,hA4h,C,E,F,G,H,J]
  refine A5p h ?_ (by kernel_rfl);try simp only[h2,hA4,hA4g,hA4h,C,E,F,G,H,J,pL,aM,I]
 ·try simp only[h2,C,E,F,G,H,J]
  cases h;trivial
instance bY:Ct 165 (∀{a0} {a1} {a2} {r},DP a0 a1 a2=N r→FC Z 165 [.ag (X1.row a0),.sc (.int .i64 a1),.sc (.sl (Y rI a2))] [.sc (.o 1 (Y rI r))]):=by
 refine⟨fun h=> ?_⟩;unfold DP at h;refine A4 mixed h0 [6] 20 ?_;exact gc
instance B02:Ct 190 (∀{a0} {a1} {a2} {r},Fb a0 a1 a2=N r→FC Z 190 [.ag (X1.row a0),.sc (.int .i64 a1),.sc (.sl (Y rI a2))] [.sc (.v (.bool r))]):=by
 refine⟨fun h=> ?_⟩;unfold Fb at h;refine A4 mixed h0 [6] 20 ?_;exact gc
instance ba:Ct 191 (∀{a0} {a1} {r},Fc a0 a1=N r→FC Z 191 [.ag (X6.row a0),.ag (X2.row a1)] [.sc (.v (.int .i64 r))]):=by
 refine⟨fun h=> ?_⟩;unfold Fc at h;refine A4 mixed h0 [4] 12 ?_;exact gc
instance B1m:Ct 215 (∀{a0} {a1} {a2} {r},HV a0 a1 a2=N r→FC Z 215 [.ag (X1.row a0),.sc (.int .i64 a1),.ag (X6.row a2)] [.sc (.v (.bool r))]):=by
 refine⟨fun h=> ?_⟩;unfold HV at h;refine A4 mixed h0 [6] 20 ?_;exact gc
instance B07:Ct 253 (∀{a0} {r},PU a0=N r→FC Z 253 [.ag (X6.row a0)] [.sc (.v (.int .i64 r))]):=by
 refine⟨fun h=> ?_⟩;unfold PU at h;refine A4 mixed h0 [2] 11 ?_;exact gc
instance B06:Ct 239 (∀{a0} {r},PT a0=N r→FC Z 239 [.ag (X6.row a0)] [.sc (.v (.int .i64 r))]):=by
 refine⟨fun h=> ?_⟩;unfold PT at h;refine A4 mixed h0 [2] 9 ?_;exact gc
instance B0r:Ct 218 (∀{a0} {a1} {a2} {r},M7 a0 a1 a2=N r→FC Z 218 [.ag (X1.row a0),.sc (.int .i64 a1),.ag (X6.row a2)] [.sc (.v (.int .i64 r))]):=by
 refine⟨fun h=> ?_⟩;unfold M7 at h;refine A4 mixed h0 [6] 21 ?_;exact gc
def QJ:Hw:=([(10,[0,3,4,5],[],[384]),(35,[0,3,4,5],[],[384]),(36,[0,3,4,5],[],[384])],[])
def eR:=fun F_a0 caps_a0 v2 (k_:V→(P X5)→Q (P X5))=>∀{v11 v12} {zr},k_ v11 v12=N zr→Kh Z 236 QJ 36 [0,3,4,5] [] [384] ⟨[(0,vc (.dat (.clo F_a0 caps_a0))),pW 3 384,(4,vc (aB v11)),pI 5 v2],[],[(384,2,Y X5.row v12)]⟩ (A7 [2] [.sc (.o 2 (Y X5.row zr))])
def eQ:=fun F_a0 caps_a0 v2 (k_:(P X5)→Q (P X5))=>∀{v9} {zr},k_ v9=N zr→Kh Z 236 QJ 35 [0,3,4,5] [] [384] ⟨[(0,vc (.dat (.clo F_a0 caps_a0))),pW 3 384,(4,vc (aB T)),pI 5 v2],[],[(384,2,Y X5.row v9)]⟩ (A7 [2] [.sc (.o 2 (Y X5.row zr))])
def RU:=fun F_a0 caps_a0 (k_:V→U→(P X5)→Q (P X5))=>∀{v1 v2 v3} {zr},k_ v1 v2 v3=N zr→Kh Z 236 QJ 10 [0,3,4,5] [] [384] ⟨[(0,vc (.dat (.clo F_a0 caps_a0))),pW 3 384,(4,vc (aB v1)),pI 5 v2],[],[(384,2,Y X5.row v3)]⟩ (A7 [2] [.sc (.o 2 (Y X5.row zr))])
theorem cF{a0:U→Q V}{F_a0 caps_a0}(hF_a0:BA Z F_a0=T)(h_a0:∀z0 zr,a0 z0=N zr→FC Z F_a0 ([.sc (.int .i64 z0)]++caps_a0.map .sc) [.sc (.v (.bool zr))]){v2}{FH}(Yh:RU F_a0 caps_a0 FH):eR F_a0 caps_a0 v2 (I3 a0 v2 FH):=by
 intro v11 v12 r h σ hσ;unfold I3 at h;have k0:= @Yh;exact gc
theorem cG{a0:U→Q V}{F_a0 caps_a0}(hF_a0:BA Z F_a0=T)(h_a0:∀z0 zr,a0 z0=N zr→FC Z F_a0 ([.sc (.int .i64 z0)]++caps_a0.map .sc) [.sc (.v (.bool zr))]){v2}{FH}(Yh:RU F_a0 caps_a0 FH):eQ F_a0 caps_a0 v2 (Ki a0 v2 FH):=by
 intro v9 r h σ hσ;unfold Ki at h;have s0:=fun(x10:X5)=> @ES _ X5.row ((⟨x10.From,v2⟩:X5))
 have k0:= @cF;exact gc
theorem A5r{a0:U→Q V}{F_a0 caps_a0}(hF_a0:BA Z F_a0=T)(h_a0:∀z0 zr,a0 z0=N zr→FC Z F_a0 ([.sc (.int .i64 z0)]++caps_a0.map .sc) [.sc (.v (.bool zr))]){n:W}:RU F_a0 caps_a0 (Fl a0 n):=by
 induction n with
 | zero=>intro _ _ _ r h; cases h
 | succ n ih=>
  intro v1 v2 v3 r h σ hσ S hS;refine ev hS ?_;rw[Fl] at h;refine AM (AA ?_);obtain⟨h4,h⟩|⟨h4,h⟩:=ic h
  ·obtain⟨r5,h5,h⟩:=ob h;try simp only[hσ,h4,C,E,F,G,H,J]
   refine pR (h_a0 _ _ h5) hF_a0 X X (E2 X) X (uf X) ?_;obtain⟨h6,h⟩|⟨h6,h⟩:=ic h
   ·obtain⟨h7,h⟩|⟨h7,h⟩:=ic h
    ·try simp only[h4,h6,h7,C,E,F,G,H,J]
     refine cG hF_a0 h_a0 ih h ?_ (by kernel_rfl);try simp only[h4,h6,h7,C,E,F,G,H,J,pL,aM,I]
    ·try simp only[h4,h6,h7,C,E,F,G,H,J]
     refine Be (es:=Y X5.row ([(⟨v2,(0:U)⟩:X5)]:P X5)) ?_;obtain⟨h8,h⟩:=AR h;try simp only[h4,h6,h7,h8,C,E,F,G,H,J]
     refine cG hF_a0 h_a0 ih h ?_ (by kernel_rfl);try simp only[h4,h6,h7,h8,C,E,F,G,H,J,pL,aM,I]
   ·try simp only[h4,h6,C,E,F,G,H,J]
    refine cF hF_a0 h_a0 ih h ?_ (by kernel_rfl);try simp only[h4,h6,C,E,F,G,H,J,pL,aM,I]
  ·try simp only[hσ,h4,C,E,F,G,H,J]
   cases h;exact t0
theorem A1r{a0}{r}(F_a0:FuncId)(caps_a0:P D)(hF_a0:BA Z F_a0=T)(h_a0:∀z0 zr,a0 z0=N zr→FC Z F_a0 ([.sc (.int .i64 z0)]++caps_a0.map .sc) [.sc (.v (.bool zr))])(h:MD a0=N r):FC Z 236 [.sc (.clo F_a0 caps_a0)] [.sc (.o 2 (Y X5.row r))]:=by
 unfold MD at h;refine A4 mixed QJ [2] 30 ?_;have s0:= @Ap (Y X5.row ([]:P X5));have k0:= @A5r;exact gc
instance B1c:Ct 258 (∀{a0} {a1} {r},Mn a0 a1=N r→FC Z 258 [.sc (.int .i64 a0),.sc (.int .i64 a1)] [.sc (.v (.int .i64 r))]):=by
 refine⟨fun h=> ?_⟩;unfold Mn at h;refine A4 mixed h0 [4] 46 ?_;exact gc
def XA:Hw:=([(8,[1,5,11,12,13],[],[])],[])
def dk:=fun a1 (a0:Xl) (k_:U→U→Q U)=>∀{v1 v2} {zr},k_ v1 v2=N zr→Kh Z 251 XA 8 [1,5,11,12,13] [] [] ⟨[pI 1 a1,pI 5 v1,pL 11 zG a0.Parts,pI 12 (a0.Parts.length:U),pI 13 v2],[],[]⟩ (A7 [4] [.sc (.v (.int .i64 zr))])
theorem A5s{a1 a0}{n:W}:dk a1 a0 (HO a1 a0 n):=by
 induction n with
 | zero=>intro _ _ r h; cases h
 | succ n ih=>
  intro v1 v2 r h σ hσ;rw[HO] at h;exact gc
instance B1b:Ct 251 (∀{a0} {a1} {r},PW a0 a1=N r→FC Z 251 [.ag (Xl.row a0),.sc (.int .i64 a1)] [.sc (.v (.int .i64 r))]):=by
 refine⟨fun h=> ?_⟩;unfold PW at h;refine A4 mixed XA [4] 32 ?_;have k0:= @A5s;exact gc
def XB:Hw:=([(8,[1,5,9,10,11],[],[])],[])
def dT:=fun a1 (a0:Xd) (k_:U→U→Q U)=>∀{v1 v2} {zr},k_ v1 v2=N zr→Kh Z 252 XB 8 [1,5,9,10,11] [] [] ⟨[pI 1 a1,pI 5 v1,pL 9 X9.row a0.Surges,pI 10 (a0.Surges.length:U),pI 11 v2],[],[]⟩ (A7 [4] [.sc (.v (.int .i64 zr))])
theorem A5t{a1 a0}{n:W}:dT a1 a0 (Fa a1 a0 n):=by
 induction n with
 | zero=>intro _ _ r h; cases h
 | succ n ih=>
  intro v1 v2 r h σ hσ;rw[Fa] at h;exact gc
instance B0j:Ct 252 (∀{a0} {a1} {r},M1 a0 a1=N r→FC Z 252 [.ag (zJ a0),.sc (.int .i64 a1)] [.sc (.v (.int .i64 r))]):=by
 refine⟨fun h=> ?_⟩;unfold M1 at h;refine A4 mixed XB [4] 23 ?_;have k0:= @A5t;exact gc
instance B0i:Ct 238 (∀{a0} {a1} {r},M0 a0 a1=N r→FC Z 238 [.ag (zJ a0),.sc (.int .i64 a1)] [.sc (.v (.int .i64 r))]):=by
 refine⟨fun h=> ?_⟩;unfold M0 at h;refine A4 mixed h0 [4] 18 ?_;exact gc
theorem A5u{a0}{c0}{c1}{r}(h:PR a0 c0 c1=N r):FC Z 237 [.sc (.int .i64 a0),.sc (.pd (zJ c0)),.sc (.pd (rI c1))] [.sc (.v (.bool r))]:=by
 unfold PR at h;refine A4 mixed h0 [4] 10 ?_;exact gc
instance B0s:Ct 217 (∀{a0} {a1} {r},M8 a0 a1=N r→FC Z 217 [.ag (zJ a0),.sc (.int .i64 a1)] [.sc (.o 2 (Y X5.row r))]):=by
 refine⟨fun{a0} {a1} {r} h=> ?_⟩;unfold M8 at h;refine A4 mixed h0 [4] 10 ?_;intro S hS;refine ev hS ?_;simp only[C,E,F,G,H,J];try simp only[C,E,F,G,H,J]
 refine BE ?_;try simp only[C,E,F,G,H,J]
 refine BE ?_;obtain⟨r1,h1,h⟩:=ob h;try simp only[C,E,F,G,H,J]
 refine AE (Ag A01 h1) ?_;obtain⟨h2,h⟩|⟨h2,h⟩:=ic h
 ·obtain⟨r3,h3,h⟩:=ob h;try simp only[h2,C,E,F,G,H,J]
  refine E4 (A1r 237 [.pd (zJ a0),.pd (rI a1)] (by kernel_rfl) (fun z0 zr zh=>A5u zh) h3) X (Db X ⟨Dc,⟨⟩⟩) X (uf X) ?_;try simp only[h2,C,E,F,G,H,J]
  cases h;exact t0
 ·try simp only[h2,C,E,F,G,H,J]
  cases h;exact t0
instance B0u:Ct 219 (∀{a0} {a1} {a2} {r},M9 a0 a1 a2=N r→FC Z 219 [.ag (X1.row a0),.sc (.int .i64 a1),.ag (X6.row a2)] [.sc (.v (.int .i64 r))]):=by
 refine⟨fun h=> ?_⟩;unfold M9 at h;refine A4 mixed h0 [6] 30 ?_;exact gc
def XD:Hw:=([(6,[0,5,6,7],[],[])],[])
def dl:=fun a0 (k_:U→Q V)=>∀{v1} {zr},k_ v1=N zr→Kh Z 220 XD 6 [0,5,6,7] [] [] ⟨[pL 0 X5.row a0,pL 5 X5.row a0,pI 6 (a0.length:U),pI 7 v1],[],[]⟩ (A7 [2] [.sc (.v (.bool zr))])
theorem A5v{a0}{n:W}:dl a0 (Ff a0 n):=by
 induction n with
 | zero=>intro _ r h; cases h
 | succ n ih=>
  intro v1 r h σ hσ;rw[Ff] at h;exact gc
instance B1d:Ct 220 (∀{a0} {r},K7 a0=N r→FC Z 220 [.sc (.sl (Y X5.row a0))] [.sc (.v (.bool r))]):=by
 refine⟨fun h=> ?_⟩;unfold K7 at h;refine A4 mixed XD [2] 44 ?_;have k0:= @A5v;exact gc
def XE:Hw:=([(16,[1,5,17,18,19],[],[1024])],[])
def di:=fun a1 a0 (k_:U→(P X5)→Q (P X5))=>∀{v5 v6} {zr},k_ v5 v6=N zr→Kh Z 216 XE 16 [1,5,17,18,19] [] [1024] ⟨[pI 1 a1,pW 5 1024,pL 17 X5.row a0,pI 18 (a0.length:U),pI 19 v5],[],[(1024,2,Y X5.row v6)]⟩ (A7 [4] [.sc (.o 2 (Y X5.row zr))])
theorem A5w{a1 a0}{n:W}:di a1 a0 (Fe a1 a0 n):=by
 induction n with
 | zero=>intro _ _ r h; cases h
 | succ n ih=>
  intro v5 v6 r h σ hσ;rw[Fe] at h;have s0:=fun(x8:X5)=> @Ap (Y X5.row ([(⟨x8.From,(IntKind.i64.wrap (x8.To - a1))⟩:X5)]:P X5))
  exact gc
instance B08:Ct 216 (∀{a0} {a1} {r},PV a0 a1=N r→FC Z 216 [.sc (.sl (Y X5.row a0)),.sc (.int .i64 a1)] [.sc (.o 2 (Y X5.row r))]):=by
 refine⟨fun h=> ?_⟩;unfold PV at h;refine A4 mixed XE [4] 42 ?_;have s0:= @Ap (Y X5.row ([]:P X5));have k0:= @A5w;exact gc
instance A05:Ct 192 (∀{a0} {a1} {a2} {a3} {r},Mj a0 a1 a2 a3=N r→FC Z 192 [.ag (zJ a0),.ag (X1.row a1),.sc (.int .i64 a2),.ag (X6.row a3)] [.sc (.o 2 (Y X5.row r))]):=by
 refine⟨fun h=> ?_⟩;unfold Mj at h;refine A4 mixed h0 [8] 30 ?_;exact gc
def T4:Hw:=([(5,[3,4,5,6,7,10,34],[5,6,7,10],[]),(16,[4,5,6,7,10,12,43,44,45],[5,6,7,10,12],[140288,140352,140416])],[(11,3,(O,.ownb 12 0 140288 1)),(11,4,(O,.ownb 12 1 140352 1)),(11,5,(O,.ownb 12 2 140416 1)),(14,6,(O,.frz 2560))])
def eO:=fun a4 (a0:Xd) (a1:X1) (a2:X6) y11 y12 (k_:U→(P V)→(P U)→(P (P X5))→Q (Xk × V))=>∀{v13 v14 v15 v16} {zr},k_ v13 v14 v15 v16=N zr→Kh Z 166 T4 16 [4,5,6,7,10,12,43,44,45] [5,6,7,10,12] [140288,140352,140416] ⟨[pL 4 rI a4,pB 5,pB 6,pB 7,pB 10,pB 12,pL 43 rI y11,pI 44 y12,pI 45 v13],[(5,[aI a0.Tide.Mean,aM zG a0.Tide.Parts,aM X9.row a0.Surges]),(6,[aM X7.row a1.Points,aM X2.row a1.Segments]),(7,(dm a2.row)),(10,[.nil,.nil,.nil]),(12,[.own 140288,.own 140352,.own 140416])],[(140288,1,Y rB v14),(140352,1,Y rI v15),(140416,1,Y (rL X5.row) v16)]⟩ (A7 [.c 10 T 3,11] [.ag [.o 1 (Y rB zr.1.waits),.o 1 (Y rI zr.1.minutes),.o 1 (Y (rL X5.row) zr.1.sure)],.sc (.v (.bool zr.2))])
def eN:=fun a3 a4 (a0:Xd) (a1:X1) (a2:X6) (k_:V→Q (Xk × V))=>∀{v7} {zr},k_ v7=N zr→Kh Z 166 T4 5 [3,4,5,6,7,10,34] [5,6,7,10] [] ⟨[pI 3 a3,pL 4 rI a4,pB 5,pB 6,pB 7,pB 10,(34,vc (aB v7))],[(5,[aI a0.Tide.Mean,aM zG a0.Tide.Parts,aM X9.row a0.Surges]),(6,[aM X7.row a1.Points,aM X2.row a1.Segments]),(7,(dm a2.row)),(10,[.nil,.nil,.nil])],[]⟩ (A7 [.c 10 T 3,11] [.ag [.o 1 (Y rB zr.1.waits),.o 1 (Y rI zr.1.minutes),.o 1 (Y (rL X5.row) zr.1.sure)],.sc (.v (.bool zr.2))])
theorem A5x{a4 a0 a1 a2 y11 y12}{n:W}:eO a4 a0 a1 a2 y11 y12 (I1 a4 a0 a1 a2 y11 y12 n):=by
 induction n with
 | zero=>intro _ _ _ _ r h; cases h
 | succ n ih=>
  intro v13 v14 v15 v16 r h σ hσ S hS;refine ev hS ?_;rw[I1] at h;refine AM (AA ?_);obtain⟨h17,h⟩|⟨h17,h⟩:=ic h
  ·obtain⟨x18,h18,h⟩:=ob h;try simp only[hσ,h17,h18,C,E,F,G,H,J]
   refine An ?_;obtain⟨x19,h19,h⟩:=ob h;try simp only[h17,h18,h19,C,E,F,G,H,J]
   refine Be (es:=Y rB ([x19.Wait]:P V)) ?_;obtain⟨h20,h⟩:=AR h;try simp only[h17,h18,h19,h20,C,E,F,G,H,J]
   refine An ?_;try simp only[h17,h18,h19,h20,C,E,F,G,H,J]
   refine An ?_;try simp only[h17,h18,h19,h20,C,E,F,G,H,J]
   refine An ?_;obtain⟨x21,h21,h⟩:=ob h;obtain⟨x22,h22,h⟩:=ob h;obtain⟨r23,h23,h⟩:=ob h;try simp only[h17,h18,h19,h20,h21,h22,C,E,F,G,H,J]
   refine BF (Ag ba h23) ?_;try simp only[h17,h18,h19,h20,h21,h22,C,E,F,G,H,J]
   refine Be (es:=Y rI ([r23]:P U)) ?_;obtain⟨h24,h⟩:=AR h;try simp only[h17,h18,h19,h20,h21,h22,h24,C,E,F,G,H,J]
   refine An ?_;try simp only[h17,h18,h19,h20,h21,h22,h24,C,E,F,G,H,J]
   refine An ?_;try simp only[h17,h18,h19,h20,h21,h22,h24,C,E,F,G,H,J]
   refine An ?_;obtain⟨r25,h25,h⟩:=ob h;try simp only[h17,h18,h19,h20,h21,h22,h24,C,E,F,G,H,J]
   refine BF (FC.asV (rs':= [.sc (.v (.sl (Y X5.row r25)))]) (Ag A05 h25) X) ?_;try simp only[h17,h18,h19,h20,h21,h22,h24,C,E,F,G,H,J]
   refine Be (es:=Y (rL X5.row) ([r25]:P (P X5))) ?_;obtain⟨h26,h⟩:=AR h;try simp only[h17,h18,h19,h20,h21,h22,h24,h26,C,E,F,G,H,J]
   refine An ?_;try simp only[h17,h18,h19,h20,h21,h22,h24,h26,C,E,F,G,H,J]
   refine An ?_;try simp only[h17,h18,h19,h20,h21,h22,h24,h26,C,E,F,G,H,J]
   refine ih h ?_ (by kernel_rfl);try simp only[h17,h18,h19,h20,h21,h22,h24,h26,C,E,F,G,H,J,pL,aM,I]
  ·try simp only[hσ,h17,C,E,F,G,H,J]
   cases h;try simp only[P5,C,E,F,G,H,J]
   trivial
theorem A5y{a3 a4 a0 a1 a2}:eN a3 a4 a0 a1 a2 (I0 a3 a4 a0 a1 a2):=by
 intro v7 r h σ hσ S hS;refine ev hS ?_;refine AA ?_;unfold I0 at h;obtain⟨h8,h⟩|⟨h8,h⟩:=ic h
 ·try simp only[hσ,h8,C,E,F,G,H,J]
  cases h;try simp only[P5,C,E,F,G,H,J]
  trivial
 ·try simp only[hσ,h8,C,E,F,G,H,J]
  refine Bv ?_;try simp only[h8,C,E,F,G,H,J]
  refine FE (cs':= [.own 140288,.nil,.nil]) X X X X ?_;try simp only[h8,C,E,F,G,H,J]
  refine FE (cs':= [.own 140288,.own 140352,.nil]) X X X X ?_;try simp only[h8,C,E,F,G,H,J]
  refine FE (cs':= [.own 140288,.own 140352,.own 140416]) X X X X ?_;obtain⟨r9,h9,h⟩:=ob h;try simp only[h8,C,E,F,G,H,J]
  refine AE (Ag bY h9) ?_;try simp only[h8,C,E,F,G,H,J]
  refine C8 ?_;obtain⟨p10,h10,h⟩:=ob h;try simp only[h8,h10,C,E,F,G,H,J]
  refine A5x h ?_ (by kernel_rfl);try simp only[h8,h10,C,E,F,G,H,J,pL,aM,I]
instance B1p:Ct 166 (∀{a0} {a1} {a2} {a3} {a4} {r},HZ a0 a1 a2 a3 a4=N r→FC Z 166 [.ag (zJ a0),.ag (X1.row a1),.ag (X6.row a2),.sc (.int .i64 a3),.sc (.sl (Y rI a4))] [.ag [.o 1 (Y rB r.1.waits),.o 1 (Y rI r.1.minutes),.o 1 (Y (rL X5.row) r.1.sure)],.sc (.v (.bool r.2))]):=by
 refine⟨fun h=> ?_⟩;unfold HZ at h;refine A4 mixed T4 [.c 10 T 3,11] 91 ?_;have k0:= @A5y;exact gc
def XG:Hw:=([(7,[2,3,4,6,28],[3,4,6],[])],[])
def dt:=fun a2 (a0:X4) (a1:Xb) (k_:V→Q (Xk × V))=>∀{v4} {zr},k_ v4=N zr→Kh Z 137 XG 7 [2,3,4,6,28] [3,4,6] [] ⟨[pL 2 rI a2,pB 3,pB 4,pB 6,(28,vc (aB v4))],[(3,([aI a0.Forecast.Tide.Mean,aM zG a0.Forecast.Tide.Parts,aM X9.row a0.Forecast.Surges,aM X7.row a0.Chart.Points,aM X2.row a0.Chart.Segments,aM X6.row a0.Fleet,aI a0.Regime.Gap,aB a0.Regime.NoMeet]++dm a0.Crew.row)),(4,(dm a1.row)),(6,[.nil,.nil,.nil])],[]⟩ (A7 [.c 6 T 3,7] [.ag [.o 1 (Y rB zr.1.waits),.o 1 (Y rI zr.1.minutes),.o 1 (Y (rL X5.row) zr.1.sure)],.sc (.v (.bool zr.2))])
theorem cH{a2 a0 a1}:dt a2 a0 a1 (Ka a2 a0 a1):=by
 intro v4 r h σ hσ;unfold Ka at h;exact gc
instance B1f:Ct 137 (∀{a0} {a1} {a2} {r},HQ a0 a1 a2=N r→FC Z 137 [.ag (X4.row a0),.ag (zC a1),.sc (.sl (Y rI a2))] [.ag [.o 1 (Y rB r.1.waits),.o 1 (Y rI r.1.minutes),.o 1 (Y (rL X5.row) r.1.sure)],.sc (.v (.bool r.2))]):=by
 refine⟨fun{a0} {a1} {a2} {r} h=> ?_⟩;unfold HQ at h;refine A4 mixed XG [.c 6 T 3,7] 46 ?_;intro S hS;refine ev hS ?_;simp only[C,E,F,G,H,J];try simp only[C,E,F,G,H,J]
 refine BE ?_;try simp only[C,E,F,G,H,J]
 refine BE ?_;try simp only[C,E,F,G,H,J]
 refine Bv ?_;obtain⟨r1,h1,h⟩:=ob h;try simp only[C,E,F,G,H,J]
 refine AE (Ag bY h1) ?_;try simp only[C,E,F,G,H,J]
 refine An ?_;obtain⟨h2,h⟩|⟨h2,h⟩:=ic h
 ·try simp only[h2,C,E,F,G,H,J]
  refine cH h ?_ (by kernel_rfl);try simp only[h2,C,E,F,G,H,J,pL,aM,I]
 ·obtain⟨x3,h3,h⟩:=ob h;have h3n:=Ay h3;try simp only[h2,h3,h3n,C,E,F,G,H,J]
  refine cH h ?_ (by kernel_rfl);try simp only[h2,h3,h3n,C,E,F,G,H,J,pL,aM,I]
def XH:Hw:=([(6,[1,7,8,9],[],[])],[])
def dV:=fun a1 a0 (k_:U→Q V)=>∀{v1} {zr},k_ v1=N zr→Kh Z 193 XH 6 [1,7,8,9] [] [] ⟨[pI 1 a1,pL 7 X5.row a0,pI 8 (a0.length:U),pI 9 v1],[],[]⟩ (A7 [4] [.sc (.v (.bool zr))])
theorem A5z{a1 a0}{n:W}:dV a1 a0 (HG a1 a0 n):=by
 induction n with
 | zero=>intro _ r h; cases h
 | succ n ih=>
  intro v1 r h σ hσ;rw[HG] at h;exact gc
instance B0n:Ct 193 (∀{a0} {a1} {r},M3 a0 a1=N r→FC Z 193 [.sc (.sl (Y X5.row a0)),.sc (.int .i64 a1)] [.sc (.v (.bool r))]):=by
 refine⟨fun h=> ?_⟩;unfold M3 at h;refine A4 mixed XH [4] 20 ?_;have k0:= @A5z;exact gc
def XI:Hw:=([(14,[1,10,11,12],[],[])],[])
def dZ:=fun a1 a0 (k_:U→Q U)=>∀{v3} {zr},k_ v3=N zr→Kh Z 194 XI 14 [1,10,11,12] [] [] ⟨[pI 1 a1,pL 10 X5.row a0,pI 11 (a0.length:U),pI 12 v3],[],[]⟩ (A7 [4] [.sc (.v (.int .i64 zr))])
theorem A50{a1 a0}{n:W}:dZ a1 a0 (HI a1 a0 n):=by
 induction n with
 | zero=>intro _ r h; cases h
 | succ n ih=>
  intro v3 r h σ hσ;rw[HI] at h;exact gc
instance A02:Ct 194 (∀{a0} {a1} {r},Ma a0 a1=N r→FC Z 194 [.sc (.sl (Y X5.row a0)),.sc (.int .i64 a1)] [.sc (.v (.int .i64 r))]):=by
 refine⟨fun h=> ?_⟩;unfold Ma at h;refine A4 mixed XI [4] 25 ?_;have k0:= @A50;exact gc
def T5:Hw:=([(16,[2,6,7],[2],[1152]),(32,[2,6,7,9,59],[2],[1152])],[])
def eP:=fun v4 r10 (a0:Xk) v5 (k_:V→Q ((P U) × V))=>∀{v14} {zr},k_ v14=N zr→Kh Z 167 T5 32 [2,6,7,9,59] [2] [1152] ⟨[pB 2,pW 6 1152,pI 7 v4,pI 9 r10,(59,vc (aB v14))],[(2,(dm a0.row))],[(1152,1,Y rI v5)]⟩ (A7 [4,5] [.sc (.o 1 (Y rI zr.1)),.sc (.v (.bool zr.2))])
def US:=fun(a0:Xk) (k_:U→(P U)→Q ((P U) × V))=>∀{v4 v5} {zr},k_ v4 v5=N zr→Kh Z 167 T5 16 [2,6,7] [2] [1152] ⟨[pB 2,pW 6 1152,pI 7 v4],[(2,(dm a0.row))],[(1152,1,Y rI v5)]⟩ (A7 [4,5] [.sc (.o 1 (Y rI zr.1)),.sc (.v (.bool zr.2))])
theorem Um{v4 r10 a0 v5}{R8}(rE:US a0 R8):eP v4 r10 a0 v5 (I2 v4 r10 a0 v5 R8):=by
 intro v14 r h σ hσ;unfold I2 at h;have s0:= @Ap (Y rI ([r10]:P U));have k0:= @rE;exact gc
theorem A52{a0}{n:W}:US a0 (Es a0 n):=by
 induction n with
 | zero=>intro _ _ r h; cases h
 | succ n ih=>
  intro v4 v5 r h σ hσ S hS;refine ev hS ?_;rw[Es] at h;refine AM (AA ?_);obtain⟨h6,h⟩|⟨h6,h⟩:=ic h
  ·try simp only[hσ,h6,C,E,F,G,H,J]
   refine An ?_;obtain⟨x7,h7,h⟩:=ob h;have h7n:=Ay h7;obtain⟨x8,h8,h⟩:=ob h;obtain⟨x9,h9,h⟩:=ob h;obtain⟨r10,h10,h⟩:=ob h;try simp only[h6,h7,h7n,h8,h9,C,E,F,G,H,J]
   refine AE (Ag A02 h10) ?_;obtain⟨h11,h⟩|⟨h11,h⟩:=ic h
   ·try simp only[h6,h7,h7n,h8,h9,h11,C,E,F,G,H,J]
    refine Um ih h ?_ (by kernel_rfl);try simp only[h6,h7,h7n,h8,h9,h11,C,E,F,G,H,J,pL,aM,I]
   ·obtain⟨h12,h⟩|⟨h12,h⟩:=ic h
    ·obtain⟨x13,h13,h⟩:=ob h;try simp only[h6,h7,h7n,h8,h9,h11,h12,h13,C,E,F,G,H,J]
     refine Um ih h ?_ (by kernel_rfl);try simp only[h6,h7,h7n,h8,h9,h11,h12,h13,C,E,F,G,H,J,pL,aM,I]
    ·try simp only[h6,h7,h7n,h8,h9,h11,h12,C,E,F,G,H,J]
     refine Um ih h ?_ (by kernel_rfl);try simp only[h6,h7,h7n,h8,h9,h11,h12,C,E,F,G,H,J,pL,aM,I]
  ·try simp only[hσ,h6,C,E,F,G,H,J]
   cases h;trivial
instance B1q:Ct 167 (∀{a0} {a1} {r},MB a0 a1=N r→FC Z 167 [.ag (Xk.row a0),.sc (.int .i64 a1)] [.sc (.o 1 (Y rI r.1)),.sc (.v (.bool r.2))]):=by
 refine⟨fun{a0} {a1} {r} h=> ?_⟩;unfold MB at h;refine A4 mixed T5 [4,5] 65 ?_;have s0:= @Ap (Y rI ([a1]:P U));have k0:= @A52;exact gc
def XJ:Hw:=([(18,[1,5,6,8,13,14,40,41,42],[6,8],[2432,2496])],[])
def dc:=fun a1 a5 a4 (a0:X1) (a2:X6) r6 (k_:U→(P X3)→Q (P X3))=>∀{v7 v8} {zr},k_ v7 v8=N zr→Kh Z 168 XJ 18 [1,5,6,8,13,14,40,41,42] [6,8] [2432,2496] ⟨[pI 1 a1,pL 5 rI a5,pB 6,pB 8,pW 13 2432,pW 14 2496,pL 40 rI a4,pI 41 (a4.length:U),pI 42 v7],[(6,[aM X7.row a0.Points,aM X2.row a0.Segments]),(8,(dm a2.row))],[(2432,1,Y rI r6),(2496,5,Y X3.row v8)]⟩ (A7 [12] [.sc (.o 5 (Y X3.row zr))])
theorem A53{a1 a5 a4 a0 a2 r6}{n:W}:dc a1 a5 a4 a0 a2 r6 (HJ a1 a5 a4 a0 a2 r6 n):=by
 induction n with
 | zero=>intro _ _ r h; cases h
 | succ n ih=>
  intro v7 v8 r h σ hσ S hS;refine ev hS ?_;rw[HJ] at h;refine AM (AA ?_);obtain⟨h9,h⟩|⟨h9,h⟩:=ic h
  ·obtain⟨x10,h10,h⟩:=ob h;obtain⟨x11,h11,h⟩:=ob h;obtain⟨r12,h12,h⟩:=ob h;try simp only[hσ,h9,h10,h11,C,E,F,G,H,J]
   refine AE (Ag A1i h12) ?_;obtain⟨h13,h⟩|⟨h13,h⟩:=ic h
   ·obtain⟨x14,h14,h⟩:=ob h;try simp only[h9,h10,h11,h13,h14,C,E,F,G,H,J]
    refine Bv ?_;try simp only[h9,h10,h11,h13,h14,C,E,F,G,H,J]
    refine An ?_;obtain⟨x15,h15,h⟩:=ob h;have h15n:=Ay h15;obtain⟨r16,h16,h⟩:=ob h;try simp only[h9,h10,h11,h13,h14,h15,h15n,C,E,F,G,H,J]
    refine BF (Ag ba h16) ?_;try simp only[h9,h10,h11,h13,h14,h15,h15n,C,E,F,G,H,J]
    refine Be (es:=Y X3.row ([(⟨a1,x10,(x15==x14.A),x11,(IntKind.i64.wrap (x11+r16))⟩:X3)]:P X3)) ?_;obtain⟨h17,h⟩:=AR h;try simp only[h9,h10,h11,h13,h14,h15,h15n,h17,C,E,F,G,H,J]
    refine An ?_;try simp only[h9,h10,h11,h13,h14,h15,h15n,h17,C,E,F,G,H,J]
    refine ih h ?_ (by kernel_rfl);try simp only[h9,h10,h11,h13,h14,h15,h15n,h17,C,E,F,G,H,J,pL,aM,I]
   ·try simp only[h9,h10,h11,h13,C,E,F,G,H,J]
    cases h;exact t0
  ·try simp only[hσ,h9,C,E,F,G,H,J]
   cases h;exact t0
instance B0z:Ct 168 (∀{a0} {a1} {a2} {a3} {a4} {a5} {r},Me a0 a1 a2 a3 a4 a5=N r→FC Z 168 [.ag (X1.row a0),.sc (.int .i64 a1),.ag (X6.row a2),.sc (.int .i64 a3),.sc (.sl (Y rI a4)),.sc (.sl (Y rI a5))] [.sc (.o 5 (Y X3.row r))]):=by
 refine⟨fun h=> ?_⟩;unfold Me at h;refine A4 mixed XJ [12] 85 ?_;have s0:= @Ap (Y X3.row ([]:P X3));have k0:= @A53;exact gc
instance A96:Ct 169 (∀{a0} {a1} {a2} {a3} {r},LP a0 a1 a2 a3=N r→FC Z 169 [.ag (X1.row a0),.ag (X6.row a1),.sc (.sl (Y rI a2)),.sc (.sl (Y rI a3))] [.sc (.v (.int .i64 r))]):=by
 refine⟨fun h=> ?_⟩;unfold LP at h;refine A4 mixed h0 [8] 55 ?_;exact gc
def cp:P (P W × AItem):= [([],(O,.load 72 (S 16) T 4)),([],(O,.faddr 73 (S 16) 1)),([1],(O,.load 74 (S 73) L 1)),([2],(O,.bin 75 .leq (S 74) (K 2880))),([0,0],(O,.store (S 10) (S 72) 4)),([3,4,0,1,2,3,4],(O,.mv 11 (S 75)))]
def XK:Hw:=([(24,[10,16,60,61,62],[10,16],[2752])],[])
abbrev Jo(a4 r5 v7:U)(c0_ c1_:V)(c2_ c3_ c5_:V)(bx_:P (W × P AC))(rs_:Rows):St:=⟨[(10,vc (.pb 10 0)),(16,vc (.pb 16 0)),(72,bif c0_ then va [aI a4,aI r5,aI v7,.own 2752] else .undef),(73,bif c1_ then vc (.pb 16 1) else .undef),(74,bif c2_ then vc (aI r5) else .undef),(75,bif c3_ then vc (aB (decide (r5≤(2880:U)))) else .undef),(11,bif c5_ then vc (aB (decide (r5≤(2880:U)))) else .undef)],bx_,rs_⟩
abbrev RG(a4 r5:U)(r4:(P X3))(v7:U):St:=(Jo a4 r5 v7 T T T T T [(10,[aI a4,aI r5,aI v7,.own 2752]),(16,[aI a4,aI r5,aI v7,.own 2752])] [(2752,5,Y X3.row r4)])
theorem A54(a4 r5 r4 v7):∀(f:W) (b1 b2:V) (b3 b5:V),Ad Z cp (RG a4 r5 r4 v7) f [T,b1,b2,b3,T,b5] (Jo a4 r5 v7 T b1 b2 b3 b5 [(10,[aI a4,aI r5,aI v7,.own 2752]),(16,[aI a4,aI r5,aI v7,.own 2752])] [(2752,5,Y X3.row r4)]):=by
 intro f
 induction f with
 | zero=>
  intro b1 b2 b3 b5 h;obtain rfl:b1=T:=zF.1 h b1 (by simp);obtain rfl:b2=T:=zF.1 h b2 (by simp);obtain rfl:b3=T:=zF.1 h b3 (by simp);obtain rfl:b5=T:=zF.1 h b5 (by simp);rfl
 | succ f ih=>
  intro b1 b2 b3 b5;refine Af ⟨?_,?_,?_,?_,?_,?_,⟨⟩⟩<;>try first | (intro h; cases h; done) | (intro h0 hw; obtain rfl:=hz h0 rfl; (try obtain rfl:=hq hw 1 rfl rfl); (try obtain rfl:=hq hw 2 rfl rfl); (try obtain rfl:=hq hw 3 rfl rfl); refine np ?_; simp only[Jo,A5,A6,A2,C,E,F,G,H,J]; exact ih _ _ _ _)
theorem A55(a4 r5 r4 v7):∀(f:W) (b0 b1:V) (b2 b3:V),Ad Z cp (RG a4 r5 r4 v7) f [b0,b1,b2,b3,L,L] (Jo a4 r5 v7 b0 b1 b2 b3 L [(10,[aI (0:U),aI (0:U),aI (0:U),.nil]),(16,[aI a4,aI r5,aI v7,.own 2752])] [(2752,5,Y X3.row r4)]):=by
 intro f
 induction f with
 | zero=>intro b0 b1 b2 b3 h; simp at h
 | succ f ih=>
  intro b0 b1 b2 b3;refine Af ⟨?_,?_,?_,?_,?_,?_,⟨⟩⟩<;>try first | (intro _ hw; simp at hw; done) | (intro h0 hw; obtain rfl:=hz h0 rfl; (try obtain rfl:=hq hw 1 rfl rfl); (try obtain rfl:=hq hw 2 rfl rfl); refine np ?_; simp only[Jo,A5,A6,A2,C,E,F,G,H,J]; exact ih _ _ _ _)
  ·intro h0 hw;obtain rfl:=hq hw 0 rfl rfl;refine np ?_;try simp only[Jo,A5,A6,A2,C,E,F,G,H,J]
   exact A54 a4 r5 r4 v7 _ b1 b2 b3 L
def eH:=fun(a2:Xk) a4 r5 r4 (k_:U→U→Q (X0 × V))=>∀{v6 v7} {zr},k_ v6 v7=N zr→Kh Z 138 XK 24 [10,16,60,61,62] [10,16] [2752] ⟨[pB 10,pB 16,pL 60 rI a2.minutes,pI 61 (a2.minutes.length:U),pI 62 v6],[(10,[aI (0:U),aI (0:U),aI (0:U),.nil]),(16,[aI a4,aI r5,aI v7,.own 2752])],[(2752,5,Y X3.row r4)]⟩ (A7 [.c 10 T 4,11] [.ag [.v (.int .i64 zr.1.Start),.v (.int .i64 zr.1.Arrival),.v (.int .i64 zr.1.Cost),.o 5 (Y X3.row zr.1.Passages)],.sc (.v (.bool zr.2))])
theorem A56{a2 a4 r5 r4}{n:W}:eH a2 a4 r5 r4 (Gq a2 a4 r5 r4 n):=by
 induction n with
 | zero=>intro _ _ r h; cases h
 | succ n ih=>
  intro v6 v7 r h σ hσ S hS;refine ev hS ?_;rw[Gq] at h;refine AM (AA ?_);obtain⟨h8,h⟩|⟨h8,h⟩:=ic h
  ·obtain⟨x9,h9,h⟩:=ob h;try simp only[hσ,h8,h9,C,E,F,G,H,J]
   refine ih h ?_ (by kernel_rfl);try simp only[h8,h9,C,E,F,G,H,J,pL,aM,I]
  ·try simp only[hσ,h8,C,E,F,G,H,J]
   refine E3 (ks:= [10,16]) (bs:= [10,16]) (rs:= [2752]) (τ:=(RG a4 r5 r4 v7)) X (A55 a4 r5 r4 v7 _ L L L L) ?_;simp only[RG,Jo,A5];try simp only[h8,C,E,F,G,H,J]
   cases h;try simp only[P5,C,E,F,G,H,J]
   trivial
instance A1l:Ct 138 (∀{a0} {a1} {a2} {a3} {a4} {r},HW a0 a1 a2 a3 a4=N r→FC Z 138 [.ag (X4.row a0),.ag (zC a1),.ag (Xk.row a2),.sc (.sl (Y rI a3)),.sc (.int .i64 a4)] [.ag [.v (.int .i64 r.1.Start),.v (.int .i64 r.1.Arrival),.v (.int .i64 r.1.Cost),.o 5 (Y X3.row r.1.Passages)],.sc (.v (.bool r.2))]):=by
 refine⟨fun h=> ?_⟩;unfold HW at h;refine A4 mixed XK [.c 10 T 4,11] 76 ?_;have k0:= @A56;exact gc
def T6:Hw:=([(28,[2,3,5,7,9,10],[2,3,7],[1984,1985,1986,2560]),(44,[2,3,5,7,9,10],[2,3,7],[1984,1985,1986,2560])],[(42,2,(O,.frz 3843))])
def da:=fun(r3:(P U) × V) v7 (a0:X4) (a1:Xb) (r4:Xk × V) (k_:(P X0)→Q (P X0))=>∀{v14} {zr},k_ v14=N zr→Kh Z 97 T6 44 [2,3,5,7,9,10] [2,3,7] [1984,1985,1986,2560] ⟨[pB 2,pB 3,pL 5 rI r3.1,pB 7,pW 9 2560,pI 10 v7],[(2,([aI a0.Forecast.Tide.Mean,aM zG a0.Forecast.Tide.Parts,aM X9.row a0.Forecast.Surges,aM X7.row a0.Chart.Points,aM X2.row a0.Chart.Segments,aM X6.row a0.Fleet,aI a0.Regime.Gap,aB a0.Regime.NoMeet]++dm a0.Crew.row)),(3,(dm a1.row)),(7,[.own 1984,.own 1985,.own 1986])],[(1984,1,Y rB r4.1.waits),(1985,1,Y rI r4.1.minutes),(1986,1,Y (rL X5.row) r4.1.sure),(2560,4,Y X0.row v14)]⟩ (A7 [4] [.sc (.o 4 (Y X0.row zr))])
def UK:=fun(r3:(P U) × V) (a0:X4) (a1:Xb) (r4:Xk × V) (k_:U→(P X0)→Q (P X0))=>∀{v7 v8} {zr},k_ v7 v8=N zr→Kh Z 97 T6 28 [2,3,5,7,9,10] [2,3,7] [1984,1985,1986,2560] ⟨[pB 2,pB 3,pL 5 rI r3.1,pB 7,pW 9 2560,pI 10 v7],[(2,([aI a0.Forecast.Tide.Mean,aM zG a0.Forecast.Tide.Parts,aM X9.row a0.Forecast.Surges,aM X7.row a0.Chart.Points,aM X2.row a0.Chart.Segments,aM X6.row a0.Fleet,aI a0.Regime.Gap,aB a0.Regime.NoMeet]++dm a0.Crew.row)),(3,(dm a1.row)),(7,[.own 1984,.own 1985,.own 1986])],[(1984,1,Y rB r4.1.waits),(1985,1,Y rI r4.1.minutes),(1986,1,Y (rL X5.row) r4.1.sure),(2560,4,Y X0.row v8)]⟩ (A7 [4] [.sc (.o 4 (Y X0.row zr))])
theorem cI{r3 v7 a0 a1 r4}{R6}(qv:UK r3 a0 a1 r4 R6):da r3 v7 a0 a1 r4 (K1 r3 v7 a0 a1 r4 R6):=by
 intro v14 r h σ hσ;unfold K1 at h;have k0:= @qv;exact gc
theorem A57{r3 a0 a1 r4}{n:W}:UK r3 a0 a1 r4 (Ge r3 a0 a1 r4 n):=by
 induction n with
 | zero=>intro _ _ r h; cases h
 | succ n ih=>
  intro v7 v8 r h σ hσ S hS;refine ev hS ?_;rw[Ge] at h;refine AM (AA ?_);obtain⟨h9,h⟩|⟨h9,h⟩:=ic h
  ·obtain⟨h10,h⟩|⟨h10,h⟩:=ic h
   ·obtain⟨r11,h11,h⟩:=ob h;try simp only[hσ,h9,h10,C,E,F,G,H,J]
    refine E4 (Ag A1l h11) X (Db X ⟨X,X,X,Dc,X,⟨⟩⟩) X (uf X) ?_;try simp only[h9,h10,C,E,F,G,H,J]
    refine Bv ?_;obtain⟨h12,h⟩|⟨h12,h⟩:=ic h
    ·try simp only[h9,h10,h12,C,E,F,G,H,J]
     refine C8 ?_;try simp only[h9,h10,h12,C,E,F,G,H,J]
     refine Be (es:=Y X0.row ([r11.1]:P X0)) ?_;obtain⟨h13,h⟩:=AR h;try simp only[h9,h10,h12,h13,C,E,F,G,H,J]
     refine cI ih h ?_ (by kernel_rfl);try simp only[h9,h10,h12,h13,C,E,F,G,H,J,pL,aM,I]
    ·try simp only[h9,h10,h12,C,E,F,G,H,J]
     refine cI ih h ?_ (by kernel_rfl);try simp only[h9,h10,h12,C,E,F,G,H,J,pL,aM,I]
   ·try simp only[hσ,h9,h10,C,E,F,G,H,J]
    cases h;exact t0
  ·try simp only[hσ,h9,C,E,F,G,H,J]
   cases h;exact t0
instance bW:Ct 97 (∀{a0} {a1} {r},D5 a0 a1=N r→FC Z 97 [.ag (X4.row a0),.ag (zC a1)] [.sc (.o 4 (Y X0.row r))]):=by
 refine⟨fun h=> ?_⟩;unfold D5 at h;refine A4 mixed T6 [4] 69 ?_;have s0:= @Ap (Y X0.row ([]:P X0));have k0:= @A57;exact gc
def XL:Hw:=([(8,[2,5,9,10,11],[2],[512])],[(19,4,(O,.frz 1152))])
def dr:=fun a1 (a0:X4) (k_:U→(P (P X0))→Q (P (P X0)))=>∀{v1 v2} {zr},k_ v1 v2=N zr→Kh Z 57 XL 8 [2,5,9,10,11] [2] [512] ⟨[pB 2,pW 5 512,pL 9 zC a1,pI 10 (a1.length:U),pI 11 v1],[(2,([aI a0.Forecast.Tide.Mean,aM zG a0.Forecast.Tide.Parts,aM X9.row a0.Forecast.Surges,aM X7.row a0.Chart.Points,aM X2.row a0.Chart.Segments,aM X6.row a0.Fleet,aI a0.Regime.Gap,aB a0.Regime.NoMeet]++dm a0.Crew.row))],[(512,1,Y (rL X0.row) v2)]⟩ (A7 [4] [.sc (.o 1 (Y (rL X0.row) zr))])
theorem A58{a1 a0}{n:W}:dr a1 a0 (HP a1 a0 n):=by
 induction n with
 | zero=>intro _ _ r h; cases h
 | succ n ih=>
  intro v1 v2 r h σ hσ;rw[HP] at h;have s0:=fun(r5:(P X0))=> @Ap (Y (rL X0.row) ([r5]:P (P X0)))
  exact gc
instance A1a:Ct 57 (∀{a0} {a1} {r},PY a0 a1=N r→FC Z 57 [.ag (X4.row a0),.sc (.sl (Y zC a1))] [.sc (.o 1 (Y (rL X0.row) r))]):=by
 refine⟨fun h=> ?_⟩;unfold PY at h;refine A4 mixed XL [4] 23 ?_;have s0:= @Ap (Y (rL X0.row) ([]:P (P X0)));have k0:= @A58;exact gc
instance A1q:Ct 133 (∀{a0} {a1} {r},MC a0 a1=N r→FC Z 133 [.ag (Xj.row a0),.ag (Xj.row a1)] [.sc (.v (.bool r))]):=by
 refine⟨fun h=> ?_⟩;unfold MC at h;refine A4 mixed h0 [4] 24 ?_;exact gc
instance B0v:Ct 195 (∀{a0} {a1} {r},K2 a0 a1=N r→FC Z 195 [.ag (X3.row a0),.ag (X3.row a1)] [.sc (.v (.bool r))]):=by
 refine⟨fun h=> ?_⟩;unfold K2 at h;refine A4 mixed h0 [4] 16 ?_;exact gc
instance B1l:Ct 196 (∀{a0} {a1} {a2} {r},Kg a0 a1 a2=N r→FC Z 196 [.sc (.int .i64 a0),.sc (.int .i64 a1),.sc (.int .i64 a2)] [.sc (.v (.bool r))]):=by
 refine⟨fun h=> ?_⟩;unfold Kg at h;refine A4 mixed h0 [6] 19 ?_;exact gc
def O9:Hw:=([(6,[4,5,6,7,9],[4,5,6,7],[]),(12,[4,5,6,7,24],[4,5,6,7],[]),(24,[5,6,7,41],[5,6,7],[]),(36,[6,7,72],[6,7],[])],[])
def dy:=fun(a2:X3) (a3:X3) (k_:V→Q U)=>∀{v22} {zr},k_ v22=N zr→Kh Z 170 O9 36 [6,7,72] [6,7] [] ⟨[pB 6,pB 7,(72,vc (aB v22))],[(6,(dm a2.row)),(7,(dm a3.row))],[]⟩ (A7 [8] [.sc (.v (.int .i64 zr))])
def dx:=fun(a1:Xh) (a2:X3) (a3:X3) (k_:V→V→Q U)=>∀{v15 v16} {zr},k_ v15 v16=N zr→Kh Z 170 O9 24 [5,6,7,41] [5,6,7] [] ⟨[pB 5,pB 6,pB 7,(41,vc (aB v15))],[(5,[aI a1.Gap,aB v16]),(6,(dm a2.row)),(7,(dm a3.row))],[]⟩ (A7 [8] [.sc (.v (.int .i64 zr))])
def dw:=fun(a0:X1) (a1:Xh) (a2:X3) (a3:X3) (k_:V→Q U)=>∀{v7} {zr},k_ v7=N zr→Kh Z 170 O9 12 [4,5,6,7,24] [4,5,6,7] [] ⟨[pB 4,pB 5,pB 6,pB 7,(24,vc (aB v7))],[(4,[aM X7.row a0.Points,aM X2.row a0.Segments]),(5,(dm a1.row)),(6,(dm a2.row)),(7,(dm a3.row))],[]⟩ (A7 [8] [.sc (.v (.int .i64 zr))])
def dv:=fun(a0:X1) (a1:Xh) (a2:X3) (a3:X3) (k_:V→Q U)=>∀{v3} {zr},k_ v3=N zr→Kh Z 170 O9 6 [4,5,6,7,9] [4,5,6,7] [] ⟨[pB 4,pB 5,pB 6,pB 7,(9,vc (aB v3))],[(4,[aM X7.row a0.Points,aM X2.row a0.Segments]),(5,(dm a1.row)),(6,(dm a2.row)),(7,(dm a3.row))],[]⟩ (A7 [8] [.sc (.v (.int .i64 zr))])
theorem A59{a2 a3}:dy a2 a3 (Ms a2 a3):=by
 intro v22 r h σ hσ;unfold Ms at h;exact gc
theorem A6a{a1 a2 a3}:dx a1 a2 a3 (HS a1 a2 a3):=by
 intro v15 v16 r h σ hσ;unfold HS at h;have k0:= @A59;exact gc
theorem A6b{a0 a1 a2 a3}:dw a0 a1 a2 a3 (Mr a0 a1 a2 a3):=by
 intro v7 r h σ hσ;unfold Mr at h;have k0:= @A6a;exact gc
theorem A6c{a0 a1 a2 a3}:dv a0 a1 a2 a3 (Mq a0 a1 a2 a3):=by
 intro v3 r h σ hσ;unfold Mq at h;have k0:= @A6b;exact gc
instance B1g:Ct 170 (∀{a0} {a1} {a2} {a3} {r},Mp a0 a1 a2 a3=N r→FC Z 170 [.ag (X1.row a0),.ag (Xh.row a1),.ag (X3.row a2),.ag (X3.row a3)] [.sc (.v (.int .i64 r))]):=by
 refine⟨fun h=> ?_⟩;unfold Mp at h;refine A4 mixed O9 [8] 116 ?_;have k0:= @A6c;exact gc
def T7:Hw:=([(6,[3,4,5,13,14,15],[4,5],[]),(20,[3,4,5,10,13,14,15,19,20,21],[4,5,10],[])],[])
def du:=fun a3 a2 v1 (a0:X1) (a1:Xh) (x3:X3) (k_:U→Q V)=>∀{v4} {zr},k_ v4=N zr→Kh Z 140 T7 20 [3,4,5,10,13,14,15,19,20,21] [4,5,10] [] ⟨[pL 3 X3.row a3,pB 4,pB 5,pB 10,pL 13 X3.row a2,pI 14 (a2.length:U),pI 15 v1,pL 19 X3.row a3,pI 20 (a3.length:U),pI 21 v4],[(4,[aM X7.row a0.Points,aM X2.row a0.Segments]),(5,(dm a1.row)),(10,(dm x3.row))],[]⟩ (A7 [8] [.sc (.v (.bool zr))])
def UN:=fun a3 a2 (a0:X1) (a1:Xh) (k_:U→Q V)=>∀{v1} {zr},k_ v1=N zr→Kh Z 140 T7 6 [3,4,5,13,14,15] [4,5] [] ⟨[pL 3 X3.row a3,pB 4,pB 5,pL 13 X3.row a2,pI 14 (a2.length:U),pI 15 v1],[(4,[aM X7.row a0.Points,aM X2.row a0.Segments]),(5,(dm a1.row))],[]⟩ (A7 [8] [.sc (.v (.bool zr))])
theorem A6d{a3 a2 v1 a0 a1 x3}{Oo}(qy:UN a3 a2 a0 a1 Oo){n:W}:du a3 a2 v1 a0 a1 x3 (HR a3 a2 v1 a0 a1 x3 Oo n):=by
 induction n with
 | zero=>intro _ r h; cases h
 | succ n ih=>
  intro v4 r h σ hσ;rw[HR] at h;have k0:= @qy;exact gc
theorem A6f{a3 a2 a0 a1}{n:W}:UN a3 a2 a0 a1 (Fg a3 a2 a0 a1 n):=by
 induction n with
 | zero=>intro _ r h; cases h
 | succ n ih=>
  intro v1 r h σ hσ;rw[Fg] at h;have k0:= @A6d;exact gc
instance Ub:Ct 140 (∀{a0} {a1} {a2} {a3} {r},Eo a0 a1 a2 a3=N r→FC Z 140 [.ag (X1.row a0),.ag (Xh.row a1),.sc (.sl (Y X3.row a2)),.sc (.sl (Y X3.row a3))] [.sc (.v (.bool r))]):=by
 refine⟨fun h=> ?_⟩;unfold Eo at h;refine A4 mixed T7 [8] 33 ?_;have k0:= @A6f;exact gc
instance bc:Ct 162 (∀{a0} {r},Ep a0=N r→FC Z 162 [.sc (.sl (Y X0.row a0))] [.sc (.o 4 (Y X0.row r))]):=by
 refine⟨fun h=> ?_⟩;unfold Ep at h;refine A4 mixed h0 [2] 8 ?_;have s0:= @Ea _ X0.row (⟨(0:U),(0:U),(0:U),([]:P X3)⟩:X0);exact gc
instance B0y:Ct 211 (∀{a0} {a1} {r},K5 a0 a1=N r→FC Z 211 [.ag (X3.row a0),.ag (X1.row a1)] [.sc (.v (.int .i64 r.1)),.sc (.v (.int .i64 r.2))]):=by
 refine⟨fun h=> ?_⟩;unfold K5 at h;refine A4 mixed h0 [4,5] 23 ?_;exact gc
instance B1i:Ct 185 (∀{a0} {a1} {a2} {r},Kc a0 a1 a2=N r→FC Z 185 [.ag (X1.row a0),.ag (X3.row a1),.ag (X3.row a2)] [.ag [.v (.int .i64 r.From),.v (.int .i64 r.To),.v (.int .i64 r.A),.v (.int .i64 r.B)]]):=by
 refine⟨fun h=> ?_⟩;unfold Kc at h;refine A4 mixed h0 [.c 6 T 4] 30 ?_;exact gc
instance B1n:Ct 231 (∀{a0} {a1} {a2} {r},My a0 a1 a2=N r→FC Z 231 [.ag (X1.row a0),.sc (.sl (Y X6.row a1)),.ag (X3.row a2)] [.sc (.v (.bool r))]):=by
 refine⟨fun h=> ?_⟩;unfold My at h;refine A4 mixed h0 [6] 51 ?_;exact gc
instance B0x:Ct 212 (∀{a0} {a1} {a2} {r},Md a0 a1 a2=N r→FC Z 212 [.ag (X1.row a0),.sc (.sl (Y X6.row a1)),.ag (X3.row a2)] [.sc (.v (.bool r))]):=by
 refine⟨fun h=> ?_⟩;unfold Md at h;refine A4 mixed h0 [6] 19 ?_;exact gc
def T8:Hw:=([(8,[1,3,8,12,13,14],[3],[704]),(31,[1,3,8,10,12,13,14,28,29],[3,10],[704])],[])
def eM:=fun a1 a2 v1 (x7:X6) (a0:X1) (x4:X3) (k_:U→(P Xa)→Q ((P Xa) × V))=>∀{v8 v9} {zr},k_ v8 v9=N zr→Kh Z 186 T8 31 [1,3,8,10,12,13,14,28,29] [3,10] [704] ⟨[pL 1 X6.row a1,pB 3,pW 8 704,pB 10,pL 12 X3.row a2,pI 13 (a2.length:U),pI 14 v1,pI 28 x7.Tugs,pI 29 v8],[(3,[aM X7.row a0.Points,aM X2.row a0.Segments]),(10,(dm x4.row))],[(704,4,Y zB v9)]⟩ (A7 [6,7] [.sc (.o 4 (Y zB zr.1)),.sc (.v (.bool zr.2))])
def UR:=fun a1 a2 (a0:X1) (k_:U→(P Xa)→Q ((P Xa) × V))=>∀{v1 v2} {zr},k_ v1 v2=N zr→Kh Z 186 T8 8 [1,3,8,12,13,14] [3] [704] ⟨[pL 1 X6.row a1,pB 3,pW 8 704,pL 12 X3.row a2,pI 13 (a2.length:U),pI 14 v1],[(3,[aM X7.row a0.Points,aM X2.row a0.Segments])],[(704,4,Y zB v2)]⟩ (A7 [6,7] [.sc (.o 4 (Y zB zr.1)),.sc (.v (.bool zr.2))])
theorem A6g{a1 a2 v1 x7 a0 x4}{Ot}(rD:UR a1 a2 a0 Ot){n:W}:eM a1 a2 v1 x7 a0 x4 (Gr a1 a2 v1 x7 a0 x4 Ot n):=by
 induction n with
 | zero=>intro _ _ r h; cases h
 | succ n ih=>
  intro v8 v9 r h σ hσ;rw[Gr] at h;have s0:=fun(r11:Xa)=> @Ap (Y zB ([r11]:P Xa))
  have k0:= @rD;exact gc
theorem A6h{a1 a2 a0}{n:W}:UR a1 a2 a0 (Fj a1 a2 a0 n):=by
 induction n with
 | zero=>intro _ _ r h; cases h
 | succ n ih=>
  intro v1 v2 r h σ hσ;rw[Fj] at h;have k0:= @A6g;exact gc
instance B1o:Ct 186 (∀{a0} {a1} {a2} {r},MA a0 a1 a2=N r→FC Z 186 [.ag (X1.row a0),.sc (.sl (Y X6.row a1)),.sc (.sl (Y X3.row a2))] [.sc (.o 4 (Y zB r.1)),.sc (.v (.bool r.2))]):=by
 refine⟨fun h=> ?_⟩;unfold MA at h;refine A4 mixed T8 [6,7] 44 ?_;have s0:= @Ap (Y zB ([]:P Xa));have k0:= @A6h;exact gc
def XM:Hw:=([(14,[8,9,10],[],[])],[])
def dQ:=fun a0 (k_:U→Q V)=>∀{v2} {zr},k_ v2=N zr→Kh Z 248 XM 14 [8,9,10] [] [] ⟨[pL 8 zB a0,pI 9 (a0.length:U),pI 10 v2],[],[]⟩ (A7 [2] [.sc (.v (.bool zr))])
theorem A6i{a0}{n:W}:dQ a0 (HD a0 n):=by
 induction n with
 | zero=>intro _ r h; cases h
 | succ n ih=>
  intro v2 r h σ hσ;rw[HD] at h;exact gc
instance B0g:Ct 248 (∀{a0} {r},HC a0=N r→FC Z 248 [.sc (.sl (Y zB a0))] [.sc (.v (.bool r))]):=by
 refine⟨fun h=> ?_⟩;unfold HC at h;refine A4 mixed XM [2] 42 ?_;have k0:= @A6i;exact gc
instance A1c:Ct 232 (∀{a0} {a1} {a2} {r},PZ a0 a1 a2=N r→FC Z 232 [.sc (.int .i64 a0),.sc (.sl (Y rI a1)),.sc (.sl (Y zB a2))] [.sc (.v (.bool r))]):=by
 refine⟨fun h=> ?_⟩;unfold PZ at h;refine A4 mixed h0 [6] 17 ?_;exact gc
def XN:Hw:=([(5,[0,1,6,7,29],[6,7],[])],[])
def dU:=fun a0 a1 (a2:Xa) (a3:Xa) (k_:V→Q (U × V))=>∀{v8} {zr},k_ v8=N zr→Kh Z 256 XN 5 [0,1,6,7,29] [6,7] [] ⟨[pI 0 a0,pL 1 rI a1,pB 6,pB 7,(29,vc (aB v8))],[(6,(dm a2.row)),(7,(dm a3.row))],[]⟩ (A7 [8,9] [.sc (.v (.int .i64 zr.1)),.sc (.v (.bool zr.2))])
theorem A6j{a0 a1 a2 a3}:dU a0 a1 a2 a3 (HF a0 a1 a2 a3):=by
 intro v8 r h σ hσ;unfold HF at h;exact gc
instance B0l:Ct 256 (∀{a0} {a1} {a2} {a3} {r},PQ a0 a1 a2 a3=N r→FC Z 256 [.sc (.int .i64 a0),.sc (.sl (Y rI a1)),.ag (zB a2),.ag (zB a3)] [.sc (.v (.int .i64 r.1)),.sc (.v (.bool r.2))]):=by
 refine⟨fun h=> ?_⟩;unfold PQ at h;refine A4 mixed XN [8,9] 41 ?_;have k0:= @A6j;exact gc
instance bV:Ct 249 (∀{a0} {a1} {a2} {a3} {r},JV a0 a1 a2 a3=N r→FC Z 249 [.sc (.int .i64 a0),.sc (.sl (Y rI a1)),.ag (zB a2),.ag (zB a3)] [.sc (.v (.bool r))]):=by
 refine⟨fun{a0} {a1} {a2} {a3} {r} h=> ?_⟩;unfold JV at h;refine A4 mixed h0 [8] 39 ?_;have s0:= @Ap (Y zB ([a2]:P Xa));have s1:= @Ap (Y zB ([a3]:P Xa));exact gc
def QL:Hw:=([(8,[0,1,2,7,15,16,17],[],[896]),(22,[0,1,2,7,8,9,15,16,17,22,23,24],[9],[896]),(35,[0,1,2,7,8,9,10,15,16,17,22,23,24,45],[9],[896])],[])
def eI:=fun a0 a1 a2 v2 v6 (x5:Xa) v7 (k_:V→Q (P U))=>∀{v14} {zr},k_ v14=N zr→Kh Z 233 QL 35 [0,1,2,7,8,9,10,15,16,17,22,23,24,45] [9] [896] ⟨[pI 0 a0,pL 1 rI a1,pL 2 zB a2,pW 7 896,pI 8 v2,pB 9,pI 10 v6,pL 15 zB a2,pI 16 (a2.length:U),pI 17 v2,pL 22 zB a2,pI 23 (a2.length:U),pI 24 v6,(45,vc (aB v14))],[(9,(dm x5.row))],[(896,1,Y rU v7)]⟩ (A7 [6] [.sc (.o 1 (Y rU zr))])
def UQ:=fun a0 a1 a2 v2 (x5:Xa) (k_:U→(P U)→Q (P U))=>∀{v6 v7} {zr},k_ v6 v7=N zr→Kh Z 233 QL 22 [0,1,2,7,8,9,15,16,17,22,23,24] [9] [896] ⟨[pI 0 a0,pL 1 rI a1,pL 2 zB a2,pW 7 896,pI 8 v2,pB 9,pL 15 zB a2,pI 16 (a2.length:U),pI 17 v2,pL 22 zB a2,pI 23 (a2.length:U),pI 24 v6],[(9,(dm x5.row))],[(896,1,Y rU v7)]⟩ (A7 [6] [.sc (.o 1 (Y rU zr))])
def UP:=fun a0 a1 a2 (k_:U→(P U)→Q (P U))=>∀{v2 v3} {zr},k_ v2 v3=N zr→Kh Z 233 QL 8 [0,1,2,7,15,16,17] [] [896] ⟨[pI 0 a0,pL 1 rI a1,pL 2 zB a2,pW 7 896,pL 15 zB a2,pI 16 (a2.length:U),pI 17 v2],[],[(896,1,Y rU v3)]⟩ (A7 [6] [.sc (.o 1 (Y rU zr))])
theorem Un{a0 a1 a2 v2 v6 x5 v7}{Oq}(Yg:UQ a0 a1 a2 v2 x5 Oq):eI a0 a1 a2 v2 v6 x5 v7 (HX a0 a1 a2 v2 v6 x5 v7 Oq):=by
 intro v14 r h σ hσ S hS;refine ev hS ?_;refine AA ?_;unfold HX at h;obtain⟨h15,h⟩|⟨h15,h⟩:=ic h
 ·try simp only[hσ,h15,C,E,F,G,H,J]
  refine An ?_;obtain⟨x16,h16,h⟩:=ob h;have h16n:=Ay h16;obtain⟨h17,h⟩:=Jf h;try simp only[h15,h16,h16n,h17,C,E,F,G,H,J]
  refine CE (row:=rU) (y:=(B8 .or .u64 x16 (Bl .u64 (1:U) v6))) X X h16n X X (by rfl) ?_;try simp only[h15,h16,h16n,h17,C,E,F,G,H,J]
  refine An ?_;try simp only[h15,h16,h16n,h17,C,E,F,G,H,J]
  refine Yg h ?_ (by kernel_rfl);try simp only[h15,h16,h16n,h17,C,E,F,G,H,J,pL,aM,I]
 ·try simp only[hσ,h15,C,E,F,G,H,J]
  refine Yg h ?_ (by kernel_rfl);try simp only[h15,C,E,F,G,H,J,pL,aM,I]
theorem A6m{a0 a1 a2 v2 x5}{J4}(rC:UP a0 a1 a2 J4){n:W}:UQ a0 a1 a2 v2 x5 (DT a0 a1 a2 v2 x5 J4 n):=by
 induction n with
 | zero=>intro _ _ r h; cases h
 | succ n ih=>
  intro v6 v7 r h σ hσ S hS;refine ev hS ?_;rw[DT] at h;refine AM (AA ?_);obtain⟨h8,h⟩|⟨h8,h⟩:=ic h
  ·obtain⟨x9,h9,h⟩:=ob h;try simp only[hσ,h8,h9,C,E,F,G,H,J]
   refine Bv ?_;obtain⟨h10,h⟩|⟨h10,h⟩:=ic h
   ·obtain⟨r11,h11,h⟩:=ob h;try simp only[h8,h9,h10,C,E,F,G,H,J]
    refine AE (Ag bV h11) ?_;obtain⟨h12,h⟩|⟨h12,h⟩:=ic h
    ·try simp only[h8,h9,h10,h12,C,E,F,G,H,J]
     refine Un ih h ?_ (by kernel_rfl);try simp only[h8,h9,h10,h12,C,E,F,G,H,J,pL,aM,I]
    ·obtain⟨r13,h13,h⟩:=ob h;try simp only[h8,h9,h10,h12,C,E,F,G,H,J]
     refine AE (Ag bV h13) ?_;try simp only[h8,h9,h10,h12,C,E,F,G,H,J]
     refine Un ih h ?_ (by kernel_rfl);try simp only[h8,h9,h10,h12,C,E,F,G,H,J,pL,aM,I]
   ·try simp only[h8,h9,h10,C,E,F,G,H,J]
    refine Un ih h ?_ (by kernel_rfl);try simp only[h8,h9,h10,C,E,F,G,H,J,pL,aM,I]
  ·try simp only[hσ,h8,C,E,F,G,H,J]
   refine rC h ?_ (by kernel_rfl);try simp only[h8,C,E,F,G,H,J,pL,aM,I]
theorem A6n{a0 a1 a2}{n:W}:UP a0 a1 a2 (Fi a0 a1 a2 n):=by
 induction n with
 | zero=>intro _ _ r h; cases h
 | succ n ih=>
  intro v2 v3 r h σ hσ;rw[Fi] at h;have k0:= @A6m;exact gc
instance A1m:Ct 233 (∀{a0} {a1} {a2} {r},Mx a0 a1 a2=N r→FC Z 233 [.sc (.int .i64 a0),.sc (.sl (Y rI a1)),.sc (.sl (Y zB a2))] [.sc (.o 1 (Y rU r))]):=by
 refine⟨fun h=> ?_⟩;unfold Mx at h;refine A4 mixed QL [6] 57 ?_;have s0:= @Ea _ rU (0:U);have k0:= @A6n;exact gc
def QM:Hw:=([(10,[0,2],[],[]),(18,[0,2],[],[]),(26,[0,2],[],[])],[])
def fD:=fun(k_:U→U→Q U)=>∀{v8 v9} {zr},k_ v8 v9=N zr→Kh Z 241 QM 26 [0,2] [] [] ⟨[(0,vc (.dat (.int .u64 v8))),pI 2 v9],[],[]⟩ (A7 [2] [.sc (.v (.int .i64 zr))])
def fC:=fun(k_:U→U→Q U)=>∀{v5 v6} {zr},k_ v5 v6=N zr→Kh Z 241 QM 18 [0,2] [] [] ⟨[(0,vc (.dat (.int .u64 v5))),pI 2 v6],[],[]⟩ (A7 [2] [.sc (.v (.int .i64 zr))])
def fB:=fun(k_:U→U→Q U)=>∀{v2 v3} {zr},k_ v2 v3=N zr→Kh Z 241 QM 10 [0,2] [] [] ⟨[(0,vc (.dat (.int .u64 v2))),pI 2 v3],[],[]⟩ (A7 [2] [.sc (.v (.int .i64 zr))])
theorem A6o:fD Kk:=by
 intro v8 v9 r h σ hσ;unfold Kk at h;exact gc
theorem A6p:fC Nh:=by
 intro v5 v6 r h σ hσ;unfold Nh at h;have k0:= @A6o;exact gc
theorem A6q:fB Ng:=by
 intro v2 v3 r h σ hσ;unfold Ng at h;have k0:= @A6p;exact gc
instance B3a:Ct 241 (∀{a0} {r},Qh a0=N r→FC Z 241 [.sc (.int .u64 a0)] [.sc (.v (.int .i64 r))]):=by
 refine⟨fun h=> ?_⟩;unfold Qh at h;refine A4 mixed QM [2] 25 ?_;have k0:= @A6q;exact gc
instance A1s:Ct 250 (∀{a0} {r},Kj a0=N r→FC Z 250 [.sc (.int .u64 a0)] [.sc (.v (.int .i64 r))]):=by
 refine⟨fun h=> ?_⟩;unfold Kj at h;refine A4 mixed h0 [2] 8 ?_;exact gc
def Oa:Hw:=([(14,[0,3,4,5,6],[],[896,1024]),(29,[0,3,4,5,6,7,8],[],[896,1024]),(34,[0,3,4,5,6,7,8,9],[],[896,1024]),(43,[0,3,4,5,6,7,8,9],[],[896,1024])],[])
def eF:=fun a0 y5 v6 v17 v18 v21 v19 (k_:(P U)→Q U)=>∀{v28} {zr},k_ v28=N zr→Kh Z 234 Oa 43 [0,3,4,5,6,7,8,9] [] [896,1024] ⟨[pL 0 rU a0,pI 3 y5,pW 4 896,pW 5 1024,pI 6 v6,pI 7 v17,pI 8 v18,pI 9 v21],[],[(896,1,Y rB v19),(1024,1,Y rI v28)]⟩ (A7 [2] [.sc (.v (.int .i64 zr))])
def UO:=fun a0 y5 v6 v17 v18 v19 (k_:U→(P U)→Q U)=>∀{v21 v22} {zr},k_ v21 v22=N zr→Kh Z 234 Oa 34 [0,3,4,5,6,7,8,9] [] [896,1024] ⟨[pL 0 rU a0,pI 3 y5,pW 4 896,pW 5 1024,pI 6 v6,pI 7 v17,pI 8 v18,pI 9 v21],[],[(896,1,Y rB v19),(1024,1,Y rI v22)]⟩ (A7 [2] [.sc (.v (.int .i64 zr))])
def eD:=fun a0 y5 v6 v8 (k_:U→U→(P V)→Q U)=>∀{v17 v18 v19} {zr},k_ v17 v18 v19=N zr→Kh Z 234 Oa 29 [0,3,4,5,6,7,8] [] [896,1024] ⟨[pL 0 rU a0,pI 3 y5,pW 4 896,pW 5 1024,pI 6 v6,pI 7 v17,pI 8 v18],[],[(896,1,Y rB v19),(1024,1,Y rI v8)]⟩ (A7 [2] [.sc (.v (.int .i64 zr))])
def Pp:=fun a0 y5 (k_:U→(P V)→(P U)→Q U)=>∀{v6 v7 v8} {zr},k_ v6 v7 v8=N zr→Kh Z 234 Oa 14 [0,3,4,5,6] [] [896,1024] ⟨[pL 0 rU a0,pI 3 y5,pW 4 896,pW 5 1024,pI 6 v6],[],[(896,1,Y rB v7),(1024,1,Y rI v8)]⟩ (A7 [2] [.sc (.v (.int .i64 zr))])
theorem cJ{a0 y5 v6 v17 v18 v21 v19}{Co}(Oc:Pp a0 y5 Co){R7}(qz:UO a0 y5 v6 v17 v18 v19 R7):eF a0 y5 v6 v17 v18 v21 v19 (Kf a0 y5 v6 v17 v18 v21 v19 Co R7):=by
 intro v28 r h σ hσ;unfold Kf at h;have k0:= @Oc; have k1:= @qz;exact gc
theorem A6r{a0 y5 v6 v17 v18 v19}{Co}(Oc:Pp a0 y5 Co){n:W}:UO a0 y5 v6 v17 v18 v19 (Gm a0 y5 v6 v17 v18 v19 Co n):=by
 induction n with
 | zero=>intro _ _ r h; cases h
 | succ n ih=>
  intro v21 v22 r h σ hσ S hS;refine ev hS ?_;rw[Gm] at h;refine AM (AA ?_);obtain⟨h23,h⟩:=Jf h;obtain⟨x24,h24,h⟩:=ob h;have h24n:=Ay h24;obtain⟨h25,h⟩|⟨h25,h⟩:=ic h
  ·try simp only[hσ,h23,h24,h24n,h25,C,E,F,G,H,J]
   refine An ?_;obtain⟨x26,h26,h⟩:=ob h;have h26n:=Ay h26;obtain⟨x27,h27,h⟩:=ob h;have h27n:=Ay h27;try simp only[h23,h24,h24n,h25,h26,h26n,h27,h27n,C,E,F,G,H,J]
   refine CE (row:=rI) (y:=(if(IntKind.i64.wrap ((1:U)+x27))<x26 then(IntKind.i64.wrap ((1:U)+x27)) else x26)) X X h26n X X (by rfl) ?_;try simp only[h23,h24,h24n,h25,h26,h26n,h27,h27n,C,E,F,G,H,J]
   refine An ?_;try simp only[h23,h24,h24n,h25,h26,h26n,h27,h27n,C,E,F,G,H,J]
   refine cJ Oc ih h ?_ (by kernel_rfl);try simp only[h23,h24,h24n,h25,h26,h26n,h27,h27n,C,E,F,G,H,J,pL,aM,I]
  ·try simp only[hσ,h23,h24,h24n,h25,C,E,F,G,H,J]
   refine cJ Oc ih h ?_ (by kernel_rfl);try simp only[h23,h24,h24n,h25,C,E,F,G,H,J,pL,aM,I]
theorem cK{a0 y5 v6 v8}{Co}(Oc:Pp a0 y5 Co):eD a0 y5 v6 v8 (Ke a0 y5 v6 v8 Co):=by
 intro v17 v18 v19 r h σ hσ;unfold Ke at h;have s0:= @ES _ rI ((a0.length:U));have k0:= @A6r;exact gc
theorem A6t{a0 y5}{n:W}:Pp a0 y5 (Er a0 y5 n):=by
 induction n with
 | zero=>intro _ _ _ r h; cases h
 | succ n ih=>
  intro v6 v7 v8 r h σ hσ S hS;refine ev hS ?_;rw[Er] at h;refine AM (AA ?_);obtain⟨h9,h⟩|⟨h9,h⟩:=ic h
  ·obtain⟨r10,h10,h⟩:=ob h;try simp only[hσ,h9,C,E,F,G,H,J]
   refine AE (Ag A1s h10) ?_;obtain⟨h11,h⟩:=Jf h;obtain⟨x12,h12,h⟩:=ob h;have h12n:=Ay h12;obtain⟨h13,h⟩|⟨h13,h⟩:=ic h
   ·obtain⟨x14,h14,h⟩:=ob h;obtain⟨x15,h15,h⟩:=ob h;have h15n:=Ay h15;try simp only[h9,h11,h12,h12n,h13,h14,h15,C,E,F,G,H,J]
    refine CE (row:=rB) (y:=((B8 .andNot .u64 (IntKind.u64.wrap (B8 .andNot .i64 v6 (Bl .i64 (1:U) (IntKind.i64.wrap (r10 - (1:U)))))) x14)==(0:U))) X X h15n X X (by rfl) ?_;try simp only[h9,h11,h12,h12n,h13,h14,h15,C,E,F,G,H,J]
    refine cK ih h ?_ (by kernel_rfl);try simp only[h9,h11,h12,h12n,h13,h14,h15,C,E,F,G,H,J,pL,aM,I]
   ·obtain⟨x16,h16,h⟩:=ob h;have h16n:=Ay h16;try simp only[h9,h11,h12,h12n,h13,h16,C,E,F,G,H,J]
    refine CE (row:=rB) (y:=false) X X h16n X X (by rfl) ?_;try simp only[h9,h11,h12,h12n,h13,h16,C,E,F,G,H,J]
    refine cK ih h ?_ (by kernel_rfl);try simp only[h9,h11,h12,h12n,h13,h16,C,E,F,G,H,J,pL,aM,I]
  ·obtain⟨x30,h30,h⟩:=ob h;have h30n:=Ay h30;try simp only[hσ,h9,h30,h30n,C,E,F,G,H,J]
   cases h;exact t0
instance A1j:Ct 234 (∀{a0} {r},Mw a0=N r→FC Z 234 [.sc (.sl (Y rU a0))] [.sc (.v (.int .i64 r))]):=by
 refine⟨fun{a0} {r} h=> ?_⟩;unfold Mw at h;refine A4 mixed Oa [2] 88 ?_;intro S hS;refine ev hS ?_;simp only[C,E,F,G,H,J];obtain⟨h1,h⟩:=Jf h;obtain⟨n2,hn2,h⟩:=ob h;try simp only[h1,C,E,F,G,H,J]
 refine SO (es:=Y rB (List.replicate n2 L)) X X hn2 X (Rt X) X ?_;obtain⟨n3,hn3,h⟩:=ob h;try simp only[h1,C,E,F,G,H,J]
 refine SO (es:=Y rI (List.replicate n3 (0:U))) X X hn3 X (Rt X) X ?_;obtain⟨x4,h4,h⟩:=ob h;have h4n:=Ay h4;try simp only[h1,h4,C,E,F,G,H,J]
 refine CE (row:=rB) (y:=true) X X h4n X X (by rfl) ?_;try simp only[h1,h4,C,E,F,G,H,J]
 refine A6t h ?_ (by kernel_rfl);try simp only[h1,h4,C,E,F,G,H,J,pL,aM,I]
def Ob:Hw:=([(16,[0,3,4],[99999999999],[90000,90001]),(31,[0,3,4],[99999999999],[90000,90001]),(51,[0,3,4],[99999999999],[90000,90001])],[(48,7,(O,.cut 95)),(55,7,(O,.cut 123))])
def eA:=fun(a0:Xg) v2 (k_:(P U)→U→(P U)→(P U)→Q (V × Xg))=>∀{v22 v23 v24 v25} {zr},k_ v22 v23 v24 v25=N zr→Kh Z 235 Ob 51 [0,3,4] [99999999999] [90000,90001] ⟨[(0,vc (.pb 99999999999 0)),pI 3 (a0.who.length:U),pI 4 v2],[(99999999999,[aM rU v22,aI v23,.own 90000,.own 90001])],[(90000,1,Y rU v24),(90001,1,Y rI v25)]⟩ (D2 [2] [.sc (.v (.bool zr.1))] (Cr zr.2) (Cs zr.2))
def dz:=fun(a0:Xg) v2 v3 v4 v6 (k_:(P U)→Q (V × Xg))=>∀{v11} {zr},k_ v11=N zr→Kh Z 235 Ob 31 [0,3,4] [99999999999] [90000,90001] ⟨[(0,vc (.pb 99999999999 0)),pI 3 (a0.who.length:U),pI 4 v2],[(99999999999,[aM rU v3,aI v4,.own 90000,.own 90001])],[(90000,1,Y rU v11),(90001,1,Y rI v6)]⟩ (D2 [2] [.sc (.v (.bool zr.1))] (Cr zr.2) (Cs zr.2))
def RS:=fun(a0:Xg) (k_:U→(P U)→U→(P U)→(P U)→Q (V × Xg))=>∀{v2 v3 v4 v5 v6} {zr},k_ v2 v3 v4 v5 v6=N zr→Kh Z 235 Ob 16 [0,3,4] [99999999999] [90000,90001] ⟨[(0,vc (.pb 99999999999 0)),pI 3 (a0.who.length:U),pI 4 v2],[(99999999999,[aM rU v3,aI v4,.own 90000,.own 90001])],[(90000,1,Y rU v5),(90001,1,Y rI v6)]⟩ (D2 [2] [.sc (.v (.bool zr.1))] (Cr zr.2) (Cs zr.2))
theorem cL{rec_:Xg→Q (V × Xg)}(h_rec:∀(a0:Xg) zr,rec_ a0=N zr→FCz Z 235 [.p] (Cr a0) (Cs a0) (Cr zr.2) (Cs zr.2) [.sc (.v (.bool zr.1))]){a0 v2}{EH}(QR:RS a0 EH):eA a0 v2 (HT rec_ a0 v2 EH):=by
 intro v22 v23 v24 v25 r h σ hσ S hS;refine ev hS ?_;refine AA ?_;unfold HT at h;obtain⟨x26,h26,h⟩:=ob h;have h26n:=Ay h26;obtain⟨h27,h⟩|⟨h27,h⟩:=ic h
 ·obtain⟨p28,h28,h⟩:=ob h;try simp only[hσ,h26,h26n,h27,C,E,F,G,H,J]
  refine IY X X h28 (by rfl) ?_;try simp only[h26,h26n,h27,C,E,F,G,H,J]
  cases h;exact⟨⟨X,⟨⟩⟩,[90000,90001],by decide,by decide,X,X⟩
 ·try simp only[hσ,h26,h26n,h27,C,E,F,G,H,J]
  refine QR h ?_ (by kernel_rfl);try simp only[h26,h26n,h27,C,E,F,G,H,J,pL,aM,I]
theorem cM{rec_:Xg→Q (V × Xg)}(h_rec:∀(a0:Xg) zr,rec_ a0=N zr→FCz Z 235 [.p] (Cr a0) (Cs a0) (Cr zr.2) (Cs zr.2) [.sc (.v (.bool zr.1))]){a0 v2 v3 v4 v6}{EH}(QR:RS a0 EH):dz a0 v2 v3 v4 v6 (Kb rec_ a0 v2 v3 v4 v6 EH):=by
 intro v11 r h σ hσ S hS;refine ev hS ?_;refine AA ?_;unfold Kb at h;try simp only[hσ,C,E,F,G,H,J]
 refine An ?_;obtain⟨x12,h12,h⟩:=ob h;have h12n:=Ay h12;obtain⟨x13,h13,h⟩:=ob h;obtain⟨h14,h⟩|⟨h14,h⟩:=ic h
 ·try simp only[h12,h12n,h13,h14,C,E,F,G,H,J]
  refine An ?_;obtain⟨h15,h⟩:=Jf h;try simp only[h12,h12n,h13,h14,h15,C,E,F,G,H,J]
  refine CE (row:=rU) (y:=(B8 .or .u64 x12 (Bl .u64 (1:U) (a0.who.length:U)))) X X h12n X X (by rfl) ?_;try simp only[h12,h12n,h13,h14,h15,C,E,F,G,H,J]
  refine An ?_;try simp only[h12,h12n,h13,h14,h15,C,E,F,G,H,J]
  refine Be (es:=Y rI ([v2]:P U)) ?_;obtain⟨h16,h⟩:=AR h;obtain⟨r17,h17,h⟩:=ob h;try simp only[h12,h12n,h13,h14,h15,h16,C,E,F,G,H,J]
  refine GQ (h_rec _ _ h17) 99999999999 [90000,90001] rfl X X X (by decide) X X X ?_;obtain⟨h18,h⟩|⟨h18,h⟩:=ic h
  ·try simp only[h12,h12n,h13,h14,h15,h16,h18,C,E,F,G,H,J]
   cases h;exact⟨⟨X,⟨⟩⟩,[90000,90001],by decide,by decide,X,X⟩
  ·obtain⟨p19,h19,h⟩:=ob h;try simp only[h12,h12n,h13,h14,h15,h16,h18,C,E,F,G,H,J]
   refine IY X X h19 (by rfl) ?_;try simp only[h12,h12n,h13,h14,h15,h16,h18,C,E,F,G,H,J]
   refine An ?_;obtain⟨x20,h20,h⟩:=ob h;have h20n:=Ay h20;obtain⟨h21,h⟩:=Jf h;try simp only[h12,h12n,h13,h14,h15,h16,h18,h20,h20n,h21,C,E,F,G,H,J]
   refine CE (row:=rU) (y:=(B8 .andNot .u64 x20 (Bl .u64 (1:U) (a0.who.length:U)))) X X h20n X X (by rfl) ?_;try simp only[h12,h12n,h13,h14,h15,h16,h18,h20,h20n,h21,C,E,F,G,H,J]
   refine An ?_;try simp only[h12,h12n,h13,h14,h15,h16,h18,h20,h20n,h21,C,E,F,G,H,J]
   refine cL h_rec QR h ?_ (by kernel_rfl);try simp only[h12,h12n,h13,h14,h15,h16,h18,h20,h20n,h21,C,E,F,G,H,J,pL,aM,I]
 ·try simp only[h12,h12n,h13,h14,C,E,F,G,H,J]
  refine cL h_rec QR h ?_ (by kernel_rfl);try simp only[h12,h12n,h13,h14,C,E,F,G,H,J,pL,aM,I]
theorem A6u{rec_:Xg→Q (V × Xg)}(h_rec:∀(a0:Xg) zr,rec_ a0=N zr→FCz Z 235 [.p] (Cr a0) (Cs a0) (Cr zr.2) (Cs zr.2) [.sc (.v (.bool zr.1))]){a0}{n:W}:RS a0 (Fh rec_ a0 n):=by
 induction n with
 | zero=>intro _ _ _ _ _ r h; cases h
 | succ n ih=>
  intro v2 v3 v4 v5 v6 r h σ hσ S hS;refine ev hS ?_;rw[Fh] at h;refine AM (AA ?_);obtain⟨h7,h⟩|⟨h7,h⟩:=ic h
  ·obtain⟨h8,h⟩|⟨h8,h⟩:=ic h
   ·obtain⟨h9,h⟩|⟨h9,h⟩:=ic h
    ·try simp only[hσ,h7,h8,h9,C,E,F,G,H,J]
     refine Be (es:=Y rU ([(0:U)]:P U)) ?_;obtain⟨h10,h⟩:=AR h;try simp only[h7,h8,h9,h10,C,E,F,G,H,J]
     refine cM h_rec ih h ?_ (by kernel_rfl);try simp only[h7,h8,h9,h10,C,E,F,G,H,J,pL,aM,I]
    ·try simp only[hσ,h7,h8,h9,C,E,F,G,H,J]
     refine cM h_rec ih h ?_ (by kernel_rfl);try simp only[h7,h8,h9,C,E,F,G,H,J,pL,aM,I]
   ·try simp only[hσ,h7,h8,C,E,F,G,H,J]
    cases h;exact⟨⟨X,⟨⟩⟩,[90000,90001],by decide,by decide,X,X⟩
  ·try simp only[hσ,h7,C,E,F,G,H,J]
   cases h;exact⟨⟨X,⟨⟩⟩,[90000,90001],by decide,by decide,X,X⟩
theorem nA:BM Z 235=N ((Ei Z 235 Ob).strip,[2],126):=by kernel_rfl
theorem A1e(rec_:Xg→Q (V × Xg))(a0:Xg)(r:V × Xg)(h_rec:∀(a0:Xg) zr,rec_ a0=N zr→FCz Z 235 [.p] (Cr a0) (Cs a0) (Cr zr.2) (Cs zr.2) [.sc (.v (.bool zr.1))])(h:Mu rec_ a0=N r):FCz Z 235 [.p] (Cr a0) (Cs a0) (Cr r.2) (Cs r.2) [.sc (.v (.bool r.1))]:=by
 unfold Mu at h;refine Pn (σ:=⟨[(0,vc (.pb 99999999999 0))],[(99999999999,[aL (Y rU a0.sets),aI a0.most,.own 90000,.own 90001])],[(90000,1,Y rU a0.groups),(90001,1,Y rI a0.who)]⟩) mixed nA X X X X ?_;refine F4 Ob ?_;intro S hS;refine ev hS ?_;obtain⟨h1,h⟩|⟨h1,h⟩:=ic h
 ·try simp only[h1,C,E,F,G,H,J]
  cases h;exact⟨⟨X,⟨⟩⟩,[90000,90001],by decide,by decide,X,X⟩
 ·try simp only[h1,C,E,F,G,H,J]
  refine A6u h_rec h ?_ (by kernel_rfl);try simp only[h1,C,E,F,G,H,J,pL,aM,I]
theorem A1f:∀(n:W) (a0:Xg) (r:V × Xg),DS n a0=N r→FCz Z 235 [.p] (Cr a0) (Cs a0) (Cr r.2) (Cs r.2) [.sc (.v (.bool r.1))]:=by
 intro n
 induction n with
 | zero=>intro _ r h; cases h
 | succ n ih=>intro a0 r h; rw[DS] at h; exact A1e (DS n) a0 r ih h
theorem A1d{a0}{r}(h:SF a0=N r):FCz Z 235 [.p] (Cr a0) (Cs a0) (Cr r.2) (Cs r.2) [.sc (.v (.bool r.1))]:=A1f bigN a0 r h
def qm:Hw:=([],[(13,5,(O,.ownb 24 2 152704 1)),(13,6,(O,.ownb 24 3 152768 1)),(15,1,(O,.frz 1216))])
instance B0q:Ct 213 (∀{a0} {a1} {a2} {r},M6 a0 a1 a2=N r→FC Z 213 [.sc (.int .i64 a0),.sc (.sl (Y rI a1)),.sc (.sl (Y zB a2))] [.sc (.o 1 (Y rI r.1)),.sc (.v (.int .i64 r.2.1)),.sc (.v (.bool r.2.2))]):=by
 refine⟨fun{a0} {a1} {a2} {r} h=> ?_⟩;unfold M6 at h;refine A4 mixed qm [6,7,8] 35 ?_;intro S hS;refine ev hS ?_;simp only[C,E,F,G,H,J];obtain⟨r1,h1,h⟩:=ob h;try simp only[C,E,F,G,H,J]
 refine AE (Ag A1c h1) ?_;obtain⟨h2,h⟩|⟨h2,h⟩:=ic h
 ·obtain⟨r3,h3,h⟩:=ob h;try simp only[h2,C,E,F,G,H,J]
  refine AE (Ag A1m h3) ?_;obtain⟨r4,h4,h⟩:=ob h;try simp only[h2,C,E,F,G,H,J]
  refine E4 (Ag A1j h4) X (E2 X) X (uf X) ?_;try simp only[h2,C,E,F,G,H,J]
  refine BE ?_;try simp only[h2,C,E,F,G,H,J]
  refine FE (cs':= [.own 1216,aI r4,.own 152704,.nil]) X X X X ?_;try simp only[h2,C,E,F,G,H,J]
  refine FE (cs':= [.own 1216,aI r4,.own 152704,.own 152768]) X X X X ?_;try simp only[h2,C,E,F,G,H,J]
  refine C8 ?_;obtain⟨r5,h5,h⟩:=ob h;try simp only[h2,C,E,F,G,H,J]
  refine GQ (A1d h5) 24 [152704,152768] rfl X X X (by decide) X X X ?_;try simp only[h2,C,E,F,G,H,J]
  refine An ?_;try simp only[h2,C,E,F,G,H,J]
  cases h;trivial
 ·try simp only[h2,C,E,F,G,H,J]
  cases h;trivial
instance B1h:Ct 187 (∀{a0} {a1} {a2} {a3} {r},Gk a0 a1 a2 a3=N r→FC Z 187 [.sc (.int .i64 a0),.sc (.sl (Y rI a1)),.sc (.sl (Y zB a2)),.sc (.int .i64 a3)] [.sc (.v (.bool r))]):=by
 refine⟨fun h=> ?_⟩;unfold Gk at h;refine A4 mixed h0 [8] 27 ?_;exact gc
end Go.Vi
