/-
Walks. No condition.
-/
import Derived.Test.YtfoohbeloilepaaGreatRNf
import Derived.Test.YtfoohbeloilepaaGreatChecked
import Derived.Test.YtfoohbeloilepaaGreatRSh
import Derived.Test.YtfoohbeloilepaaGreatRVi41
import Derived.KernelRfl
import Derived.Test.YtfoohbeloilepaaGreatRWRefusalLineb
namespace Go.Vi
open Go.Proofs
set_option linter.all false
set_option maxRecDepth 4000
set_option maxHeartbeats 2000000
open Nat renaming reduceBEq → C, reduceMul → E, reduceAdd → F, reduceDiv → G, le_of_ble_eq_true → uf
open Int renaming reduceBEq → H
attribute [local irreducible] go Bd IR
open List renaming map → Y, map_nil → I, all_cons → zE, all_nil → zF, all_eq_true → zG, cons_append → zJ, nil_append → zK
open Tryz renaming prog → Z
open Int renaming reduceNegSucc → zA, reduceOfNat → zB, toNat → zC
open Xb renaming row → zD
open Xc renaming row → zH
open Xa renaming row → zI
open Xd renaming row → zL
open IntKind renaming wrap → zM
open Bool renaming true → T, false → L
open Option renaming some → N, none → O
open _root_ renaming List → P, Option → Q, Int → U, Bool → V, Nat → W, rfl → X
/- 94:impl_ChartOk -/
def Q2:Hw:=([(14,[1,20,21,22],[1],[]),(37,[1,41,42,43],[1],[]),(59,[1,6,41,42,43,86,87,88],[1,6],[])],[])
def bV:=fun(a0:X1) v11 (x13:X2) y24 y25 (k_:U→Q V)=>∀{v26} {zr},k_ v26=N zr→Kh Z 94 Q2 59 [1,6,41,42,43,86,87,88] [1,6] [] ⟨[pB 1,pB 6,pL 41 X2.row a0.Segments,pI 42 (a0.Segments.length:U),pI 43 v11,pL 86 X2.row y24,pI 87 y25,pI 88 v26],[(1,[aM X7.row a0.Points,aM X2.row a0.Segments]),(6,(dm x13.row))],[]⟩ (A7 [2] [.sc (.v (.bool zr))])
def Tz:=fun(a0:X1) (k_:U→Q V)=>∀{v11} {zr},k_ v11=N zr→Kh Z 94 Q2 37 [1,41,42,43] [1] [] ⟨[pB 1,pL 41 X2.row a0.Segments,pI 42 (a0.Segments.length:U),pI 43 v11],[(1,[aM X7.row a0.Points,aM X2.row a0.Segments])],[]⟩ (A7 [2] [.sc (.v (.bool zr))])
def bU:=fun(a0:X1) (k_:U→Q V)=>∀{v3} {zr},k_ v3=N zr→Kh Z 94 Q2 14 [1,20,21,22] [1] [] ⟨[pB 1,pL 20 X7.row a0.Points,pI 21 (a0.Points.length:U),pI 22 v3],[(1,[aM X7.row a0.Points,aM X2.row a0.Segments])],[]⟩ (A7 [2] [.sc (.v (.bool zr))])
theorem A1z{a0 v11 x13 y24 y25}{NI}(od:Tz a0 NI){n:W}:bV a0 v11 x13 y24 y25 (Hd a0 v11 x13 y24 y25 NI n):=by
 induction n with
 | zero=>intro _ r h; cases h
 | succ n ih=>
  intro v26 r h σ hσ;rw[Hd] at h;have k0:= @od;exact gc
theorem A10{a0}{n:W}:Tz a0 (Ec a0 n):=by
 induction n with
 | zero=>intro _ r h; cases h
 | succ n ih=>
  intro v11 r h σ hσ;rw[Ec] at h;have k0:= @A1z;exact gc
theorem A11{a0}{n:W}:bU a0 (Hc a0 n):=by
 induction n with
 | zero=>intro _ r h; cases h
 | succ n ih=>
  intro v3 r h σ hσ;rw[Hc] at h;have k0:= @A10;exact gc
instance xP:Ct 94 (∀{a0} {r},Dm a0=N r→FC Z 94 [.ag (X1.row a0)] [.sc (.v (.bool r))]):=by
 refine⟨fun h=> ?_⟩;unfold Dm at h;refine A4 mixed Q2 [2] 100 ?_;have k0:= @A11;exact gc
/- 159:impl_ShipOk -/
instance A70:Ct 159 (∀{a0} {r},Ed a0=N r→FC Z 159 [.ag (X6.row a0)] [.sc (.v (.bool r))]):=by
 refine⟨fun h=> ?_⟩;unfold Ed at h;refine A4 mixed h0 [2] 26 ?_;exact gc
/- 160:impl_ShipNamed -/
def VT:Hw:=([(6,[1,7,8,9],[],[])],[])
def bw:=fun a1 a0 (k_:U→Q U)=>∀{v1} {zr},k_ v1=N zr→Kh Z 160 VT 6 [1,7,8,9] [] [] ⟨[(1,vc (aS a1)),pL 7 X6.row a0,pI 8 (a0.length:U),pI 9 v1],[],[]⟩ (A7 [4] [.sc (.v (.int .i64 zr))])
theorem A12{a1 a0}{n:W}:bw a1 a0 (Hz a1 a0 n):=by
 induction n with
 | zero=>intro _ r h; cases h
 | succ n ih=>
  intro v1 r h σ hσ;rw[Hz] at h;exact gc
instance A7z:Ct 160 (∀{a0} {a1} {r},LD a0 a1=N r→FC Z 160 [.sc (.sl (Y X6.row a0)),.sc (.str a1)] [.sc (.v (.int .i64 r))]):=by
 refine⟨fun h=> ?_⟩;unfold LD at h;refine A4 mixed VT [4] 20 ?_;have k0:= @A12;exact gc
/- 119:impl_FleetOk -/
def VU:Hw:=([(14,[0,8,9,10],[],[])],[])
def ba:=fun a0 (k_:U→Q V)=>∀{v2} {zr},k_ v2=N zr→Kh Z 119 VU 14 [0,8,9,10] [] [] ⟨[pL 0 X6.row a0,pL 8 X6.row a0,pI 9 (a0.length:U),pI 10 v2],[],[]⟩ (A7 [2] [.sc (.v (.bool zr))])
theorem A13{a0}{n:W}:ba a0 (Hm a0 n):=by
 induction n with
 | zero=>intro _ r h; cases h
 | succ n ih=>
  intro v2 r h σ hσ;rw[Hm] at h;exact gc
instance A7a:Ct 119 (∀{a0} {r},Jz a0=N r→FC Z 119 [.sc (.sl (Y X6.row a0))] [.sc (.v (.bool r))]):=by
 refine⟨fun h=> ?_⟩;unfold Jz at h;refine A4 mixed VU [2] 27 ?_;have k0:= @A13;exact gc
/- 120:impl_RegimeOk -/
instance A7v:Ct 120 (∀{a0} {r},Pa a0=N r→FC Z 120 [.ag (Xh.row a0)] [.sc (.v (.bool r))]):=by
 refine⟨fun h=> ?_⟩;unfold Pa at h;refine A4 mixed h0 [2] 6 ?_;exact gc
/- 161:impl_movesOk -/
def VW:Hw:=([(14,[8,9,10],[],[])],[])
def cS:=fun a0 (k_:U→Q V)=>∀{v2} {zr},k_ v2=N zr→Kh Z 161 VW 14 [8,9,10] [] [] ⟨[pL 8 rI a0,pI 9 (a0.length:U),pI 10 v2],[],[]⟩ (A7 [2] [.sc (.v (.bool zr))])
theorem A14{a0}{n:W}:cS a0 (G4 a0 n):=by
 induction n with
 | zero=>intro _ r h; cases h
 | succ n ih=>
  intro v2 r h σ hσ;rw[G4] at h;exact gc
instance A8g:Ct 161 (∀{a0} {r},G3 a0=N r→FC Z 161 [.sc (.sl (Y rI a0))] [.sc (.v (.bool r))]):=by
 refine⟨fun h=> ?_⟩;unfold G3 at h;refine A4 mixed VW [2] 18 ?_;have k0:= @A14;exact gc
/- 121:impl_CrewOk -/
instance A68:Ct 121 (∀{a0} {r},Li a0=N r→FC Z 121 [.ag (Xm.row a0)] [.sc (.v (.bool r))]):=by
 refine⟨fun h=> ?_⟩;unfold Li at h;refine A4 mixed h0 [2] 21 ?_;exact gc
/- 79:impl_HarbourOk -/
instance A7e:Ct 79 (∀{a0} {r},JA a0=N r→FC Z 79 [.ag (X4.row a0)] [.sc (.v (.bool r))]):=by
 refine⟨fun h=> ?_⟩;unfold JA at h;refine A4 mixed h0 [2] 26 ?_;exact gc
/- 80:impl_callOk -/
instance A79:Ct 80 (∀{a0} {a1} {r},JI a0 a1=N r→FC Z 80 [.ag (X4.row a0),.ag (zD a1)] [.sc (.v (.bool r))]):=by
 refine⟨fun h=> ?_⟩;unfold JI at h;refine A4 mixed h0 [4] 47 ?_;exact gc
/- 37:impl_CallsOk -/
def Se:Hw:=([(14,[1,2,17,18,19],[2],[]),(36,[1,2,6,17,18,19,30,31,32],[2,6],[])],[])
def bT:=fun a1 v4 (a0:X4) (x6:Xb) y10 y11 (k_:U→Q V)=>∀{v12} {zr},k_ v12=N zr→Kh Z 37 Se 36 [1,2,6,17,18,19,30,31,32] [2,6] [] ⟨[pL 1 zD a1,pB 2,pB 6,pL 17 zD a1,pI 18 (a1.length:U),pI 19 v4,pL 30 zD y10,pI 31 y11,pI 32 v12],[(2,([aI a0.Forecast.Tide.Mean,aM zH a0.Forecast.Tide.Parts,aM zI a0.Forecast.Surges,aM X7.row a0.Chart.Points,aM X2.row a0.Chart.Segments,aM X6.row a0.Fleet,aI a0.Regime.Gap,aB a0.Regime.NoMeet]++dm a0.Crew.row)),(6,(dm x6.row))],[]⟩ (A7 [4] [.sc (.v (.bool zr))])
def Ty:=fun a1 (a0:X4) (k_:U→Q V)=>∀{v4} {zr},k_ v4=N zr→Kh Z 37 Se 14 [1,2,17,18,19] [2] [] ⟨[pL 1 zD a1,pB 2,pL 17 zD a1,pI 18 (a1.length:U),pI 19 v4],[(2,([aI a0.Forecast.Tide.Mean,aM zH a0.Forecast.Tide.Parts,aM zI a0.Forecast.Surges,aM X7.row a0.Chart.Points,aM X2.row a0.Chart.Segments,aM X6.row a0.Fleet,aI a0.Regime.Gap,aB a0.Regime.NoMeet]++dm a0.Crew.row))],[]⟩ (A7 [4] [.sc (.v (.bool zr))])
theorem A15{a1 v4 a0 x6 y10 y11}{NH}(oc:Ty a1 a0 NH){n:W}:bT a1 v4 a0 x6 y10 y11 (Dl a1 v4 a0 x6 y10 y11 NH n):=by
 induction n with
 | zero=>intro _ r h; cases h
 | succ n ih=>
  intro v12 r h σ hσ;rw[Dl] at h;have k0:= @oc;exact gc
theorem A16{a1 a0}{n:W}:Ty a1 a0 (CB a1 a0 n):=by
 induction n with
 | zero=>intro _ r h; cases h
 | succ n ih=>
  intro v4 r h σ hσ;rw[CB] at h;have k0:= @A15;exact gc
instance xO:Ct 37 (∀{a0} {a1} {r},Cn a0 a1=N r→FC Z 37 [.ag (X4.row a0),.sc (.sl (Y zD a1))] [.sc (.v (.bool r))]):=by
 refine⟨fun h=> ?_⟩;unfold Cn at h;refine A4 mixed Se [4] 43 ?_;have k0:= @A16;exact gc
/- 81:impl_selections -/
def Q4:Hw:=([(16,[0,1,5,17,18],[],[1024]),(30,[0,1,5,6,17,18,27,28,29],[],[1024,1728]),(47,[0,1,5,6,9,17,18,27,28,29,35,36,37],[],[1024,2176,1728])],[(7,1,(O,.frz 896)),(60,2,(O,.frz 2176))])
def cX:=fun a0 a1 v2 r5 v6 x9 v7 (k_:U→(P U)→Q (P (P U)))=>∀{v10 v11} {zr},k_ v10 v11=N zr→Kh Z 81 Q4 47 [0,1,5,6,9,17,18,27,28,29,35,36,37] [] [1024,2176,1728] ⟨[pI 0 a0,pI 1 a1,pW 5 1024,pI 6 v2,pW 9 2176,pI 17 a0,pI 18 v2,pW 27 1728,pI 28 (r5.length:U),pI 29 v6,pL 35 rI x9,pI 36 (x9.length:U),pI 37 v10],[],[(1024,1,Y (rL rI) v7),(2176,1,Y rI v11),(1728,1,Y (rL rI) r5)]⟩ (A7 [4] [.sc (.o 1 (Y (rL rI) zr))])
def TJ:=fun a0 a1 v2 r5 (k_:U→(P (P U))→Q (P (P U)))=>∀{v6 v7} {zr},k_ v6 v7=N zr→Kh Z 81 Q4 30 [0,1,5,6,17,18,27,28,29] [] [1024,1728] ⟨[pI 0 a0,pI 1 a1,pW 5 1024,pI 6 v2,pI 17 a0,pI 18 v2,pW 27 1728,pI 28 (r5.length:U),pI 29 v6],[],[(1024,1,Y (rL rI) v7),(1728,1,Y (rL rI) r5)]⟩ (A7 [4] [.sc (.o 1 (Y (rL rI) zr))])
def TI:=fun a0 a1 (k_:U→(P (P U))→Q (P (P U)))=>∀{v2 v3} {zr},k_ v2 v3=N zr→Kh Z 81 Q4 16 [0,1,5,17,18] [] [1024] ⟨[pI 0 a0,pI 1 a1,pW 5 1024,pI 17 a0,pI 18 v2],[],[(1024,1,Y (rL rI) v3)]⟩ (A7 [4] [.sc (.o 1 (Y (rL rI) zr))])
theorem A17{rec_:U→U→Q (P (P U))}(h_rec:∀(a0 a1:U) zr,rec_ a0 a1=N zr→FC Z 81 [.sc (.int .i64 a0),.sc (.int .i64 a1)] [.sc (.o 1 (Y (rL rI) zr))]){a0 a1 v2 r5 v6 x9 v7}{NO}(oq:TJ a0 a1 v2 r5 NO){n:W}:cX a0 a1 v2 r5 v6 x9 v7 (Pk rec_ a0 a1 v2 r5 v6 x9 v7 NO n):=by
 induction n with
 | zero=>intro _ _ r h; cases h
 | succ n ih=>
  intro v10 v11 r h σ hσ;rw[Pk] at h;have:Ct 81 _:=⟨h_rec⟩;have s0:=fun(x13:U)=> @Ai (Y rI ([(zM .i64 ((zM .i64 (v2+(1:U)))+x13))]:P U))
  have s1:= @Ai (Y (rL rI) ([v11]:P (P U)));have k0:= @oq;exact gc
theorem A19{rec_:U→U→Q (P (P U))}(h_rec:∀(a0 a1:U) zr,rec_ a0 a1=N zr→FC Z 81 [.sc (.int .i64 a0),.sc (.int .i64 a1)] [.sc (.o 1 (Y (rL rI) zr))]){a0 a1 v2 r5}{NN}(oo:TI a0 a1 NN){n:W}:TJ a0 a1 v2 r5 (Pj rec_ a0 a1 v2 r5 NN n):=by
 induction n with
 | zero=>intro _ _ r h; cases h
 | succ n ih=>
  intro v6 v7 r h σ hσ S hS
  conv at hS=>rhs; reduce
  try simp only[zB,zA,Au,UInt8.reduceOfNat] at hS
  subst hS;rw[Pj] at h;refine AZ (AF ?_);obtain⟨h8,h⟩|⟨h8,h⟩:=ic h
  ·obtain⟨x9,h9,h⟩:=ob h;have h9n:=B7 h9;try simp only[hσ,h8,h9,h9n,C,E,F,G,H,J]
   refine Bn (es:=Y rI ([v2]:P U)) ?_;try simp only[h8,h9,h9n,C,E,F,G,H,J]
   refine A17 h_rec ih h ?_ (by kernel_rfl);try simp only[h8,h9,h9n,C,E,F,G,H,J,pL,aM,I]
  ·try simp only[hσ,h8,C,E,F,G,H,J]
   refine oo h ?_ (by kernel_rfl);try simp only[h8,C,E,F,G,H,J,pL,aM,I]
theorem A2a{rec_:U→U→Q (P (P U))}(h_rec:∀(a0 a1:U) zr,rec_ a0 a1=N zr→FC Z 81 [.sc (.int .i64 a0),.sc (.int .i64 a1)] [.sc (.o 1 (Y (rL rI) zr))]){a0 a1}{n:W}:TI a0 a1 (Pi rec_ a0 a1 n):=by
 induction n with
 | zero=>intro _ _ r h; cases h
 | succ n ih=>
  intro v2 v3 r h σ hσ;rw[Pi] at h;have:Ct 81 _:=⟨h_rec⟩;have k0:= @A19;exact gc
theorem xr(rec_:U→U→Q (P (P U)))(a0 a1:U)(r:(P (P U)))(h_rec:∀(a0 a1:U) zr,rec_ a0 a1=N zr→FC Z 81 [.sc (.int .i64 a0),.sc (.int .i64 a1)] [.sc (.o 1 (Y (rL rI) zr))])(h:RQ rec_ a0 a1=N r):FC Z 81 [.sc (.int .i64 a0),.sc (.int .i64 a1)] [.sc (.o 1 (Y (rL rI) r))]:=by
 unfold RQ at h;refine A4 mixed Q4 [4] 56 ?_;have:Ct 81 _:=⟨h_rec⟩;have s0:= @Ai (Y rI ([]:P U));have s1:= @Ai (Y (rL rI) ([([]:P U)]:P (P U)));have s2:= @Ai (Y (rL rI) ([]:P (P U)));have k0:= @A2a;exact gc
theorem xu:∀(n:W) (a0:U) (a1:U) (r:(P (P U))),LW n a0 a1=N r→FC Z 81 [.sc (.int .i64 a0),.sc (.int .i64 a1)] [.sc (.o 1 (Y (rL rI) r))]:=by
 intro n
 induction n with
 | zero=>intro _ _ r h; cases h
 | succ n ih=>intro a0 a1 r h; rw[LW] at h; exact xr (LW n) a0 a1 r ih h
theorem xq{a0}{a1}{r}(h:RP a0 a1=N r):FC Z 81 [.sc (.int .i64 a0),.sc (.int .i64 a1)] [.sc (.o 1 (Y (rL rI) r))]:=xu bigN a0 a1 r h
/- 100:impl_isSelection -/
def VX:Hw:=([(6,[0,1,7,8,9],[],[])],[])
def cP:=fun a0 a1 (k_:U→Q V)=>∀{v1} {zr},k_ v1=N zr→Kh Z 100 VX 6 [0,1,7,8,9] [] [] ⟨[pL 0 zD a0,pL 1 rI a1,pL 7 rI a1,pI 8 (a1.length:U),pI 9 v1],[],[]⟩ (A7 [4] [.sc (.v (.bool zr))])
theorem A2b{a0 a1}{n:W}:cP a0 a1 (G1 a0 a1 n):=by
 induction n with
 | zero=>intro _ r h; cases h
 | succ n ih=>
  intro v1 r h σ hσ;rw[G1] at h;exact gc
instance A8f:Ct 100 (∀{a0} {a1} {r},JN a0 a1=N r→FC Z 100 [.sc (.sl (Y zD a0)),.sc (.sl (Y rI a1))] [.sc (.v (.bool r))]):=by
 refine⟨fun h=> ?_⟩;unfold JN at h;refine A4 mixed VX [4] 33 ?_;have k0:= @A2b;exact gc
/- 57:impl_SelectCalls -/
def VY:Hw:=([(16,[0,5,13,14,15],[],[768])],[])
def bv:=fun a0 a1 (k_:U→(P Xb)→Q (P Xb))=>∀{v3 v4} {zr},k_ v3 v4=N zr→Kh Z 57 VY 16 [0,5,13,14,15] [] [768] ⟨[pL 0 zD a0,pW 5 768,pL 13 rI a1,pI 14 (a1.length:U),pI 15 v3],[],[(768,5,Y zD v4)]⟩ (A7 [4] [.sc (.o 5 (Y zD zr))])
theorem A2c{a0 a1}{n:W}:bv a0 a1 (Hy a0 a1 n):=by
 induction n with
 | zero=>intro _ _ r h; cases h
 | succ n ih=>
  intro v3 v4 r h σ hσ;rw[Hy] at h;have s0:=fun(x7:Xb)=> @Ai (Y zD ([x7]:P Xb))
  exact gc
instance A7y:Ct 57 (∀{a0} {a1} {r},LC a0 a1=N r→FC Z 57 [.sc (.sl (Y zD a0)),.sc (.sl (Y rI a1))] [.sc (.o 5 (Y zD r))]):=by
 refine⟨fun h=> ?_⟩;unfold LC at h;refine A4 mixed VY [4] 28 ?_;have s0:= @Ai (Y zD ([]:P Xb));have k0:= @A2c;exact gc
/- 143:impl_CallOk -/
instance A64:Ct 143 (∀{a0} {a1} {r},Lf a0 a1=N r→FC Z 143 [.ag (X4.row a0),.ag (zD a1)] [.sc (.v (.bool r))]):=by
 refine⟨fun h=> ?_⟩;unfold Lf at h;refine A4 mixed h0 [4] 12 ?_;exact gc
/- 183:impl_clone_int -/
instance QT:Ct 183 (∀{a0} {r},Bx a0=N r→FC Z 183 [.sc (.sl (Y rI a0))] [.sc (.o 1 (Y rI r))]):=by
 refine⟨fun h=> ?_⟩;unfold Bx at h;refine A4 mixed h0 [2] 8 ?_;have s0:= @Ew _ rI (0:U);exact gc
/- 249:impl_Segment_end -/
instance ZR:Ct 249 (∀{a0} {a1} {r},JF a0 a1=N r→FC Z 249 [.ag (X2.row a0),.sc (.int .i64 a1)] [.sc (.v (.int .i64 r))]):=by
 refine⟨fun h=> ?_⟩;unfold JF at h;refine A4 mixed h0 [4] 18 ?_;exact gc
/- 226:impl_Chart_routesFrom -/
def OC:P (P W × AItem):= [([],(O,.mv 18 (S 5))),([],(O,.mv 19 (S 5))),([1],(O,.nilc 20 (S 19))),([2],(O,.load 21 (S 20) L 1)),([],(O,.mv 22 (S 3))),([4],(O,.call 23 183 [(S 22)])),([5],(O,.bslice 24 1 [.sl []] 1 [(0,(S 23))])),([3,6,5],(O,.app 25 1 24 (S 21) (S 24))),([0,0,1,2,3,4,5,6,7],(O,.nilc 26 (S 18))),([8,7,7,0,1,2,3,4,5,6,7],(O,.store (S 26) (S 25) 1))]
def KW:P (P W × AItem):= [([],(O,.load 48 (S 6) T 2)),([],(O,.mv 49 (S 14))),([],(O,.mv 50 (S 2))),([],(O,.mv 51 (S 3))),([3],(O,.call 52 183 [(S 51)])),([],(O,.mv 53 (S 12))),([5],(O,.bslice 54 1 [.int .i64 0] 1 [(0,(S 53))])),([4,6,4],(O,.app 55 1 8 (S 52) (S 54))),([],(O,.load 56 (S 10) T 8)),([],(O,.mv 57 (S 5))),([0,1,2,7,8,9,7],(O,.call 58 226 [(S 48),(S 49),(S 50),(S 55),(S 56),(S 57)]))]
def Q5:Hw:=([(15,[1,2,3,5,6,10,30,31,32],[99999999999,6,10],[90000]),(30,[1,2,3,5,6,10,12,14,30,31,32,47],[99999999999,6,10],[90000])],[])
abbrev CP(a3:P U)(wo3_ wo5_:AV)(c0_ c1_:V)(c2_ c3_:V)(c4_ c5_:V)(c6_ c7_ c8_:V)(bx_:P (W × P AC))(rs_:Rows):St:=⟨[(3,vc (aL (Y rI a3))),(5,vc (.pb 99999999999 0)),(18,bif c0_ then vc (.pb 99999999999 0) else .undef),(19,bif c1_ then vc (.pb 99999999999 0) else .undef),(20,bif c2_ then vc (.pb 99999999999 0) else .undef),(21,bif c3_ then wo3_ else .undef),(22,bif c4_ then vc (aL (Y rI a3)) else .undef),(23,bif c5_ then wo5_ else .undef),(24,bif c6_ then vc (.own 1536) else .undef),(25,bif c7_ then vc (.own 90000) else .undef),(26,bif c8_ then vc (.pb 99999999999 0) else .undef)],bx_,rs_⟩
abbrev J7(a3:P U)(a5:P (P U))(r2:(P U)):St:=(CP a3 (vc (.undef)) (vc (aL (Y rI r2))) T T T T T T T T T [(99999999999,[.own 90000])] [(90000,1,Y (rL rI) (a5++([r2]:P (P U)))),(1536,1,Y (rL rI) ([r2]:P (P U)))])
theorem A2d(rec_:X1→U→U→(P U)→X8→(P (P U))→Q (P (P U)))(h_rec:∀(a0:X1) (a1 a2:U) (a3:P U) (a4:X8) (a5:P (P U)) zr,rec_ a0 a1 a2 a3 a4 a5=N zr→FCz Z 226 [.d (.ag (X1.row a0)),.d (.sc (.int .i64 a1)),.d (.sc (.int .i64 a2)),.d (.sc (.sl (Y rI a3))),.d (.ag (X8.row a4)),.p] [.r 0] [(1,Y (rL rI) a5)] [.r 0] [(1,Y (rL rI) zr)] [])(a3)(a5:P (P U))(r2)(h2:Bx a3=N r2)(h3:(A3 a5.length ([r2]:P (P U)).length 24)=T):∀(f:W),Ab Z OC (J7 a3 a5 r2) f [T,T,T,T,T,T,T,T,T,T] (CP a3 (vc (.undef)) (vc (aL (Y rI r2))) T T T T T T T T T [(99999999999,[.own 90000])] [(90000,1,Y (rL rI) (a5++([r2]:P (P U)))),(1536,1,Y (rL rI) ([r2]:P (P U)))]):=by
 intro f
 induction f with
 | zero=>intro h; rfl
 | succ f ih=>
  refine Ad ⟨?_,?_,?_,?_,?_,?_,?_,?_,?_,?_,⟨⟩⟩<;>try first | (intro h; cases h; done)
theorem A2e(rec_:X1→U→U→(P U)→X8→(P (P U))→Q (P (P U)))(h_rec:∀(a0:X1) (a1 a2:U) (a3:P U) (a4:X8) (a5:P (P U)) zr,rec_ a0 a1 a2 a3 a4 a5=N zr→FCz Z 226 [.d (.ag (X1.row a0)),.d (.sc (.int .i64 a1)),.d (.sc (.int .i64 a2)),.d (.sc (.sl (Y rI a3))),.d (.ag (X8.row a4)),.p] [.r 0] [(1,Y (rL rI) a5)] [.r 0] [(1,Y (rL rI) zr)] [])(a3)(a5:P (P U))(r2)(h2:Bx a3=N r2)(h3:(A3 a5.length ([r2]:P (P U)).length 24)=T):∀(f:W) (b0 b1:V) (b2 b8:V),Ab Z OC (J7 a3 a5 r2) f [b0,b1,b2,T,T,T,T,T,b8,L] (CP a3 (vc (.undef)) (vc (aL (Y rI r2))) b0 b1 b2 T T T T T b8 [(99999999999,[.undef])] [(90000,1,Y (rL rI) (a5++([r2]:P (P U)))),(1536,1,Y (rL rI) ([r2]:P (P U)))]):=by
 intro f
 induction f with
 | zero=>intro b0 b1 b2 b8 h; simp at h
 | succ f ih=>
  intro b0 b1 b2 b8;refine Ad ⟨?_,?_,?_,?_,?_,?_,?_,?_,?_,?_,⟨⟩⟩<;>try first | (intro h; cases h; done) | (intro h0 hw; obtain rfl:=hz h0 rfl; (try obtain rfl:=hq hw 0 rfl rfl); (try obtain rfl:=hq hw 1 rfl rfl); (try obtain rfl:=hq hw 2 rfl rfl); refine np ?_; simp only[CP,A5,A6,A1,C,E,F,G,H,J]; exact ih _ _ _ _)
  ·intro h0 hw;obtain rfl:=hq hw 0 rfl rfl;obtain rfl:=hq hw 1 rfl rfl;obtain rfl:=hq hw 2 rfl rfl;obtain rfl:=hq hw 8 rfl rfl;refine np ?_;try simp only[CP,A5,A6,A1,C,E,F,G,H,J]
   exact A2d rec_ h_rec a3 a5 r2 h2 h3 _
theorem A2f(rec_:X1→U→U→(P U)→X8→(P (P U))→Q (P (P U)))(h_rec:∀(a0:X1) (a1 a2:U) (a3:P U) (a4:X8) (a5:P (P U)) zr,rec_ a0 a1 a2 a3 a4 a5=N zr→FCz Z 226 [.d (.ag (X1.row a0)),.d (.sc (.int .i64 a1)),.d (.sc (.int .i64 a2)),.d (.sc (.sl (Y rI a3))),.d (.ag (X8.row a4)),.p] [.r 0] [(1,Y (rL rI) a5)] [.r 0] [(1,Y (rL rI) zr)] [])(a3)(a5:P (P U))(r2)(h2:Bx a3=N r2)(h3:(A3 a5.length ([r2]:P (P U)).length 24)=T):∀(f:W) (b0 b1:V) (b2 b3:V),Ab Z OC (J7 a3 a5 r2) f [b0,b1,b2,b3,T,T,T,L,L,L] (CP a3 (vc (.own 90000)) (vc (aL (Y rI r2))) b0 b1 b2 b3 T T T L L [(99999999999,[.own 90000])] [(90000,1,Y (rL rI) a5),(1536,1,Y (rL rI) ([r2]:P (P U)))]):=by
 intro f
 induction f with
 | zero=>intro b0 b1 b2 b3 h; simp at h
 | succ f ih=>
  intro b0 b1 b2 b3;refine Ad ⟨?_,?_,?_,?_,?_,?_,?_,?_,?_,?_,⟨⟩⟩<;>try first | (intro h; cases h; done) | (intro _ hw; simp at hw; done) | (intro h0 hw; obtain rfl:=hz h0 rfl; (try obtain rfl:=hq hw 1 rfl rfl); (try obtain rfl:=hq hw 2 rfl rfl); refine np ?_; simp only[CP,A5,A6,A1,C,E,F,G,H,J]; exact ih _ _ _ _)
  ·intro h0 hw;obtain rfl:=hq hw 3 rfl rfl;refine np ?_;try simp only[h3,CP,A5,A6,A1,C,E,F,G,H,J]
   exact A2e rec_ h_rec a3 a5 r2 h2 h3 _ b0 b1 b2 L
theorem A2h(rec_:X1→U→U→(P U)→X8→(P (P U))→Q (P (P U)))(h_rec:∀(a0:X1) (a1 a2:U) (a3:P U) (a4:X8) (a5:P (P U)) zr,rec_ a0 a1 a2 a3 a4 a5=N zr→FCz Z 226 [.d (.ag (X1.row a0)),.d (.sc (.int .i64 a1)),.d (.sc (.int .i64 a2)),.d (.sc (.sl (Y rI a3))),.d (.ag (X8.row a4)),.p] [.r 0] [(1,Y (rL rI) a5)] [.r 0] [(1,Y (rL rI) zr)] [])(a3)(a5:P (P U))(r2)(h2:Bx a3=N r2)(h3:(A3 a5.length ([r2]:P (P U)).length 24)=T):∀(f:W) (b0 b1:V) (b2 b3:V),Ab Z OC (J7 a3 a5 r2) f [b0,b1,b2,b3,T,T,L,L,L,L] (CP a3 (vc (.own 90000)) (vc (.own 1472)) b0 b1 b2 b3 T T L L L [(99999999999,[.own 90000])] [(90000,1,Y (rL rI) a5),(1472,1,Y rI r2)]):=by
 intro f
 induction f with
 | zero=>intro b0 b1 b2 b3 h; simp at h
 | succ f ih=>
  intro b0 b1 b2 b3;refine Ad ⟨?_,?_,?_,?_,?_,?_,?_,?_,?_,?_,⟨⟩⟩<;>try first | (intro h; cases h; done) | (intro _ hw; simp at hw; done) | (intro h0 hw; obtain rfl:=hz h0 rfl; (try obtain rfl:=hq hw 1 rfl rfl); (try obtain rfl:=hq hw 2 rfl rfl); refine np ?_; simp only[CP,A5,A6,A1,C,E,F,G,H,J]; exact ih _ _ _ _)
  ·intro h0 hw;refine⟨[(O,.frz 1472)],[],X,X,?_⟩;try simp only[CP,A5,A6,zK,zJ,A1,C,E,F,G,H,J]
   refine CF ?_;try simp only[A1,C,E,F,G,H,J]
   refine Am (es:=Y (rL rI) ([r2]:P (P U))) X (by simp only[St.fresh,zE,zF,Ah]; simp[AV.cells,V1.cells,AC.uses]) ?_;try simp only[A1,C,E,F,G,H,J]
   exact A2f rec_ h_rec a3 a5 r2 h2 h3 _ b0 b1 b2 b3
theorem A2i(rec_:X1→U→U→(P U)→X8→(P (P U))→Q (P (P U)))(h_rec:∀(a0:X1) (a1 a2:U) (a3:P U) (a4:X8) (a5:P (P U)) zr,rec_ a0 a1 a2 a3 a4 a5=N zr→FCz Z 226 [.d (.ag (X1.row a0)),.d (.sc (.int .i64 a1)),.d (.sc (.int .i64 a2)),.d (.sc (.sl (Y rI a3))),.d (.ag (X8.row a4)),.p] [.r 0] [(1,Y (rL rI) a5)] [.r 0] [(1,Y (rL rI) zr)] [])(a3)(a5:P (P U))(r2)(h2:Bx a3=N r2)(h3:(A3 a5.length ([r2]:P (P U)).length 24)=T):∀(f:W) (b0 b1:V) (b2 b3 b4:V),Ab Z OC (J7 a3 a5 r2) f [b0,b1,b2,b3,b4,L,L,L,L,L] (CP a3 (vc (.own 90000)) (vc (.own 1472)) b0 b1 b2 b3 b4 L L L L [(99999999999,[.own 90000])] [(90000,1,Y (rL rI) a5)]):=by
 intro f
 induction f with
 | zero=>intro b0 b1 b2 b3 b4 h; simp at h
 | succ f ih=>
  intro b0 b1 b2 b3 b4;refine Ad ⟨?_,?_,?_,?_,?_,?_,?_,?_,?_,?_,⟨⟩⟩<;>try first | (intro _ hw; simp at hw; done) | (intro h0 hw; obtain rfl:=hz h0 rfl; (try obtain rfl:=hq hw 1 rfl rfl); (try obtain rfl:=hq hw 2 rfl rfl); refine np ?_; simp only[CP,A5,A6,A1,C,E,F,G,H,J]; exact ih _ _ _ _ _)
  ·intro h0 hw;obtain rfl:=hq hw 4 rfl rfl;refine np ?_;try simp only[CP,A5,A6,A1,C,E,F,G,H,J]
   refine Ks (Aq QT h2) X (by simp only[St.fresh,zE,zF,Ah]; simp[AV.cells,V1.cells,AC.uses]) (uf X) ?_;try simp only[A1,C,E,F,G,H,J]
   exact A2h rec_ h_rec a3 a5 r2 h2 h3 _ b0 b1 b2 b3
abbrev C9(a1 a2:U)(a3:P U)(v6 r11:U)(a0:X1)(y7:X8)(wo4_ wo7_:AV)(c0_ c1_:V)(c2_ c3_:V)(c4_ c5_:V)(c6_ c7_:V)(c8_ c9_ c10_:V)(bx_:P (W × P AC))(rs_:Rows):St:=⟨[(1,vc (aI a1)),(2,vc (aI a2)),(3,vc (aL (Y rI a3))),(5,vc (.pb 99999999999 0)),(6,vc (.pb 6 0)),(10,vc (.pb 10 0)),(12,vc (aI v6)),(14,vc (aI r11)),(30,vc (aL (Y X2.row a0.Segments))),(31,vc (aI (a0.Segments.length:U))),(32,vc (aI v6)),(48,bif c0_ then va [aL (Y X7.row a0.Points),aL (Y X2.row a0.Segments)] else .undef),(49,bif c1_ then vc (aI r11) else .undef),(50,bif c2_ then vc (aI a2) else .undef),(51,bif c3_ then vc (aL (Y rI a3)) else .undef),(52,bif c4_ then wo4_ else .undef),(53,bif c5_ then vc (aI v6) else .undef),(54,bif c6_ then vc (.own 3456) else .undef),(55,bif c7_ then wo7_ else .undef),(56,bif c8_ then va [aB y7.i0,aB y7.i1,aB y7.i2,aB y7.i3,aB y7.i4,aB y7.i5,aB y7.i6,aB y7.i7] else .undef),(57,bif c9_ then vc (.pb 99999999999 0) else .undef),(58,bif c10_ then .tup [] else .undef)],bx_,rs_⟩
abbrev GW(a1 a2:U)(a3:P U)(v6 r11:U)(a0:X1)(y7:X8)(r18:(P U))(r20:(P (P U))):St:=(C9 a1 a2 a3 v6 r11 a0 y7 (vc (.undef)) (vc (aL (Y rI (r18++([v6]:P U))))) T T T T T T T T T T T [(99999999999,[.own 90000]),(6,[aL (Y X7.row a0.Points),aL (Y X2.row a0.Segments)]),(10,[aB y7.i0,aB y7.i1,aB y7.i2,aB y7.i3,aB y7.i4,aB y7.i5,aB y7.i6,aB y7.i7])] [(90000,1,Y (rL rI) r20),(3456,1,Y rI ([v6]:P U))])
theorem A2j(rec_:X1→U→U→(P U)→X8→(P (P U))→Q (P (P U)))(h_rec:∀(a0:X1) (a1 a2:U) (a3:P U) (a4:X8) (a5:P (P U)) zr,rec_ a0 a1 a2 a3 a4 a5=N zr→FCz Z 226 [.d (.ag (X1.row a0)),.d (.sc (.int .i64 a1)),.d (.sc (.int .i64 a2)),.d (.sc (.sl (Y rI a3))),.d (.ag (X8.row a4)),.p] [.r 0] [(1,Y (rL rI) a5)] [.r 0] [(1,Y (rL rI) zr)] [])(a1:U)(a2)(a3)(v6)(r11)(a0)(y7)(v8)(r18)(r20)(h18:Bx a3=N r18)(h19:(A3 r18.length ([v6]:P U).length 8)=T)(h20:rec_ a0 r11 a2 (r18++([v6]:P U)) y7 v8=N r20):∀(f:W),Ab Z KW (GW a1 a2 a3 v6 r11 a0 y7 r18 r20) f [T,T,T,T,T,T,T,T,T,T,T] (C9 a1 a2 a3 v6 r11 a0 y7 (vc (.undef)) (vc (aL (Y rI (r18++([v6]:P U))))) T T T T T T T T T T T [(99999999999,[.own 90000]),(6,[aL (Y X7.row a0.Points),aL (Y X2.row a0.Segments)]),(10,[aB y7.i0,aB y7.i1,aB y7.i2,aB y7.i3,aB y7.i4,aB y7.i5,aB y7.i6,aB y7.i7])] [(90000,1,Y (rL rI) r20),(3456,1,Y rI ([v6]:P U))]):=by
 intro f
 induction f with
 | zero=>intro h; rfl
 | succ f ih=>
  refine Ad ⟨?_,?_,?_,?_,?_,?_,?_,?_,?_,?_,?_,⟨⟩⟩<;>try first | (intro h; cases h; done)
theorem A2k(rec_:X1→U→U→(P U)→X8→(P (P U))→Q (P (P U)))(h_rec:∀(a0:X1) (a1 a2:U) (a3:P U) (a4:X8) (a5:P (P U)) zr,rec_ a0 a1 a2 a3 a4 a5=N zr→FCz Z 226 [.d (.ag (X1.row a0)),.d (.sc (.int .i64 a1)),.d (.sc (.int .i64 a2)),.d (.sc (.sl (Y rI a3))),.d (.ag (X8.row a4)),.p] [.r 0] [(1,Y (rL rI) a5)] [.r 0] [(1,Y (rL rI) zr)] [])(a1:U)(a2)(a3)(v6)(r11)(a0)(y7)(v8)(r18)(r20)(h18:Bx a3=N r18)(h19:(A3 r18.length ([v6]:P U).length 8)=T)(h20:rec_ a0 r11 a2 (r18++([v6]:P U)) y7 v8=N r20):∀(f:W) (b0 b1:V) (b2 b8 b9:V),Ab Z KW (GW a1 a2 a3 v6 r11 a0 y7 r18 r20) f [b0,b1,b2,T,T,T,T,T,b8,b9,L] (C9 a1 a2 a3 v6 r11 a0 y7 (vc (.undef)) (vc (.own 3328)) b0 b1 b2 T T T T T b8 b9 L [(99999999999,[.own 90000]),(6,[aL (Y X7.row a0.Points),aL (Y X2.row a0.Segments)]),(10,[aB y7.i0,aB y7.i1,aB y7.i2,aB y7.i3,aB y7.i4,aB y7.i5,aB y7.i6,aB y7.i7])] [(90000,1,Y (rL rI) v8),(3328,1,Y rI (r18++([v6]:P U))),(3456,1,Y rI ([v6]:P U))]):=by
 intro f
 induction f with
 | zero=>intro b0 b1 b2 b8 b9 h; simp at h
 | succ f ih=>
  intro b0 b1 b2 b8 b9;refine Ad ⟨?_,?_,?_,?_,?_,?_,?_,?_,?_,?_,?_,⟨⟩⟩<;>try first | (intro h; cases h; done) | (intro h0 hw; obtain rfl:=hz h0 rfl; refine np ?_; simp only[C9,A5,A6,A1,C,E,F,G,H,J]; exact ih _ _ _ _ _)
  ·intro h0 hw;obtain rfl:=hq hw 0 rfl rfl;obtain rfl:=hq hw 1 rfl rfl;obtain rfl:=hq hw 2 rfl rfl;obtain rfl:=hq hw 8 rfl rfl;obtain rfl:=hq hw 9 rfl rfl;refine⟨[(O,.frz 3328)],[],X,X,?_⟩;try simp only[C9,A5,A6,zK,zJ,A1,C,E,F,G,H,J]
   refine CF ?_;try simp only[A1,C,E,F,G,H,J]
   refine Gx (h_rec _ _ _ _ _ _ _ h20) 99999999999 [90000] rfl X X X (by decide) X X X ?_;try simp only[A1,C,E,F,G,H,J]
   exact A2j rec_ h_rec a1 a2 a3 v6 r11 a0 y7 v8 r18 r20 h18 h19 h20 _
theorem aJ(rec_:X1→U→U→(P U)→X8→(P (P U))→Q (P (P U)))(h_rec:∀(a0:X1) (a1 a2:U) (a3:P U) (a4:X8) (a5:P (P U)) zr,rec_ a0 a1 a2 a3 a4 a5=N zr→FCz Z 226 [.d (.ag (X1.row a0)),.d (.sc (.int .i64 a1)),.d (.sc (.int .i64 a2)),.d (.sc (.sl (Y rI a3))),.d (.ag (X8.row a4)),.p] [.r 0] [(1,Y (rL rI) a5)] [.r 0] [(1,Y (rL rI) zr)] [])(a1:U)(a2)(a3)(v6)(r11)(a0)(y7)(v8)(r18)(r20)(h18:Bx a3=N r18)(h19:(A3 r18.length ([v6]:P U).length 8)=T)(h20:rec_ a0 r11 a2 (r18++([v6]:P U)) y7 v8=N r20):∀(f:W) (b0 b1:V) (b2 b8 b9:V),Ab Z KW (GW a1 a2 a3 v6 r11 a0 y7 r18 r20) f [b0,b1,b2,T,T,T,T,L,b8,b9,L] (C9 a1 a2 a3 v6 r11 a0 y7 (vc (.own 3328)) (vc (.own 3328)) b0 b1 b2 T T T T L b8 b9 L [(99999999999,[.own 90000]),(6,[aL (Y X7.row a0.Points),aL (Y X2.row a0.Segments)]),(10,[aB y7.i0,aB y7.i1,aB y7.i2,aB y7.i3,aB y7.i4,aB y7.i5,aB y7.i6,aB y7.i7])] [(90000,1,Y (rL rI) v8),(3328,1,Y rI r18),(3456,1,Y rI ([v6]:P U))]):=by
 intro f
 induction f with
 | zero=>intro b0 b1 b2 b8 b9 h; simp at h
 | succ f ih=>
  intro b0 b1 b2 b8 b9;refine Ad ⟨?_,?_,?_,?_,?_,?_,?_,?_,?_,?_,?_,⟨⟩⟩<;>try first | (intro h; cases h; done) | (intro _ hw; simp at hw; done) | (intro h0 hw; obtain rfl:=hz h0 rfl; refine np ?_; simp only[C9,A5,A6,A1,C,E,F,G,H,J]; exact ih _ _ _ _ _)
  ·intro h0 hw;refine np ?_;try simp only[h19,C9,A5,A6,A1,C,E,F,G,H,J]
   exact A2k rec_ h_rec a1 a2 a3 v6 r11 a0 y7 v8 r18 r20 h18 h19 h20 _ b0 b1 b2 b8 b9
theorem A2l(rec_:X1→U→U→(P U)→X8→(P (P U))→Q (P (P U)))(h_rec:∀(a0:X1) (a1 a2:U) (a3:P U) (a4:X8) (a5:P (P U)) zr,rec_ a0 a1 a2 a3 a4 a5=N zr→FCz Z 226 [.d (.ag (X1.row a0)),.d (.sc (.int .i64 a1)),.d (.sc (.int .i64 a2)),.d (.sc (.sl (Y rI a3))),.d (.ag (X8.row a4)),.p] [.r 0] [(1,Y (rL rI) a5)] [.r 0] [(1,Y (rL rI) zr)] [])(a1:U)(a2)(a3)(v6)(r11)(a0)(y7)(v8)(r18)(r20)(h18:Bx a3=N r18)(h19:(A3 r18.length ([v6]:P U).length 8)=T)(h20:rec_ a0 r11 a2 (r18++([v6]:P U)) y7 v8=N r20):∀(f:W) (b0 b1:V) (b2 b5:V) (b8 b9:V),Ab Z KW (GW a1 a2 a3 v6 r11 a0 y7 r18 r20) f [b0,b1,b2,T,T,b5,L,L,b8,b9,L] (C9 a1 a2 a3 v6 r11 a0 y7 (vc (.own 3328)) (vc (.own 3328)) b0 b1 b2 T T b5 L L b8 b9 L [(99999999999,[.own 90000]),(6,[aL (Y X7.row a0.Points),aL (Y X2.row a0.Segments)]),(10,[aB y7.i0,aB y7.i1,aB y7.i2,aB y7.i3,aB y7.i4,aB y7.i5,aB y7.i6,aB y7.i7])] [(90000,1,Y (rL rI) v8),(3328,1,Y rI r18)]):=by
 intro f
 induction f with
 | zero=>intro b0 b1 b2 b5 b8 b9 h; simp at h
 | succ f ih=>
  intro b0 b1 b2 b5 b8 b9;refine Ad ⟨?_,?_,?_,?_,?_,?_,?_,?_,?_,?_,?_,⟨⟩⟩<;>try first | (intro h; cases h; done) | (intro _ hw; simp at hw; done) | (intro h0 hw; obtain rfl:=hz h0 rfl; refine np ?_; simp only[C9,A5,A6,A1,C,E,F,G,H,J]; exact ih _ _ _ _ _ _)
  ·intro h0 hw;obtain rfl:=hq hw 5 rfl rfl;refine np ?_;try simp only[C9,A5,A6,A1,C,E,F,G,H,J]
   refine Am (es:=Y rI ([v6]:P U)) X (by simp only[St.fresh,zE,zF,Ah]; simp[AV.cells,V1.cells,AC.uses]) ?_;try simp only[A1,C,E,F,G,H,J]
   exact aJ rec_ h_rec a1 a2 a3 v6 r11 a0 y7 v8 r18 r20 h18 h19 h20 _ b0 b1 b2 b8 b9
theorem A2m(rec_:X1→U→U→(P U)→X8→(P (P U))→Q (P (P U)))(h_rec:∀(a0:X1) (a1 a2:U) (a3:P U) (a4:X8) (a5:P (P U)) zr,rec_ a0 a1 a2 a3 a4 a5=N zr→FCz Z 226 [.d (.ag (X1.row a0)),.d (.sc (.int .i64 a1)),.d (.sc (.int .i64 a2)),.d (.sc (.sl (Y rI a3))),.d (.ag (X8.row a4)),.p] [.r 0] [(1,Y (rL rI) a5)] [.r 0] [(1,Y (rL rI) zr)] [])(a1:U)(a2)(a3)(v6)(r11)(a0)(y7)(v8)(r18)(r20)(h18:Bx a3=N r18)(h19:(A3 r18.length ([v6]:P U).length 8)=T)(h20:rec_ a0 r11 a2 (r18++([v6]:P U)) y7 v8=N r20):∀(f:W) (b0 b1:V) (b2 b3:V) (b8 b9:V),Ab Z KW (GW a1 a2 a3 v6 r11 a0 y7 r18 r20) f [b0,b1,b2,b3,L,T,T,L,b8,b9,L] (C9 a1 a2 a3 v6 r11 a0 y7 (vc (.own 3328)) (vc (.own 3328)) b0 b1 b2 b3 L T T L b8 b9 L [(99999999999,[.own 90000]),(6,[aL (Y X7.row a0.Points),aL (Y X2.row a0.Segments)]),(10,[aB y7.i0,aB y7.i1,aB y7.i2,aB y7.i3,aB y7.i4,aB y7.i5,aB y7.i6,aB y7.i7])] [(90000,1,Y (rL rI) v8),(3456,1,Y rI ([v6]:P U))]):=by
 intro f
 induction f with
 | zero=>intro b0 b1 b2 b3 b8 b9 h; simp at h
 | succ f ih=>
  intro b0 b1 b2 b3 b8 b9;refine Ad ⟨?_,?_,?_,?_,?_,?_,?_,?_,?_,?_,?_,⟨⟩⟩<;>try first | (intro h; cases h; done) | (intro _ hw; simp at hw; done) | (intro h0 hw; obtain rfl:=hz h0 rfl; refine np ?_; simp only[C9,A5,A6,A1,C,E,F,G,H,J]; exact ih _ _ _ _ _ _)
  ·intro h0 hw;obtain rfl:=hq hw 3 rfl rfl;refine⟨[],[(O,.keep [1,2,3,5,6,10,12,14,30,31,32,48,49,50,51,52,53,54,55,56,57,58] [99999999999,6,10] [90000,3328,3456])],X,X,?_⟩;try simp only[C9,A5,A6,zK,zJ,A1,C,E,F,G,H,J]
   refine Ks (Aq QT h18) X (by simp only[St.fresh,zE,zF,Ah]; simp[AV.cells,V1.cells,AC.uses]) (uf X) ?_;try simp only[A1,C,E,F,G,H,J]
   exact aJ rec_ h_rec a1 a2 a3 v6 r11 a0 y7 v8 r18 r20 h18 h19 h20 _ b0 b1 b2 b8 b9
theorem A2n(rec_:X1→U→U→(P U)→X8→(P (P U))→Q (P (P U)))(h_rec:∀(a0:X1) (a1 a2:U) (a3:P U) (a4:X8) (a5:P (P U)) zr,rec_ a0 a1 a2 a3 a4 a5=N zr→FCz Z 226 [.d (.ag (X1.row a0)),.d (.sc (.int .i64 a1)),.d (.sc (.int .i64 a2)),.d (.sc (.sl (Y rI a3))),.d (.ag (X8.row a4)),.p] [.r 0] [(1,Y (rL rI) a5)] [.r 0] [(1,Y (rL rI) zr)] [])(a1:U)(a2)(a3)(v6)(r11)(a0)(y7)(v8)(r18)(r20)(h18:Bx a3=N r18)(h19:(A3 r18.length ([v6]:P U).length 8)=T)(h20:rec_ a0 r11 a2 (r18++([v6]:P U)) y7 v8=N r20):∀(f:W) (b0 b1:V) (b2 b3:V) (b5 b8 b9:V),Ab Z KW (GW a1 a2 a3 v6 r11 a0 y7 r18 r20) f [b0,b1,b2,b3,L,b5,L,L,b8,b9,L] (C9 a1 a2 a3 v6 r11 a0 y7 (vc (.own 3328)) (vc (.own 3328)) b0 b1 b2 b3 L b5 L L b8 b9 L [(99999999999,[.own 90000]),(6,[aL (Y X7.row a0.Points),aL (Y X2.row a0.Segments)]),(10,[aB y7.i0,aB y7.i1,aB y7.i2,aB y7.i3,aB y7.i4,aB y7.i5,aB y7.i6,aB y7.i7])] [(90000,1,Y (rL rI) v8)]):=by
 intro f
 induction f with
 | zero=>intro b0 b1 b2 b3 b5 b8 b9 h; simp at h
 | succ f ih=>
  intro b0 b1 b2 b3 b5 b8 b9;refine Ad ⟨?_,?_,?_,?_,?_,?_,?_,?_,?_,?_,?_,⟨⟩⟩<;>try first | (intro _ hw; simp at hw; done) | (intro h0 hw; obtain rfl:=hz h0 rfl; refine np ?_; simp only[C9,A5,A6,A1,C,E,F,G,H,J]; exact ih _ _ _ _ _ _ _)
  ·intro h0 hw;obtain rfl:=hq hw 3 rfl rfl;refine np ?_;try simp only[C9,A5,A6,A1,C,E,F,G,H,J]
   refine Ks (Aq QT h18) X (by simp only[St.fresh,zE,zF,Ah]; simp[AV.cells,V1.cells,AC.uses]) (uf X) ?_;try simp only[A1,C,E,F,G,H,J]
   exact A2l rec_ h_rec a1 a2 a3 v6 r11 a0 y7 v8 r18 r20 h18 h19 h20 _ b0 b1 b2 b5 b8 b9
  ·intro h0 hw;obtain rfl:=hq hw 5 rfl rfl;refine np ?_;try simp only[C9,A5,A6,A1,C,E,F,G,H,J]
   refine Am (es:=Y rI ([v6]:P U)) X (by simp only[St.fresh,zE,zF,Ah]; simp[AV.cells,V1.cells,AC.uses]) ?_;try simp only[A1,C,E,F,G,H,J]
   exact A2m rec_ h_rec a1 a2 a3 v6 r11 a0 y7 v8 r18 r20 h18 h19 h20 _ b0 b1 b2 b3 b8 b9
def bX:=fun a1 a2 a3 v6 r11 (a0:X1) (y7:X8) v8 (k_:V→Q (P (P U)))=>∀{v16} {zr},k_ v16=N zr→Kh Z 226 Q5 30 [1,2,3,5,6,10,12,14,30,31,32,47] [99999999999,6,10] [90000] ⟨[pI 1 a1,pI 2 a2,pL 3 rI a3,(5,vc (.pb 99999999999 0)),pB 6,pB 10,pI 12 v6,pI 14 r11,pL 30 X2.row a0.Segments,pI 31 (a0.Segments.length:U),pI 32 v6,(47,vc (aB v16))],[(99999999999,[.own 90000]),(6,[aM X7.row a0.Points,aM X2.row a0.Segments]),(10,[aB y7.i0,aB y7.i1,aB y7.i2,aB y7.i3,aB y7.i4,aB y7.i5,aB y7.i6,aB y7.i7])],[(90000,1,Y (rL rI) v8)]⟩ (D2 [] [] [.r 0] [(1,Y (rL rI) zr)])
def TB:=fun a1 a2 a3 (a0:X1) (y7:X8) (k_:U→(P (P U))→Q (P (P U)))=>∀{v6 v8} {zr},k_ v6 v8=N zr→Kh Z 226 Q5 15 [1,2,3,5,6,10,30,31,32] [99999999999,6,10] [90000] ⟨[pI 1 a1,pI 2 a2,pL 3 rI a3,(5,vc (.pb 99999999999 0)),pB 6,pB 10,pL 30 X2.row a0.Segments,pI 31 (a0.Segments.length:U),pI 32 v6],[(99999999999,[.own 90000]),(6,[aM X7.row a0.Points,aM X2.row a0.Segments]),(10,[aB y7.i0,aB y7.i1,aB y7.i2,aB y7.i3,aB y7.i4,aB y7.i5,aB y7.i6,aB y7.i7])],[(90000,1,Y (rL rI) v8)]⟩ (D2 [] [] [.r 0] [(1,Y (rL rI) zr)])
theorem aK{rec_:X1→U→U→(P U)→X8→(P (P U))→Q (P (P U))}(h_rec:∀(a0:X1) (a1 a2:U) (a3:P U) (a4:X8) (a5:P (P U)) zr,rec_ a0 a1 a2 a3 a4 a5=N zr→FCz Z 226 [.d (.ag (X1.row a0)),.d (.sc (.int .i64 a1)),.d (.sc (.int .i64 a2)),.d (.sc (.sl (Y rI a3))),.d (.ag (X8.row a4)),.p] [.r 0] [(1,Y (rL rI) a5)] [.r 0] [(1,Y (rL rI) zr)] []){a1 a2 a3 v6 r11 a0 y7 v8}{NJ}(WB:TB a1 a2 a3 a0 y7 NJ):bX a1 a2 a3 v6 r11 a0 y7 v8 (Hg rec_ a1 a2 a3 v6 r11 a0 y7 v8 NJ):=by
 intro v16 r h σ hσ S hS
 conv at hS=>rhs; reduce
 try simp only[zB,zA,Au,UInt8.reduceOfNat] at hS
 subst hS;refine AF ?_;unfold Hg at h;obtain⟨h17,h⟩|⟨h17,h⟩:=ic h
 ·try simp only[hσ,h17,C,E,F,G,H,J]
  obtain⟨r18,h18,h⟩:=ob h;obtain⟨h19,h⟩:=B5 h;obtain⟨r20,h20,h⟩:=ob h;refine DS (ks:= [1,2,3,5,6,10,12,14,30,31,32]) (bs:= [99999999999,6,10]) (rs:= [90000]) (τ:=(GW a1 a2 a3 v6 r11 a0 y7 r18 r20)) X (A2n rec_ h_rec a1 a2 a3 v6 r11 a0 y7 v8 r18 r20 h18 h19 h20 _ L L L L L L L) ?_;simp only[GW,C9,A5];try simp only[h17,h19,C,E,F,G,H,J]
  refine WB h ?_ (by kernel_rfl);try simp only[h17,h19,C,E,F,G,H,J,pL,aM,I]
 ·try simp only[hσ,h17,C,E,F,G,H,J]
  refine WB h ?_ (by kernel_rfl);try simp only[h17,C,E,F,G,H,J,pL,aM,I]
theorem A2o{rec_:X1→U→U→(P U)→X8→(P (P U))→Q (P (P U))}(h_rec:∀(a0:X1) (a1 a2:U) (a3:P U) (a4:X8) (a5:P (P U)) zr,rec_ a0 a1 a2 a3 a4 a5=N zr→FCz Z 226 [.d (.ag (X1.row a0)),.d (.sc (.int .i64 a1)),.d (.sc (.int .i64 a2)),.d (.sc (.sl (Y rI a3))),.d (.ag (X8.row a4)),.p] [.r 0] [(1,Y (rL rI) a5)] [.r 0] [(1,Y (rL rI) zr)] []){a1 a2 a3 a0 y7}{n:W}:TB a1 a2 a3 a0 y7 (FP rec_ a1 a2 a3 a0 y7 n):=by
 induction n with
 | zero=>intro _ _ r h; cases h
 | succ n ih=>
  intro v6 v8 r h σ hσ S hS
  conv at hS=>rhs; reduce
  try simp only[zB,zA,Au,UInt8.reduceOfNat] at hS
  subst hS;rw[FP] at h;refine AZ (AF ?_);obtain⟨h9,h⟩|⟨h9,h⟩:=ic h
  ·obtain⟨x10,h10,h⟩:=ob h;try simp only[hσ,h9,h10,C,E,F,G,H,J]
   refine Cd ?_;obtain⟨r11,h11,h⟩:=ob h;try simp only[h9,h10,C,E,F,G,H,J]
   refine AY (Aq ZR h11) ?_;obtain⟨h12,h⟩|⟨h12,h⟩:=ic h
   ·obtain⟨h13,h⟩:=B5 h;try simp only[h9,h10,h12,C,E,F,G,H,J]
    refine Nv X X h13 ?_;obtain⟨x14,h14,h⟩:=ob h;have h14n:=B7 h14;have hA15:([aB y7.i0,aB y7.i1,aB y7.i2,aB y7.i3,aB y7.i4,aB y7.i5,aB y7.i6,aB y7.i7]:P AC)[zC r11]?=N (aB x14):=Un h14n;try simp only[h9,h10,h12,hA15,C,E,F,G,H,J]
    refine aK h_rec ih h ?_ (by kernel_rfl);try simp only[h9,h10,h12,hA15,C,E,F,G,H,J,pL,aM,I]
   ·try simp only[h9,h10,h12,C,E,F,G,H,J]
    refine aK h_rec ih h ?_ (by kernel_rfl);try simp only[h9,h10,h12,C,E,F,G,H,J,pL,aM,I]
  ·try simp only[hσ,h9,C,E,F,G,H,J]
   cases h;exact⟨trivial,[90000],by decide,by decide,X,X⟩
theorem ko:Ch Z 226=N ((H2 Z 226 Q5).strip,[],60):=by kernel_rfl
theorem xR(rec_:X1→U→U→(P U)→X8→(P (P U))→Q (P (P U)))(a0:X1)(a1 a2:U)(a3:P U)(a4:X8)(a5:P (P U))(r:(P (P U)))(h_rec:∀(a0:X1) (a1 a2:U) (a3:P U) (a4:X8) (a5:P (P U)) zr,rec_ a0 a1 a2 a3 a4 a5=N zr→FCz Z 226 [.d (.ag (X1.row a0)),.d (.sc (.int .i64 a1)),.d (.sc (.int .i64 a2)),.d (.sc (.sl (Y rI a3))),.d (.ag (X8.row a4)),.p] [.r 0] [(1,Y (rL rI) a5)] [.r 0] [(1,Y (rL rI) zr)] [])(h:P7 rec_ a0 a1 a2 a3 a4 a5=N r):FCz Z 226 [.d (.ag (X1.row a0)),.d (.sc (.int .i64 a1)),.d (.sc (.int .i64 a2)),.d (.sc (.sl (Y rI a3))),.d (.ag (X8.row a4)),.p] [.r 0] [(1,Y (rL rI) a5)] [.r 0] [(1,Y (rL rI) r)] []:=by
 unfold P7 at h;refine OJ (σ:=⟨[(0,va [aL (Y X7.row a0.Points),aL (Y X2.row a0.Segments)]),(1,vc (aI a1)),(2,vc (aI a2)),(3,vc (aL (Y rI a3))),(4,va [aB a4.i0,aB a4.i1,aB a4.i2,aB a4.i3,aB a4.i4,aB a4.i5,aB a4.i6,aB a4.i7]),(5,vc (.pb 99999999999 0))],[(99999999999,[.own 90000])],[(90000,1,Y (rL rI) a5)]⟩) mixed ko X X X X ?_;refine Jk Q5 ?_;intro S hS
 conv at hS=>rhs; reduce
 try simp only[zB,zA,Au,UInt8.reduceOfNat] at hS
 subst hS;try simp only[C,E,F,G,H,J]
 refine C5 ?_;try simp only[C,E,F,G,H,J]
 refine C5 ?_;obtain⟨h1,h⟩|⟨h1,h⟩:=ic h
 ·try simp only[h1,C,E,F,G,H,J]
  obtain⟨r2,h2,h⟩:=ob h;obtain⟨h3,h⟩:=B5 h;refine DS (ks:= [3,5]) (bs:= [99999999999]) (rs:= [90000]) (τ:=(J7 a3 a5 r2)) X (A2i rec_ h_rec a3 a5 r2 h2 h3 _ L L L L L) ?_;simp only[J7,CP,A5];try simp only[h1,h3,C,E,F,G,H,J]
  cases h;exact⟨trivial,[90000],by decide,by decide,X,X⟩
 ·obtain⟨h4,h⟩:=B5 h;try simp only[h1,C,E,F,G,H,J]
  refine Nv X X h4 ?_;have hA5:BH [aB a4.i0,aB a4.i1,aB a4.i2,aB a4.i3,aB a4.i4,aB a4.i5,aB a4.i6,aB a4.i7] (zC a1) [aB T]= [aB ((X8.set a4 (zC a1) T)).i0,aB ((X8.set a4 (zC a1) T)).i1,aB ((X8.set a4 (zC a1) T)).i2,aB ((X8.set a4 (zC a1) T)).i3,aB ((X8.set a4 (zC a1) T)).i4,aB ((X8.set a4 (zC a1) T)).i5,aB ((X8.set a4 (zC a1) T)).i6,aB ((X8.set a4 (zC a1) T)).i7]:=X8.set_eq a4 (EP h4);have hA5g:BX [aB a4.i0,aB a4.i1,aB a4.i2,aB a4.i3,aB a4.i4,aB a4.i5,aB a4.i6,aB a4.i7] (zC a1+1)=T:=Ro (EP h4);have hA5h:BX [aB a4.i1,aB a4.i2,aB a4.i3,aB a4.i4,aB a4.i5,aB a4.i6,aB a4.i7] (zC a1)=T:=Rp (c:=aB a4.i0) (EP h4);try simp only[h1,hA5,hA5g,hA5h,C,E,F,G,H,J]
  refine A2o h_rec h ?_ (by kernel_rfl);try simp only[h1,hA5,hA5g,hA5h,C,E,F,G,H,J,pL,aM,I]
theorem xS:∀(n:W) (a0:X1) (a1:U) (a2:U) (a3:P U) (a4:X8) (a5:P (P U)) (r:(P (P U))),FQ n a0 a1 a2 a3 a4 a5=N r→FCz Z 226 [.d (.ag (X1.row a0)),.d (.sc (.int .i64 a1)),.d (.sc (.int .i64 a2)),.d (.sc (.sl (Y rI a3))),.d (.ag (X8.row a4)),.p] [.r 0] [(1,Y (rL rI) a5)] [.r 0] [(1,Y (rL rI) r)] []:=by
 intro n
 induction n with
 | zero=>intro _ _ _ _ _ _ r h; cases h
 | succ n ih=>intro a0 a1 a2 a3 a4 a5 r h; rw[FQ] at h; exact xR (FQ n) a0 a1 a2 a3 a4 a5 r ih h
theorem xQ{a0}{a1}{a2}{a3}{a4}{a5}{r}(h:RM a0 a1 a2 a3 a4 a5=N r):FCz Z 226 [.d (.ag (X1.row a0)),.d (.sc (.int .i64 a1)),.d (.sc (.int .i64 a2)),.d (.sc (.sl (Y rI a3))),.d (.ag (X8.row a4)),.p] [.r 0] [(1,Y (rL rI) a5)] [.r 0] [(1,Y (rL rI) r)] []:=xS bigN a0 a1 a2 a3 a4 a5 r h
/- 203:impl_RoutesBetween -/
instance xV:Ct 203 (∀{a0} {a1} {a2} {r},LA a0 a1 a2=N r→FC Z 203 [.ag (X1.row a0),.sc (.int .i64 a1),.sc (.int .i64 a2)] [.sc (.o 1 (Y (rL rI) r))]):=by
 refine⟨fun{a0} {a1} {a2} {r} h=> ?_⟩;unfold LA at h;refine A4 mixed h0 [6] 34 ?_;intro S hS
 conv at hS=>rhs; reduce
 try simp only[zB,zA,Au,UInt8.reduceOfNat] at hS
 subst hS;simp only[C,E,F,G,H,J];try simp only[C,E,F,G,H,J]
 refine C5 ?_;obtain⟨r1,h1,h⟩:=ob h;try simp only[C,E,F,G,H,J]
 refine AY (Aq xP h1) ?_;obtain⟨h2,h⟩|⟨h2,h⟩:=ic h
 ·obtain⟨r3,h3,h⟩:=ob h;try simp only[h2,C,E,F,G,H,J]
  refine AY (Aq QU h3) ?_;obtain⟨h4,h⟩|⟨h4,h⟩:=ic h
  ·obtain⟨r5,h5,h⟩:=ob h;try simp only[h2,h4,C,E,F,G,H,J]
   refine AY (Aq QU h5) ?_;obtain⟨h6,h⟩|⟨h6,h⟩:=ic h
   ·try simp only[h2,h4,h6,C,E,F,G,H,J]
    refine Bn (es:=Y (rL rI) ([]:P (P U))) ?_;try simp only[h2,h4,h6,C,E,F,G,H,J]
    refine Cd ?_;try simp only[h2,h4,h6,C,E,F,G,H,J]
    refine PX ?_;obtain⟨r7,h7,h⟩:=ob h;try simp only[h2,h4,h6,C,E,F,G,H,J]
    refine Gx (xQ h7) 7 [1728] rfl X X X (by decide) X X X ?_;try simp only[h2,h4,h6,C,E,F,G,H,J]
    cases h;exact t0
   ·try simp only[h2,h4,h6,C,E,F,G,H,J]
    cases h;exact t0
  ·try simp only[h2,h4,C,E,F,G,H,J]
   cases h;exact t0
 ·try simp only[h2,C,E,F,G,H,J]
  cases h;exact t0
/- 204:impl_RouteMinutes -/
def VZ:Hw:=([(16,[2,5,11,12,13],[2],[])],[])
def bu:=fun a1 (a0:X1) (k_:U→U→Q U)=>∀{v3 v4} {zr},k_ v3 v4=N zr→Kh Z 204 VZ 16 [2,5,11,12,13] [2] [] ⟨[pB 2,pI 5 v3,pL 11 rI a1,pI 12 (a1.length:U),pI 13 v4],[(2,[aM X7.row a0.Points,aM X2.row a0.Segments])],[]⟩ (A7 [4] [.sc (.v (.int .i64 zr))])
theorem A2q{a1 a0}{n:W}:bu a1 a0 (Hx a1 a0 n):=by
 induction n with
 | zero=>intro _ _ r h; cases h
 | succ n ih=>
  intro v3 v4 r h σ hσ;rw[Hx] at h;exact gc
instance ZP:Ct 204 (∀{a0} {a1} {r},FY a0 a1=N r→FC Z 204 [.ag (X1.row a0),.sc (.sl (Y rI a1))] [.sc (.v (.int .i64 r))]):=by
 refine⟨fun h=> ?_⟩;unfold FY at h;refine A4 mixed VZ [4] 33 ?_;have k0:= @A2q;exact gc
/- 176:impl_BestRoute -/
def W0:Hw:=([(18,[3,9,22,23,24],[3],[960])],[])
def bS:=fun r1 (a0:X1) (k_:(P U)→U→Q ((P U) × V))=>∀{v4 v5} {zr},k_ v4 v5=N zr→Kh Z 176 W0 18 [3,9,22,23,24] [3] [960] ⟨[pB 3,pL 9 rI v4,pW 22 960,pI 23 (r1.length:U),pI 24 v5],[(3,[aM X7.row a0.Points,aM X2.row a0.Segments])],[(960,1,Y (rL rI) r1)]⟩ (A7 [6,7] [.sc (.v (.sl (Y rI zr.1))),.sc (.v (.bool zr.2))])
theorem A2r{r1 a0}{n:W}:bS r1 a0 (ER r1 a0 n):=by
 induction n with
 | zero=>intro _ _ r h; cases h
 | succ n ih=>
  intro v4 v5 r h σ hσ S hS
  conv at hS=>rhs; reduce
  try simp only[zB,zA,Au,UInt8.reduceOfNat] at hS
  subst hS;rw[ER] at h;refine AZ (AF ?_);obtain⟨h6,h⟩|⟨h6,h⟩:=ic h
  ·obtain⟨x7,h7,h⟩:=ob h;have h7n:=B7 h7;try simp only[hσ,h6,h7,h7n,C,E,F,G,H,J]
   refine At ?_;obtain⟨r9,h9,h⟩:=ob h;try simp only[h6,h7,h7n,C,E,F,G,H,J]
   refine Cg (Aq ZP h9) ?_;obtain⟨r10,h10,h⟩:=ob h;try simp only[h6,h7,h7n,C,E,F,G,H,J]
   refine Cg (Aq ZP h10) ?_;obtain⟨h11,h⟩|⟨h11,h⟩:=ic h
   ·try simp only[h6,h7,h7n,h11,C,E,F,G,H,J]
    refine ih h ?_ (by kernel_rfl);try simp only[h6,h7,h7n,h11,C,E,F,G,H,J,pL,aM,I]
   ·try simp only[h6,h7,h7n,h11,C,E,F,G,H,J]
    refine ih h ?_ (by kernel_rfl);try simp only[h6,h7,h7n,h11,C,E,F,G,H,J,pL,aM,I]
  ·try simp only[hσ,h6,C,E,F,G,H,J]
   cases h;trivial
instance A63:Ct 176 (∀{a0} {a1} {a2} {r},Le a0 a1 a2=N r→FC Z 176 [.ag (X1.row a0),.sc (.int .i64 a1),.sc (.int .i64 a2)] [.sc (.v (.sl (Y rI r.1))),.sc (.v (.bool r.2))]):=by
 refine⟨fun{a0} {a1} {a2} {r} h=> ?_⟩;unfold Le at h;refine A4 mixed W0 [6,7] 38 ?_;intro S hS
 conv at hS=>rhs; reduce
 try simp only[zB,zA,Au,UInt8.reduceOfNat] at hS
 subst hS;simp only[C,E,F,G,H,J];try simp only[C,E,F,G,H,J]
 refine C5 ?_;obtain⟨r1,h1,h⟩:=ob h;try simp only[C,E,F,G,H,J]
 refine AY (Aq xV h1) ?_;obtain⟨h2,h⟩|⟨h2,h⟩:=ic h
 ·try simp only[h2,C,E,F,G,H,J]
  cases h;trivial
 ·obtain⟨x3,h3,h⟩:=ob h;have h3n:=B7 h3;try simp only[h2,h3,h3n,C,E,F,G,H,J]
  refine A2r h ?_ (by kernel_rfl);try simp only[h2,h3,h3n,C,E,F,G,H,J,pL,aM,I]
/- 227:impl_Chart_points -/
def Sf:Hw:=([(20,[1,3,8,9,22,23,24],[3,8],[1344]),(44,[1,3,8,9,22,23,24,47],[3,8],[1344])],[])
def bW:=fun r14 a2 v6 (a0:X1) (v7:X8) v8 (k_:V→Q ((P U) × V))=>∀{v19} {zr},k_ v19=N zr→Kh Z 227 Sf 44 [1,3,8,9,22,23,24,47] [3,8] [1344] ⟨[pI 1 r14,pB 3,pB 8,pW 9 1344,pL 22 rI a2,pI 23 (a2.length:U),pI 24 v6,(47,vc (aB v19))],[(3,[aM X7.row a0.Points,aM X2.row a0.Segments]),(8,[aB v7.i0,aB v7.i1,aB v7.i2,aB v7.i3,aB v7.i4,aB v7.i5,aB v7.i6,aB v7.i7])],[(1344,1,Y rI v8)]⟩ (A7 [6,7] [.sc (.o 1 (Y rI zr.1)),.sc (.v (.bool zr.2))])
def TA:=fun a2 (a0:X1) (k_:U→U→X8→(P U)→Q ((P U) × V))=>∀{v5 v6 v7 v8} {zr},k_ v5 v6 v7 v8=N zr→Kh Z 227 Sf 20 [1,3,8,9,22,23,24] [3,8] [1344] ⟨[pI 1 v5,pB 3,pB 8,pW 9 1344,pL 22 rI a2,pI 23 (a2.length:U),pI 24 v6],[(3,[aM X7.row a0.Points,aM X2.row a0.Segments]),(8,[aB v7.i0,aB v7.i1,aB v7.i2,aB v7.i3,aB v7.i4,aB v7.i5,aB v7.i6,aB v7.i7])],[(1344,1,Y rI v8)]⟩ (A7 [6,7] [.sc (.o 1 (Y rI zr.1)),.sc (.v (.bool zr.2))])
theorem aN{r14 a2 v6 a0 v7 v8}{Qm}(oe:TA a2 a0 Qm):bW r14 a2 v6 a0 v7 v8 (Hf r14 a2 v6 a0 v7 v8 Qm):=by
 intro v19 r h σ hσ S hS
 conv at hS=>rhs; reduce
 try simp only[zB,zA,Au,UInt8.reduceOfNat] at hS
 subst hS;refine AF ?_;unfold Hf at h;obtain⟨h20,h⟩|⟨h20,h⟩:=ic h
 ·try simp only[hσ,h20,C,E,F,G,H,J]
  cases h;trivial
 ·obtain⟨h21,h⟩:=B5 h;try simp only[hσ,h20,C,E,F,G,H,J]
  refine Nv X X h21 ?_;have hA22:BH [aB v7.i0,aB v7.i1,aB v7.i2,aB v7.i3,aB v7.i4,aB v7.i5,aB v7.i6,aB v7.i7] (zC r14) [aB T]= [aB ((X8.set v7 (zC r14) T)).i0,aB ((X8.set v7 (zC r14) T)).i1,aB ((X8.set v7 (zC r14) T)).i2,aB ((X8.set v7 (zC r14) T)).i3,aB ((X8.set v7 (zC r14) T)).i4,aB ((X8.set v7 (zC r14) T)).i5,aB ((X8.set v7 (zC r14) T)).i6,aB ((X8.set v7 (zC r14) T)).i7]:=X8.set_eq v7 (EP h21);have hA22g:BX [aB v7.i0,aB v7.i1,aB v7.i2,aB v7.i3,aB v7.i4,aB v7.i5,aB v7.i6,aB v7.i7] (zC r14+1)=T:=Ro (EP h21);have hA22h:BX [aB v7.i1,aB v7.i2,aB v7.i3,aB v7.i4,aB v7.i5,aB v7.i6,aB v7.i7] (zC r14)=T:=Rp (c:=aB v7.i0) (EP h21);try simp only[h20,hA22,hA22g,hA22h,C,E,F,G,H,J]
  refine Bn (es:=Y rI ([r14]:P U)) ?_;obtain⟨h23,h⟩:=B5 h;try simp only[h20,hA22,hA22g,hA22h,h23,C,E,F,G,H,J]
  refine oe h ?_ (by kernel_rfl);try simp only[h20,hA22,hA22g,hA22h,h23,C,E,F,G,H,J,pL,aM,I]
theorem A2s{a2 a0}{n:W}:TA a2 a0 (FO a2 a0 n):=by
 induction n with
 | zero=>intro _ _ _ _ r h; cases h
 | succ n ih=>
  intro v5 v6 v7 v8 r h σ hσ S hS
  conv at hS=>rhs; reduce
  try simp only[zB,zA,Au,UInt8.reduceOfNat] at hS
  subst hS;rw[FO] at h;refine AZ (AF ?_);obtain⟨h9,h⟩|⟨h9,h⟩:=ic h
  ·obtain⟨x10,h10,h⟩:=ob h;obtain⟨r11,h11,h⟩:=ob h;try simp only[hσ,h9,h10,C,E,F,G,H,J]
   refine AY (Aq QU h11) ?_;obtain⟨h12,h⟩|⟨h12,h⟩:=ic h
   ·obtain⟨x13,h13,h⟩:=ob h;obtain⟨r14,h14,h⟩:=ob h;try simp only[h9,h10,h12,h13,C,E,F,G,H,J]
    refine AY (Aq ZR h14) ?_;obtain⟨h15,h⟩|⟨h15,h⟩:=ic h
    ·try simp only[h9,h10,h12,h13,h15,C,E,F,G,H,J]
     refine aN ih h ?_ (by kernel_rfl);try simp only[h9,h10,h12,h13,h15,C,E,F,G,H,J,pL,aM,I]
    ·obtain⟨h16,h⟩:=B5 h;try simp only[h9,h10,h12,h13,h15,C,E,F,G,H,J]
     refine Nv X X h16 ?_;obtain⟨x17,h17,h⟩:=ob h;have h17n:=B7 h17;have hA18:([aB v7.i0,aB v7.i1,aB v7.i2,aB v7.i3,aB v7.i4,aB v7.i5,aB v7.i6,aB v7.i7]:P AC)[zC r14]?=N (aB x17):=Un h17n;try simp only[h9,h10,h12,h13,h15,hA18,C,E,F,G,H,J]
     refine aN ih h ?_ (by kernel_rfl);try simp only[h9,h10,h12,h13,h15,hA18,C,E,F,G,H,J,pL,aM,I]
   ·try simp only[h9,h10,h12,C,E,F,G,H,J]
    cases h;trivial
  ·try simp only[hσ,h9,C,E,F,G,H,J]
   cases h;trivial
instance A66:Ct 227 (∀{a0} {a1} {a2} {r},He a0 a1 a2=N r→FC Z 227 [.ag (X1.row a0),.sc (.int .i64 a1),.sc (.sl (Y rI a2))] [.sc (.o 1 (Y rI r.1)),.sc (.v (.bool r.2))]):=by
 refine⟨fun{a0} {a1} {a2} {r} h=> ?_⟩;unfold He at h;refine A4 mixed Sf [6,7] 56 ?_;intro S hS
 conv at hS=>rhs; reduce
 try simp only[zB,zA,Au,UInt8.reduceOfNat] at hS
 subst hS;simp only[C,E,F,G,H,J];try simp only[C,E,F,G,H,J]
 refine C5 ?_;obtain⟨r1,h1,h⟩:=ob h;try simp only[C,E,F,G,H,J]
 refine AY (Aq QU h1) ?_;obtain⟨h2,h⟩|⟨h2,h⟩:=ic h
 ·try simp only[h2,C,E,F,G,H,J]
  refine Cd ?_;obtain⟨h3,h⟩:=B5 h;try simp only[h2,C,E,F,G,H,J]
  refine Nv X X h3 ?_;have hA4:BH [aB L,aB L,aB L,aB L,aB L,aB L,aB L,aB L] (zC a1) [aB T]= [aB ((X8.set (⟨L,L,L,L,L,L,L,L⟩:X8) (zC a1) T)).i0,aB ((X8.set (⟨L,L,L,L,L,L,L,L⟩:X8) (zC a1) T)).i1,aB ((X8.set (⟨L,L,L,L,L,L,L,L⟩:X8) (zC a1) T)).i2,aB ((X8.set (⟨L,L,L,L,L,L,L,L⟩:X8) (zC a1) T)).i3,aB ((X8.set (⟨L,L,L,L,L,L,L,L⟩:X8) (zC a1) T)).i4,aB ((X8.set (⟨L,L,L,L,L,L,L,L⟩:X8) (zC a1) T)).i5,aB ((X8.set (⟨L,L,L,L,L,L,L,L⟩:X8) (zC a1) T)).i6,aB ((X8.set (⟨L,L,L,L,L,L,L,L⟩:X8) (zC a1) T)).i7]:=X8.set_eq (⟨L,L,L,L,L,L,L,L⟩:X8) (EP h3);have hA4g:BX [aB L,aB L,aB L,aB L,aB L,aB L,aB L,aB L] (zC a1+1)=T:=Ro (EP h3);have hA4h:BX [aB L,aB L,aB L,aB L,aB L,aB L,aB L] (zC a1)=T:=Rp (c:=aB L) (EP h3);try simp only[h2,hA4,hA4g,hA4h,C,E,F,G,H,J]
  refine Bn (es:=Y rI ([a1]:P U)) ?_;try simp only[h2,hA4,hA4g,hA4h,C,E,F,G,H,J]
  refine A2s h ?_ (by kernel_rfl);try simp only[h2,hA4,hA4g,hA4h,C,E,F,G,H,J,pL,aM,I]
 ·try simp only[h2,C,E,F,G,H,J]
  cases h;trivial
/- 205:impl_RoutePoints -/
instance ZQ:Ct 205 (∀{a0} {a1} {a2} {r},DK a0 a1 a2=N r→FC Z 205 [.ag (X1.row a0),.sc (.int .i64 a1),.sc (.sl (Y rI a2))] [.sc (.o 1 (Y rI r))]):=by
 refine⟨fun h=> ?_⟩;unfold DK at h;refine A4 mixed h0 [6] 20 ?_;exact gc
/- 228:impl_RouteOk -/
instance A7w:Ct 228 (∀{a0} {a1} {a2} {r},ET a0 a1 a2=N r→FC Z 228 [.ag (X1.row a0),.sc (.int .i64 a1),.sc (.sl (Y rI a2))] [.sc (.v (.bool r))]):=by
 refine⟨fun h=> ?_⟩;unfold ET at h;refine A4 mixed h0 [6] 20 ?_;exact gc
/- 229:impl_Ship_minutes -/
instance ZS:Ct 229 (∀{a0} {a1} {r},EU a0 a1=N r→FC Z 229 [.ag (X6.row a0),.ag (X2.row a1)] [.sc (.v (.int .i64 r))]):=by
 refine⟨fun h=> ?_⟩;unfold EU at h;refine A4 mixed h0 [4] 12 ?_;exact gc
/- 250:impl_onSegment -/
instance A8i:Ct 250 (∀{a0} {a1} {a2} {r},HI a0 a1 a2=N r→FC Z 250 [.ag (X1.row a0),.sc (.int .i64 a1),.ag (X6.row a2)] [.sc (.v (.bool r))]):=by
 refine⟨fun h=> ?_⟩;unfold HI at h;refine A4 mixed h0 [6] 20 ?_;exact gc
/- 281:impl_Ship_squat -/
instance A72:Ct 281 (∀{a0} {r},Pc a0=N r→FC Z 281 [.ag (X6.row a0)] [.sc (.v (.int .i64 r))]):=by
 refine⟨fun h=> ?_⟩;unfold Pc at h;refine A4 mixed h0 [2] 11 ?_;exact gc
/- 270:impl_Ship_need -/
instance A71:Ct 270 (∀{a0} {r},Pb a0=N r→FC Z 270 [.ag (X6.row a0)] [.sc (.v (.int .i64 r))]):=by
 refine⟨fun h=> ?_⟩;unfold Pb at h;refine A4 mixed h0 [2] 9 ?_;exact gc
/- 253:impl_LevelFor -/
instance A7j:Ct 253 (∀{a0} {a1} {a2} {r},Lq a0 a1 a2=N r→FC Z 253 [.ag (X1.row a0),.sc (.int .i64 a1),.ag (X6.row a2)] [.sc (.v (.int .i64 r))]):=by
 refine⟨fun h=> ?_⟩;unfold Lq at h;refine A4 mixed h0 [6] 21 ?_;exact gc
/- 267:impl_windowsOf -/
def Q6:Hw:=([(10,[0,3,4,5],[],[384]),(35,[0,3,4,5],[],[384]),(36,[0,3,4,5],[],[384])],[])
def cf:=fun F_a0 caps_a0 v2 (k_:V→(P X5)→Q (P X5))=>∀{v11 v12} {zr},k_ v11 v12=N zr→Kh Z 267 Q6 36 [0,3,4,5] [] [384] ⟨[(0,vc (.dat (.clo F_a0 caps_a0))),pW 3 384,(4,vc (aB v11)),pI 5 v2],[],[(384,2,Y X5.row v12)]⟩ (A7 [2] [.sc (.o 2 (Y X5.row zr))])
def ce:=fun F_a0 caps_a0 v2 (k_:(P X5)→Q (P X5))=>∀{v9} {zr},k_ v9=N zr→Kh Z 267 Q6 35 [0,3,4,5] [] [384] ⟨[(0,vc (.dat (.clo F_a0 caps_a0))),pW 3 384,(4,vc (aB T)),pI 5 v2],[],[(384,2,Y X5.row v9)]⟩ (A7 [2] [.sc (.o 2 (Y X5.row zr))])
def R6:=fun F_a0 caps_a0 (k_:V→U→(P X5)→Q (P X5))=>∀{v1 v2 v3} {zr},k_ v1 v2 v3=N zr→Kh Z 267 Q6 10 [0,3,4,5] [] [384] ⟨[(0,vc (.dat (.clo F_a0 caps_a0))),pW 3 384,(4,vc (aB v1)),pI 5 v2],[],[(384,2,Y X5.row v3)]⟩ (A7 [2] [.sc (.o 2 (Y X5.row zr))])
theorem aO{a0:U→Q V}{F_a0 caps_a0}(hF_a0:BS Z F_a0=T)(h_a0:∀z0 zr,a0 z0=N zr→FC Z F_a0 ([.sc (.int .i64 z0)]++caps_a0.map .sc) [.sc (.v (.bool zr))]){v2}{Fo}(WE:R6 F_a0 caps_a0 Fo):cf F_a0 caps_a0 v2 (HQ a0 v2 Fo):=by
 intro v11 v12 r h σ hσ;unfold HQ at h;have k0:= @WE;exact gc
theorem aP{a0:U→Q V}{F_a0 caps_a0}(hF_a0:BS Z F_a0=T)(h_a0:∀z0 zr,a0 z0=N zr→FC Z F_a0 ([.sc (.int .i64 z0)]++caps_a0.map .sc) [.sc (.v (.bool zr))]){v2}{Fo}(WE:R6 F_a0 caps_a0 Fo):ce F_a0 caps_a0 v2 (JR a0 v2 Fo):=by
 intro v9 r h σ hσ;unfold JR at h;have s0:=fun(x10:X5)=> @ED _ X5.row ((⟨x10.From,v2⟩:X5))
 have k0:= @aO;exact gc
theorem A2t{a0:U→Q V}{F_a0 caps_a0}(hF_a0:BS Z F_a0=T)(h_a0:∀z0 zr,a0 z0=N zr→FC Z F_a0 ([.sc (.int .i64 z0)]++caps_a0.map .sc) [.sc (.v (.bool zr))]){n:W}:R6 F_a0 caps_a0 (F1 a0 n):=by
 induction n with
 | zero=>intro _ _ _ r h; cases h
 | succ n ih=>
  intro v1 v2 v3 r h σ hσ S hS
  conv at hS=>rhs; reduce
  try simp only[zB,zA,Au,UInt8.reduceOfNat] at hS
  subst hS;rw[F1] at h;refine AZ (AF ?_);obtain⟨h4,h⟩|⟨h4,h⟩:=ic h
  ·obtain⟨r5,h5,h⟩:=ob h;try simp only[hσ,h4,C,E,F,G,H,J]
   refine nG (h_a0 _ _ h5) hF_a0 X X (Fg X) X (uf X) ?_;obtain⟨h6,h⟩|⟨h6,h⟩:=ic h
   ·obtain⟨h7,h⟩|⟨h7,h⟩:=ic h
    ·try simp only[h4,h6,h7,C,E,F,G,H,J]
     refine aP hF_a0 h_a0 ih h ?_ (by kernel_rfl);try simp only[h4,h6,h7,C,E,F,G,H,J,pL,aM,I]
    ·try simp only[h4,h6,h7,C,E,F,G,H,J]
     refine Bn (es:=Y X5.row ([(⟨v2,(0:U)⟩:X5)]:P X5)) ?_;obtain⟨h8,h⟩:=B5 h;try simp only[h4,h6,h7,h8,C,E,F,G,H,J]
     refine aP hF_a0 h_a0 ih h ?_ (by kernel_rfl);try simp only[h4,h6,h7,h8,C,E,F,G,H,J,pL,aM,I]
   ·try simp only[h4,h6,C,E,F,G,H,J]
    refine aO hF_a0 h_a0 ih h ?_ (by kernel_rfl);try simp only[h4,h6,C,E,F,G,H,J,pL,aM,I]
  ·try simp only[hσ,h4,C,E,F,G,H,J]
   cases h;exact t0
theorem xw{a0}{r}(F_a0:FuncId)(caps_a0:P D)(hF_a0:BS Z F_a0=T)(h_a0:∀z0 zr,a0 z0=N zr→FC Z F_a0 ([.sc (.int .i64 z0)]++caps_a0.map .sc) [.sc (.v (.bool zr))])(h:M0 a0=N r):FC Z 267 [.sc (.clo F_a0 caps_a0)] [.sc (.o 2 (Y X5.row r))]:=by
 unfold M0 at h;refine A4 mixed Q6 [2] 30 ?_;have s0:= @Ai (Y X5.row ([]:P X5));have k0:= @A2t;exact gc
/- 285:impl_Wave -/
instance A77:Ct 285 (∀{a0} {a1} {r},LI a0 a1=N r→FC Z 285 [.sc (.int .i64 a0),.sc (.int .i64 a1)] [.sc (.v (.int .i64 r))]):=by
 refine⟨fun h=> ?_⟩;unfold LI at h;refine A4 mixed h0 [4] 46 ?_;exact gc
/- 279:impl_Tide_level -/
def W2:Hw:=([(8,[1,5,11,12,13],[],[])],[])
def cC:=fun a1 (a0:Xl) (k_:U→U→Q U)=>∀{v1 v2} {zr},k_ v1 v2=N zr→Kh Z 279 W2 8 [1,5,11,12,13] [] [] ⟨[pI 1 a1,pI 5 v1,pL 11 zH a0.Parts,pI 12 (a0.Parts.length:U),pI 13 v2],[],[]⟩ (A7 [4] [.sc (.v (.int .i64 zr))])
theorem A2u{a1 a0}{n:W}:cC a1 a0 (HB a1 a0 n):=by
 induction n with
 | zero=>intro _ _ r h; cases h
 | succ n ih=>
  intro v1 v2 r h σ hσ;rw[HB] at h;exact gc
instance A76:Ct 279 (∀{a0} {a1} {r},Pe a0 a1=N r→FC Z 279 [.ag (Xl.row a0),.sc (.int .i64 a1)] [.sc (.v (.int .i64 r))]):=by
 refine⟨fun h=> ?_⟩;unfold Pe at h;refine A4 mixed W2 [4] 32 ?_;have k0:= @A2u;exact gc
/- 280:impl_Forecast_surge -/
def W3:Hw:=([(8,[1,5,9,10,11],[],[])],[])
def bd:=fun a1 (a0:Xd) (k_:U→U→Q U)=>∀{v1 v2} {zr},k_ v1 v2=N zr→Kh Z 280 W3 8 [1,5,9,10,11] [] [] ⟨[pI 1 a1,pI 5 v1,pL 9 zI a0.Surges,pI 10 (a0.Surges.length:U),pI 11 v2],[],[]⟩ (A7 [4] [.sc (.v (.int .i64 zr))])
theorem A2v{a1 a0}{n:W}:bd a1 a0 (ES a1 a0 n):=by
 induction n with
 | zero=>intro _ _ r h; cases h
 | succ n ih=>
  intro v1 v2 r h σ hσ;rw[ES] at h;exact gc
instance A7c:Ct 280 (∀{a0} {a1} {r},Lk a0 a1=N r→FC Z 280 [.ag (zL a0),.sc (.int .i64 a1)] [.sc (.v (.int .i64 r))]):=by
 refine⟨fun h=> ?_⟩;unfold Lk at h;refine A4 mixed W3 [4] 23 ?_;have k0:= @A2v;exact gc
/- 269:impl_Forecast_low -/
instance A7b:Ct 269 (∀{a0} {a1} {r},Lj a0 a1=N r→FC Z 269 [.ag (zL a0),.sc (.int .i64 a1)] [.sc (.v (.int .i64 r))]):=by
 refine⟨fun h=> ?_⟩;unfold Lj at h;refine A4 mixed h0 [4] 18 ?_;exact gc
/- 268:impl_LowWindows_1 -/
theorem A2w{a0}{c0}{c1}{r}(h:P9 a0 c0 c1=N r):FC Z 268 [.sc (.int .i64 a0),.sc (.pd (zL c0)),.sc (.pd (rI c1))] [.sc (.v (.bool r))]:=by
 unfold P9 at h;refine A4 mixed h0 [4] 10 ?_;exact gc
/- 252:impl_LowWindows -/
instance A7k:Ct 252 (∀{a0} {a1} {r},Lr a0 a1=N r→FC Z 252 [.ag (zL a0),.sc (.int .i64 a1)] [.sc (.o 2 (Y X5.row r))]):=by
 refine⟨fun{a0} {a1} {r} h=> ?_⟩;unfold Lr at h;refine A4 mixed h0 [4] 10 ?_;intro S hS
 conv at hS=>rhs; reduce
 try simp only[zB,zA,Au,UInt8.reduceOfNat] at hS
 subst hS;simp only[C,E,F,G,H,J];try simp only[C,E,F,G,H,J]
 refine C5 ?_;try simp only[C,E,F,G,H,J]
 refine C5 ?_;obtain⟨r1,h1,h⟩:=ob h;try simp only[C,E,F,G,H,J]
 refine AY (Aq xT h1) ?_;obtain⟨h2,h⟩|⟨h2,h⟩:=ic h
 ·obtain⟨r3,h3,h⟩:=ob h;try simp only[h2,C,E,F,G,H,J]
  refine Fh (xw 268 [.pd (zL a0),.pd (rI a1)] (by kernel_rfl) (fun z0 zr zh=>A2w zh) h3) X (Dr X ⟨Ds,⟨⟩⟩) X (uf X) ?_;try simp only[h2,C,E,F,G,H,J]
  cases h;exact t0
 ·try simp only[h2,C,E,F,G,H,J]
  cases h;exact t0
/- 254:impl_MinutesOn -/
instance A7l:Ct 254 (∀{a0} {a1} {a2} {r},Ls a0 a1 a2=N r→FC Z 254 [.ag (X1.row a0),.sc (.int .i64 a1),.ag (X6.row a2)] [.sc (.v (.int .i64 r))]):=by
 refine⟨fun h=> ?_⟩;unfold Ls at h;refine A4 mixed h0 [6] 30 ?_;exact gc
/- 255:impl_WindowsOk -/
def W4:Hw:=([(6,[0,5,6,7],[],[])],[])
def cD:=fun a0 (k_:U→Q V)=>∀{v1} {zr},k_ v1=N zr→Kh Z 255 W4 6 [0,5,6,7] [] [] ⟨[pL 0 X5.row a0,pL 5 X5.row a0,pI 6 (a0.length:U),pI 7 v1],[],[]⟩ (A7 [2] [.sc (.v (.bool zr))])
theorem A2x{a0}{n:W}:cD a0 (EW a0 n):=by
 induction n with
 | zero=>intro _ r h; cases h
 | succ n ih=>
  intro v1 r h σ hσ;rw[EW] at h;exact gc
instance A78:Ct 255 (∀{a0} {r},JH a0=N r→FC Z 255 [.sc (.sl (Y X5.row a0))] [.sc (.v (.bool r))]):=by
 refine⟨fun h=> ?_⟩;unfold JH at h;refine A4 mixed W4 [2] 44 ?_;have k0:= @A2x;exact gc
/- 251:impl_ShrinkWindows -/
def W5:Hw:=([(16,[1,5,17,18,19],[],[1024])],[])
def cA:=fun a1 a0 (k_:U→(P X5)→Q (P X5))=>∀{v5 v6} {zr},k_ v5 v6=N zr→Kh Z 251 W5 16 [1,5,17,18,19] [] [1024] ⟨[pI 1 a1,pW 5 1024,pL 17 X5.row a0,pI 18 (a0.length:U),pI 19 v5],[],[(1024,2,Y X5.row v6)]⟩ (A7 [4] [.sc (.o 2 (Y X5.row zr))])
theorem A2z{a1 a0}{n:W}:cA a1 a0 (EV a1 a0 n):=by
 induction n with
 | zero=>intro _ _ r h; cases h
 | succ n ih=>
  intro v5 v6 r h σ hσ;rw[EV] at h;have s0:=fun(x8:X5)=> @Ai (Y X5.row ([(⟨x8.From,(zM .i64 (x8.To - a1))⟩:X5)]:P X5))
  exact gc
instance A73:Ct 251 (∀{a0} {a1} {r},Pd a0 a1=N r→FC Z 251 [.sc (.sl (Y X5.row a0)),.sc (.int .i64 a1)] [.sc (.o 2 (Y X5.row r))]):=by
 refine⟨fun h=> ?_⟩;unfold Pd at h;refine A4 mixed W5 [4] 42 ?_;have s0:= @Ai (Y X5.row ([]:P X5));have k0:= @A2z;exact gc
/- 230:impl_SureStarts -/
instance xX:Ct 230 (∀{a0} {a1} {a2} {a3} {r},LF a0 a1 a2 a3=N r→FC Z 230 [.ag (zL a0),.ag (X1.row a1),.sc (.int .i64 a2),.ag (X6.row a3)] [.sc (.o 2 (Y X5.row r))]):=by
 refine⟨fun h=> ?_⟩;unfold LF at h;refine A4 mixed h0 [8] 30 ?_;exact gc
/- 206:impl_voyageOf -/
def Sg:Hw:=([(5,[3,4,5,6,7,10,34],[5,6,7,10],[]),(16,[4,5,6,7,10,12,43,44,45],[5,6,7,10,12],[140288,140352,140416])],[(11,3,(O,.ownb 12 0 140288 1)),(11,4,(O,.ownb 12 1 140352 1)),(11,5,(O,.ownb 12 2 140416 1)),(14,6,(O,.frz 2560))])
def cb:=fun a4 (a0:Xd) (a1:X1) (a2:X6) y11 y12 (k_:U→(P V)→(P U)→(P (P X5))→Q (Xk × V))=>∀{v13 v14 v15 v16} {zr},k_ v13 v14 v15 v16=N zr→Kh Z 206 Sg 16 [4,5,6,7,10,12,43,44,45] [5,6,7,10,12] [140288,140352,140416] ⟨[pL 4 rI a4,pB 5,pB 6,pB 7,pB 10,pB 12,pL 43 rI y11,pI 44 y12,pI 45 v13],[(5,[aI a0.Tide.Mean,aM zH a0.Tide.Parts,aM zI a0.Surges]),(6,[aM X7.row a1.Points,aM X2.row a1.Segments]),(7,(dm a2.row)),(10,[.nil,.nil,.nil]),(12,[.own 140288,.own 140352,.own 140416])],[(140288,1,Y rB v14),(140352,1,Y rI v15),(140416,1,Y (rL X5.row) v16)]⟩ (A7 [.c 10 T 3,11] [.ag [.o 1 (Y rB zr.1.waits),.o 1 (Y rI zr.1.minutes),.o 1 (Y (rL X5.row) zr.1.sure)],.sc (.v (.bool zr.2))])
def cZ:=fun a3 a4 (a0:Xd) (a1:X1) (a2:X6) (k_:V→Q (Xk × V))=>∀{v7} {zr},k_ v7=N zr→Kh Z 206 Sg 5 [3,4,5,6,7,10,34] [5,6,7,10] [] ⟨[pI 3 a3,pL 4 rI a4,pB 5,pB 6,pB 7,pB 10,(34,vc (aB v7))],[(5,[aI a0.Tide.Mean,aM zH a0.Tide.Parts,aM zI a0.Surges]),(6,[aM X7.row a1.Points,aM X2.row a1.Segments]),(7,(dm a2.row)),(10,[.nil,.nil,.nil])],[]⟩ (A7 [.c 10 T 3,11] [.ag [.o 1 (Y rB zr.1.waits),.o 1 (Y rI zr.1.minutes),.o 1 (Y (rL X5.row) zr.1.sure)],.sc (.v (.bool zr.2))])
theorem A20{a4 a0 a1 a2 y11 y12}{n:W}:cb a4 a0 a1 a2 y11 y12 (HO a4 a0 a1 a2 y11 y12 n):=by
 induction n with
 | zero=>intro _ _ _ _ r h; cases h
 | succ n ih=>
  intro v13 v14 v15 v16 r h σ hσ S hS
  conv at hS=>rhs; reduce
  try simp only[zB,zA,Au,UInt8.reduceOfNat] at hS
  subst hS;rw[HO] at h;refine AZ (AF ?_);obtain⟨h17,h⟩|⟨h17,h⟩:=ic h
  ·obtain⟨x18,h18,h⟩:=ob h;try simp only[hσ,h17,h18,C,E,F,G,H,J]
   refine At ?_;obtain⟨x19,h19,h⟩:=ob h;try simp only[h17,h18,h19,C,E,F,G,H,J]
   refine Bn (es:=Y rB ([x19.Wait]:P V)) ?_;obtain⟨h20,h⟩:=B5 h;try simp only[h17,h18,h19,h20,C,E,F,G,H,J]
   refine At ?_;try simp only[h17,h18,h19,h20,C,E,F,G,H,J]
   refine At ?_;try simp only[h17,h18,h19,h20,C,E,F,G,H,J]
   refine At ?_;obtain⟨x21,h21,h⟩:=ob h;obtain⟨x22,h22,h⟩:=ob h;obtain⟨r23,h23,h⟩:=ob h;try simp only[h17,h18,h19,h20,h21,h22,C,E,F,G,H,J]
   refine Cg (Aq ZS h23) ?_;try simp only[h17,h18,h19,h20,h21,h22,C,E,F,G,H,J]
   refine Bn (es:=Y rI ([r23]:P U)) ?_;obtain⟨h24,h⟩:=B5 h;try simp only[h17,h18,h19,h20,h21,h22,h24,C,E,F,G,H,J]
   refine At ?_;try simp only[h17,h18,h19,h20,h21,h22,h24,C,E,F,G,H,J]
   refine At ?_;try simp only[h17,h18,h19,h20,h21,h22,h24,C,E,F,G,H,J]
   refine At ?_;obtain⟨r25,h25,h⟩:=ob h;try simp only[h17,h18,h19,h20,h21,h22,h24,C,E,F,G,H,J]
   refine Cg (FC.asV (rs':= [.sc (.v (.sl (Y X5.row r25)))]) (Aq xX h25) X) ?_;try simp only[h17,h18,h19,h20,h21,h22,h24,C,E,F,G,H,J]
   refine Bn (es:=Y (rL X5.row) ([r25]:P (P X5))) ?_;obtain⟨h26,h⟩:=B5 h;try simp only[h17,h18,h19,h20,h21,h22,h24,h26,C,E,F,G,H,J]
   refine At ?_;try simp only[h17,h18,h19,h20,h21,h22,h24,h26,C,E,F,G,H,J]
   refine At ?_;try simp only[h17,h18,h19,h20,h21,h22,h24,h26,C,E,F,G,H,J]
   refine ih h ?_ (by kernel_rfl);try simp only[h17,h18,h19,h20,h21,h22,h24,h26,C,E,F,G,H,J,pL,aM,I]
  ·try simp only[hσ,h17,C,E,F,G,H,J]
   cases h;try simp only[Ol,C,E,F,G,H,J]
   trivial
theorem A21{a3 a4 a0 a1 a2}:cZ a3 a4 a0 a1 a2 (HN a3 a4 a0 a1 a2):=by
 intro v7 r h σ hσ S hS
 conv at hS=>rhs; reduce
 try simp only[zB,zA,Au,UInt8.reduceOfNat] at hS
 subst hS;refine AF ?_;unfold HN at h;obtain⟨h8,h⟩|⟨h8,h⟩:=ic h
 ·try simp only[hσ,h8,C,E,F,G,H,J]
  cases h;try simp only[Ol,C,E,F,G,H,J]
  trivial
 ·try simp only[hσ,h8,C,E,F,G,H,J]
  refine Cd ?_;try simp only[h8,C,E,F,G,H,J]
  refine Fi (cs':= [.own 140288,.nil,.nil]) X X X X ?_;try simp only[h8,C,E,F,G,H,J]
  refine Fi (cs':= [.own 140288,.own 140352,.nil]) X X X X ?_;try simp only[h8,C,E,F,G,H,J]
  refine Fi (cs':= [.own 140288,.own 140352,.own 140416]) X X X X ?_;obtain⟨r9,h9,h⟩:=ob h;try simp only[h8,C,E,F,G,H,J]
  refine AY (Aq ZQ h9) ?_;try simp only[h8,C,E,F,G,H,J]
  refine CF ?_;obtain⟨p10,h10,h⟩:=ob h;try simp only[h8,h10,C,E,F,G,H,J]
  refine A20 h ?_ (by kernel_rfl);try simp only[h8,h10,C,E,F,G,H,J,pL,aM,I]
instance A8l:Ct 206 (∀{a0} {a1} {a2} {a3} {a4} {r},HM a0 a1 a2 a3 a4=N r→FC Z 206 [.ag (zL a0),.ag (X1.row a1),.ag (X6.row a2),.sc (.int .i64 a3),.sc (.sl (Y rI a4))] [.ag [.o 1 (Y rB r.1.waits),.o 1 (Y rI r.1.minutes),.o 1 (Y (rL X5.row) r.1.sure)],.sc (.v (.bool r.2))]):=by
 refine⟨fun h=> ?_⟩;unfold HM at h;refine A4 mixed Sg [.c 10 T 3,11] 91 ?_;have k0:= @A21;exact gc
/- 177:impl_callVoyage -/
def W6:Hw:=([(7,[2,3,4,6,28],[3,4,6],[])],[])
def cF:=fun a2 (a0:X4) (a1:Xb) (k_:V→Q (Xk × V))=>∀{v4} {zr},k_ v4=N zr→Kh Z 177 W6 7 [2,3,4,6,28] [3,4,6] [] ⟨[pL 2 rI a2,pB 3,pB 4,pB 6,(28,vc (aB v4))],[(3,([aI a0.Forecast.Tide.Mean,aM zH a0.Forecast.Tide.Parts,aM zI a0.Forecast.Surges,aM X7.row a0.Chart.Points,aM X2.row a0.Chart.Segments,aM X6.row a0.Fleet,aI a0.Regime.Gap,aB a0.Regime.NoMeet]++dm a0.Crew.row)),(4,(dm a1.row)),(6,[.nil,.nil,.nil])],[]⟩ (A7 [.c 6 T 3,7] [.ag [.o 1 (Y rB zr.1.waits),.o 1 (Y rI zr.1.minutes),.o 1 (Y (rL X5.row) zr.1.sure)],.sc (.v (.bool zr.2))])
theorem aQ{a2 a0 a1}:cF a2 a0 a1 (JJ a2 a0 a1):=by
 intro v4 r h σ hσ;unfold JJ at h;exact gc
instance A8a:Ct 177 (∀{a0} {a1} {a2} {r},HD a0 a1 a2=N r→FC Z 177 [.ag (X4.row a0),.ag (zD a1),.sc (.sl (Y rI a2))] [.ag [.o 1 (Y rB r.1.waits),.o 1 (Y rI r.1.minutes),.o 1 (Y (rL X5.row) r.1.sure)],.sc (.v (.bool r.2))]):=by
 refine⟨fun{a0} {a1} {a2} {r} h=> ?_⟩;unfold HD at h;refine A4 mixed W6 [.c 6 T 3,7] 46 ?_;intro S hS
 conv at hS=>rhs; reduce
 try simp only[zB,zA,Au,UInt8.reduceOfNat] at hS
 subst hS;simp only[C,E,F,G,H,J];try simp only[C,E,F,G,H,J]
 refine C5 ?_;try simp only[C,E,F,G,H,J]
 refine C5 ?_;try simp only[C,E,F,G,H,J]
 refine Cd ?_;obtain⟨r1,h1,h⟩:=ob h;try simp only[C,E,F,G,H,J]
 refine AY (Aq ZQ h1) ?_;try simp only[C,E,F,G,H,J]
 refine At ?_;obtain⟨h2,h⟩|⟨h2,h⟩:=ic h
 ·try simp only[h2,C,E,F,G,H,J]
  refine aQ h ?_ (by kernel_rfl);try simp only[h2,C,E,F,G,H,J,pL,aM,I]
 ·obtain⟨x3,h3,h⟩:=ob h;have h3n:=B7 h3;try simp only[h2,h3,h3n,C,E,F,G,H,J]
  refine aQ h ?_ (by kernel_rfl);try simp only[h2,h3,h3n,C,E,F,G,H,J,pL,aM,I]
/- 231:impl_HasMinute -/
def W7:Hw:=([(6,[1,7,8,9],[],[])],[])
def bf:=fun a1 a0 (k_:U→Q V)=>∀{v1} {zr},k_ v1=N zr→Kh Z 231 W7 6 [1,7,8,9] [] [] ⟨[pI 1 a1,pL 7 X5.row a0,pI 8 (a0.length:U),pI 9 v1],[],[]⟩ (A7 [4] [.sc (.v (.bool zr))])
theorem A22{a1 a0}{n:W}:bf a1 a0 (Hq a1 a0 n):=by
 induction n with
 | zero=>intro _ r h; cases h
 | succ n ih=>
  intro v1 r h σ hσ;rw[Hq] at h;exact gc
instance A7f:Ct 231 (∀{a0} {a1} {r},Ll a0 a1=N r→FC Z 231 [.sc (.sl (Y X5.row a0)),.sc (.int .i64 a1)] [.sc (.v (.bool r))]):=by
 refine⟨fun h=> ?_⟩;unfold Ll at h;refine A4 mixed W7 [4] 20 ?_;have k0:= @A22;exact gc
/- 232:impl_NextMinute -/
def W8:Hw:=([(14,[1,10,11,12],[],[])],[])
def bj:=fun a1 a0 (k_:U→Q U)=>∀{v3} {zr},k_ v3=N zr→Kh Z 232 W8 14 [1,10,11,12] [] [] ⟨[pI 1 a1,pL 10 X5.row a0,pI 11 (a0.length:U),pI 12 v3],[],[]⟩ (A7 [4] [.sc (.v (.int .i64 zr))])
theorem A23{a1 a0}{n:W}:bj a1 a0 (Hr a1 a0 n):=by
 induction n with
 | zero=>intro _ r h; cases h
 | succ n ih=>
  intro v3 r h σ hσ;rw[Hr] at h;exact gc
instance xU:Ct 232 (∀{a0} {a1} {r},Lt a0 a1=N r→FC Z 232 [.sc (.sl (Y X5.row a0)),.sc (.int .i64 a1)] [.sc (.v (.int .i64 r))]):=by
 refine⟨fun h=> ?_⟩;unfold Lt at h;refine A4 mixed W8 [4] 25 ?_;have k0:= @A23;exact gc
/- 207:impl_voyage_sail -/
def Sh:Hw:=([(16,[2,6,7],[2],[1152]),(32,[2,6,7,9,59],[2],[1152])],[])
def cd:=fun v4 r10 (a0:Xk) v5 (k_:V→Q ((P U) × V))=>∀{v14} {zr},k_ v14=N zr→Kh Z 207 Sh 32 [2,6,7,9,59] [2] [1152] ⟨[pB 2,pW 6 1152,pI 7 v4,pI 9 r10,(59,vc (aB v14))],[(2,(dm a0.row))],[(1152,1,Y rI v5)]⟩ (A7 [4,5] [.sc (.o 1 (Y rI zr.1)),.sc (.v (.bool zr.2))])
def TL:=fun(a0:Xk) (k_:U→(P U)→Q ((P U) × V))=>∀{v4 v5} {zr},k_ v4 v5=N zr→Kh Z 207 Sh 16 [2,6,7] [2] [1152] ⟨[pB 2,pW 6 1152,pI 7 v4],[(2,(dm a0.row))],[(1152,1,Y rI v5)]⟩ (A7 [4,5] [.sc (.o 1 (Y rI zr.1)),.sc (.v (.bool zr.2))])
theorem Tj{v4 r10 a0 v5}{Qp}(ou:TL a0 Qp):cd v4 r10 a0 v5 (HP v4 r10 a0 v5 Qp):=by
 intro v14 r h σ hσ;unfold HP at h;have s0:= @Ai (Y rI ([r10]:P U));have k0:= @ou;exact gc
theorem A24{a0}{n:W}:TL a0 (Eg a0 n):=by
 induction n with
 | zero=>intro _ _ r h; cases h
 | succ n ih=>
  intro v4 v5 r h σ hσ S hS
  conv at hS=>rhs; reduce
  try simp only[zB,zA,Au,UInt8.reduceOfNat] at hS
  subst hS;rw[Eg] at h;refine AZ (AF ?_);obtain⟨h6,h⟩|⟨h6,h⟩:=ic h
  ·try simp only[hσ,h6,C,E,F,G,H,J]
   refine At ?_;obtain⟨x7,h7,h⟩:=ob h;have h7n:=B7 h7;obtain⟨x8,h8,h⟩:=ob h;obtain⟨x9,h9,h⟩:=ob h;obtain⟨r10,h10,h⟩:=ob h;try simp only[h6,h7,h7n,h8,h9,C,E,F,G,H,J]
   refine AY (Aq xU h10) ?_;obtain⟨h11,h⟩|⟨h11,h⟩:=ic h
   ·try simp only[h6,h7,h7n,h8,h9,h11,C,E,F,G,H,J]
    refine Tj ih h ?_ (by kernel_rfl);try simp only[h6,h7,h7n,h8,h9,h11,C,E,F,G,H,J,pL,aM,I]
   ·obtain⟨h12,h⟩|⟨h12,h⟩:=ic h
    ·obtain⟨x13,h13,h⟩:=ob h;try simp only[h6,h7,h7n,h8,h9,h11,h12,h13,C,E,F,G,H,J]
     refine Tj ih h ?_ (by kernel_rfl);try simp only[h6,h7,h7n,h8,h9,h11,h12,h13,C,E,F,G,H,J,pL,aM,I]
    ·try simp only[h6,h7,h7n,h8,h9,h11,h12,C,E,F,G,H,J]
     refine Tj ih h ?_ (by kernel_rfl);try simp only[h6,h7,h7n,h8,h9,h11,h12,C,E,F,G,H,J,pL,aM,I]
  ·try simp only[hσ,h6,C,E,F,G,H,J]
   cases h;trivial
instance A8m:Ct 207 (∀{a0} {a1} {r},LY a0 a1=N r→FC Z 207 [.ag (Xk.row a0),.sc (.int .i64 a1)] [.sc (.o 1 (Y rI r.1)),.sc (.v (.bool r.2))]):=by
 refine⟨fun{a0} {a1} {r} h=> ?_⟩;unfold LY at h;refine A4 mixed Sh [4,5] 65 ?_;have s0:= @Ai (Y rI ([a1]:P U));have k0:= @A24;exact gc
/- 208:impl_PassagesOf -/
def W9:Hw:=([(18,[1,5,6,8,13,14,40,41,42],[6,8],[2432,2496])],[])
def bp:=fun a1 a5 a4 (a0:X1) (a2:X6) r6 (k_:U→(P X3)→Q (P X3))=>∀{v7 v8} {zr},k_ v7 v8=N zr→Kh Z 208 W9 18 [1,5,6,8,13,14,40,41,42] [6,8] [2432,2496] ⟨[pI 1 a1,pL 5 rI a5,pB 6,pB 8,pW 13 2432,pW 14 2496,pL 40 rI a4,pI 41 (a4.length:U),pI 42 v7],[(6,[aM X7.row a0.Points,aM X2.row a0.Segments]),(8,(dm a2.row))],[(2432,1,Y rI r6),(2496,5,Y X3.row v8)]⟩ (A7 [12] [.sc (.o 5 (Y X3.row zr))])
theorem A25{a1 a5 a4 a0 a2 r6}{n:W}:bp a1 a5 a4 a0 a2 r6 (Hu a1 a5 a4 a0 a2 r6 n):=by
 induction n with
 | zero=>intro _ _ r h; cases h
 | succ n ih=>
  intro v7 v8 r h σ hσ S hS
  conv at hS=>rhs; reduce
  try simp only[zB,zA,Au,UInt8.reduceOfNat] at hS
  subst hS;rw[Hu] at h;refine AZ (AF ?_);obtain⟨h9,h⟩|⟨h9,h⟩:=ic h
  ·obtain⟨x10,h10,h⟩:=ob h;obtain⟨x11,h11,h⟩:=ob h;obtain⟨r12,h12,h⟩:=ob h;try simp only[hσ,h9,h10,h11,C,E,F,G,H,J]
   refine AY (Aq xh h12) ?_;obtain⟨h13,h⟩|⟨h13,h⟩:=ic h
   ·obtain⟨x14,h14,h⟩:=ob h;try simp only[h9,h10,h11,h13,h14,C,E,F,G,H,J]
    refine Cd ?_;try simp only[h9,h10,h11,h13,h14,C,E,F,G,H,J]
    refine At ?_;obtain⟨x15,h15,h⟩:=ob h;have h15n:=B7 h15;obtain⟨r16,h16,h⟩:=ob h;try simp only[h9,h10,h11,h13,h14,h15,h15n,C,E,F,G,H,J]
    refine Cg (Aq ZS h16) ?_;try simp only[h9,h10,h11,h13,h14,h15,h15n,C,E,F,G,H,J]
    refine Bn (es:=Y X3.row ([(⟨a1,x10,(x15==x14.A),x11,(zM .i64 (x11+r16))⟩:X3)]:P X3)) ?_;obtain⟨h17,h⟩:=B5 h;try simp only[h9,h10,h11,h13,h14,h15,h15n,h17,C,E,F,G,H,J]
    refine At ?_;try simp only[h9,h10,h11,h13,h14,h15,h15n,h17,C,E,F,G,H,J]
    refine ih h ?_ (by kernel_rfl);try simp only[h9,h10,h11,h13,h14,h15,h15n,h17,C,E,F,G,H,J,pL,aM,I]
   ·try simp only[h9,h10,h11,h13,C,E,F,G,H,J]
    cases h;exact t0
  ·try simp only[hσ,h9,C,E,F,G,H,J]
   cases h;exact t0
instance A7r:Ct 208 (∀{a0} {a1} {a2} {a3} {a4} {a5} {r},Lw a0 a1 a2 a3 a4 a5=N r→FC Z 208 [.ag (X1.row a0),.sc (.int .i64 a1),.ag (X6.row a2),.sc (.int .i64 a3),.sc (.sl (Y rI a4)),.sc (.sl (Y rI a5))] [.sc (.o 5 (Y X3.row r))]):=by
 refine⟨fun h=> ?_⟩;unfold Lw at h;refine A4 mixed W9 [12] 85 ?_;have s0:= @Ai (Y X3.row ([]:P X3));have k0:= @A25;exact gc
/- 209:impl_ArrivalOf -/
instance A61:Ct 209 (∀{a0} {a1} {a2} {a3} {r},Ld a0 a1 a2 a3=N r→FC Z 209 [.ag (X1.row a0),.ag (X6.row a1),.sc (.sl (Y rI a2)),.sc (.sl (Y rI a3))] [.sc (.v (.int .i64 r))]):=by
 refine⟨fun h=> ?_⟩;unfold Ld at h;refine A4 mixed h0 [8] 55 ?_;exact gc
/- 178:impl_option -/
def bE:P (P W × AItem):= [([],(O,.load 72 (S 16) T 4)),([],(O,.faddr 73 (S 16) 1)),([1],(O,.load 74 (S 73) L 1)),([2],(O,.bin 75 .leq (S 74) (K 2880))),([0,0],(O,.store (S 10) (S 72) 4)),([3,4,0,1,2,3,4],(O,.mv 11 (S 75)))]
def Wa:Hw:=([(24,[10,16,60,61,62],[10,16],[2752])],[])
abbrev J4(a4 r5 v7:U)(c0_ c1_:V)(c2_ c3_ c5_:V)(bx_:P (W × P AC))(rs_:Rows):St:=⟨[(10,vc (.pb 10 0)),(16,vc (.pb 16 0)),(72,bif c0_ then va [aI a4,aI r5,aI v7,.own 2752] else .undef),(73,bif c1_ then vc (.pb 16 1) else .undef),(74,bif c2_ then vc (aI r5) else .undef),(75,bif c3_ then vc (aB (decide (r5≤(2880:U)))) else .undef),(11,bif c5_ then vc (aB (decide (r5≤(2880:U)))) else .undef)],bx_,rs_⟩
abbrev QR(a4 r5:U)(r4:(P X3))(v7:U):St:=(J4 a4 r5 v7 T T T T T [(10,[aI a4,aI r5,aI v7,.own 2752]),(16,[aI a4,aI r5,aI v7,.own 2752])] [(2752,5,Y X3.row r4)])
theorem A26(a4 r5 r4 v7):∀(f:W) (b1 b2:V) (b3 b5:V),Ab Z bE (QR a4 r5 r4 v7) f [T,b1,b2,b3,T,b5] (J4 a4 r5 v7 T b1 b2 b3 b5 [(10,[aI a4,aI r5,aI v7,.own 2752]),(16,[aI a4,aI r5,aI v7,.own 2752])] [(2752,5,Y X3.row r4)]):=by
 intro f
 induction f with
 | zero=>
  intro b1 b2 b3 b5 h;obtain rfl:b1=T:=zG.1 h b1 (by simp);obtain rfl:b2=T:=zG.1 h b2 (by simp);obtain rfl:b3=T:=zG.1 h b3 (by simp);obtain rfl:b5=T:=zG.1 h b5 (by simp);rfl
 | succ f ih=>
  intro b1 b2 b3 b5;refine Ad ⟨?_,?_,?_,?_,?_,?_,⟨⟩⟩<;>try first | (intro h; cases h; done) | (intro h0 hw; obtain rfl:=hz h0 rfl; (try obtain rfl:=hq hw 1 rfl rfl); (try obtain rfl:=hq hw 2 rfl rfl); (try obtain rfl:=hq hw 3 rfl rfl); refine np ?_; simp only[J4,A5,A6,A1,C,E,F,G,H,J]; exact ih _ _ _ _)
theorem A27(a4 r5 r4 v7):∀(f:W) (b0 b1:V) (b2 b3:V),Ab Z bE (QR a4 r5 r4 v7) f [b0,b1,b2,b3,L,L] (J4 a4 r5 v7 b0 b1 b2 b3 L [(10,[aI (0:U),aI (0:U),aI (0:U),.nil]),(16,[aI a4,aI r5,aI v7,.own 2752])] [(2752,5,Y X3.row r4)]):=by
 intro f
 induction f with
 | zero=>intro b0 b1 b2 b3 h; simp at h
 | succ f ih=>
  intro b0 b1 b2 b3;refine Ad ⟨?_,?_,?_,?_,?_,?_,⟨⟩⟩<;>try first | (intro _ hw; simp at hw; done) | (intro h0 hw; obtain rfl:=hz h0 rfl; (try obtain rfl:=hq hw 1 rfl rfl); (try obtain rfl:=hq hw 2 rfl rfl); refine np ?_; simp only[J4,A5,A6,A1,C,E,F,G,H,J]; exact ih _ _ _ _)
  ·intro h0 hw;obtain rfl:=hq hw 0 rfl rfl;refine np ?_;try simp only[J4,A5,A6,A1,C,E,F,G,H,J]
   exact A26 a4 r5 r4 v7 _ b1 b2 b3 L
def cT:=fun(a2:Xk) a4 r5 r4 (k_:U→U→Q (X0 × V))=>∀{v6 v7} {zr},k_ v6 v7=N zr→Kh Z 178 Wa 24 [10,16,60,61,62] [10,16] [2752] ⟨[pB 10,pB 16,pL 60 rI a2.minutes,pI 61 (a2.minutes.length:U),pI 62 v6],[(10,[aI (0:U),aI (0:U),aI (0:U),.nil]),(16,[aI a4,aI r5,aI v7,.own 2752])],[(2752,5,Y X3.row r4)]⟩ (A7 [.c 10 T 4,11] [.ag [.v (.int .i64 zr.1.Start),.v (.int .i64 zr.1.Arrival),.v (.int .i64 zr.1.Cost),.o 5 (Y X3.row zr.1.Passages)],.sc (.v (.bool zr.2))])
theorem A28{a2 a4 r5 r4}{n:W}:cT a2 a4 r5 r4 (G5 a2 a4 r5 r4 n):=by
 induction n with
 | zero=>intro _ _ r h; cases h
 | succ n ih=>
  intro v6 v7 r h σ hσ S hS
  conv at hS=>rhs; reduce
  try simp only[zB,zA,Au,UInt8.reduceOfNat] at hS
  subst hS;rw[G5] at h;refine AZ (AF ?_);obtain⟨h8,h⟩|⟨h8,h⟩:=ic h
  ·obtain⟨x9,h9,h⟩:=ob h;try simp only[hσ,h8,h9,C,E,F,G,H,J]
   refine ih h ?_ (by kernel_rfl);try simp only[h8,h9,C,E,F,G,H,J,pL,aM,I]
  ·try simp only[hσ,h8,C,E,F,G,H,J]
   refine DS (ks:= [10,16]) (bs:= [10,16]) (rs:= [2752]) (τ:=(QR a4 r5 r4 v7)) X (A27 a4 r5 r4 v7 _ L L L L) ?_;simp only[QR,J4,A5];try simp only[h8,C,E,F,G,H,J]
   cases h;try simp only[Ol,C,E,F,G,H,J]
   trivial
instance xk:Ct 178 (∀{a0} {a1} {a2} {a3} {a4} {r},HJ a0 a1 a2 a3 a4=N r→FC Z 178 [.ag (X4.row a0),.ag (zD a1),.ag (Xk.row a2),.sc (.sl (Y rI a3)),.sc (.int .i64 a4)] [.ag [.v (.int .i64 r.1.Start),.v (.int .i64 r.1.Arrival),.v (.int .i64 r.1.Cost),.o 5 (Y X3.row r.1.Passages)],.sc (.v (.bool r.2))]):=by
 refine⟨fun h=> ?_⟩;unfold HJ at h;refine A4 mixed Wa [.c 10 T 4,11] 76 ?_;have k0:= @A28;exact gc
/- 145:impl_OptionsOf -/
def Si:Hw:=([(28,[2,3,5,7,9,10],[2,3,7],[1984,1985,1986,2560]),(44,[2,3,5,7,9,10],[2,3,7],[1984,1985,1986,2560])],[(42,2,(O,.frz 3843))])
def bl:=fun(r3:(P U) × V) v7 (a0:X4) (a1:Xb) (r4:Xk × V) (k_:(P X0)→Q (P X0))=>∀{v14} {zr},k_ v14=N zr→Kh Z 145 Si 44 [2,3,5,7,9,10] [2,3,7] [1984,1985,1986,2560] ⟨[pB 2,pB 3,pL 5 rI r3.1,pB 7,pW 9 2560,pI 10 v7],[(2,([aI a0.Forecast.Tide.Mean,aM zH a0.Forecast.Tide.Parts,aM zI a0.Forecast.Surges,aM X7.row a0.Chart.Points,aM X2.row a0.Chart.Segments,aM X6.row a0.Fleet,aI a0.Regime.Gap,aB a0.Regime.NoMeet]++dm a0.Crew.row)),(3,(dm a1.row)),(7,[.own 1984,.own 1985,.own 1986])],[(1984,1,Y rB r4.1.waits),(1985,1,Y rI r4.1.minutes),(1986,1,Y (rL X5.row) r4.1.sure),(2560,4,Y X0.row v14)]⟩ (A7 [4] [.sc (.o 4 (Y X0.row zr))])
def TC:=fun(r3:(P U) × V) (a0:X4) (a1:Xb) (r4:Xk × V) (k_:U→(P X0)→Q (P X0))=>∀{v7 v8} {zr},k_ v7 v8=N zr→Kh Z 145 Si 28 [2,3,5,7,9,10] [2,3,7] [1984,1985,1986,2560] ⟨[pB 2,pB 3,pL 5 rI r3.1,pB 7,pW 9 2560,pI 10 v7],[(2,([aI a0.Forecast.Tide.Mean,aM zH a0.Forecast.Tide.Parts,aM zI a0.Forecast.Surges,aM X7.row a0.Chart.Points,aM X2.row a0.Chart.Segments,aM X6.row a0.Fleet,aI a0.Regime.Gap,aB a0.Regime.NoMeet]++dm a0.Crew.row)),(3,(dm a1.row)),(7,[.own 1984,.own 1985,.own 1986])],[(1984,1,Y rB r4.1.waits),(1985,1,Y rI r4.1.minutes),(1986,1,Y (rL X5.row) r4.1.sure),(2560,4,Y X0.row v8)]⟩ (A7 [4] [.sc (.o 4 (Y X0.row zr))])
theorem aR{r3 v7 a0 a1 r4}{Qn}(oh:TC r3 a0 a1 r4 Qn):bl r3 v7 a0 a1 r4 (JC r3 v7 a0 a1 r4 Qn):=by
 intro v14 r h σ hσ;unfold JC at h;have k0:= @oh;exact gc
theorem A3a{r3 a0 a1 r4}{n:W}:TC r3 a0 a1 r4 (FU r3 a0 a1 r4 n):=by
 induction n with
 | zero=>intro _ _ r h; cases h
 | succ n ih=>
  intro v7 v8 r h σ hσ S hS
  conv at hS=>rhs; reduce
  try simp only[zB,zA,Au,UInt8.reduceOfNat] at hS
  subst hS;rw[FU] at h;refine AZ (AF ?_);obtain⟨h9,h⟩|⟨h9,h⟩:=ic h
  ·obtain⟨h10,h⟩|⟨h10,h⟩:=ic h
   ·obtain⟨r11,h11,h⟩:=ob h;try simp only[hσ,h9,h10,C,E,F,G,H,J]
    refine Fh (Aq xk h11) X (Dr X ⟨X,X,X,Ds,X,⟨⟩⟩) X (uf X) ?_;try simp only[h9,h10,C,E,F,G,H,J]
    refine Cd ?_;obtain⟨h12,h⟩|⟨h12,h⟩:=ic h
    ·try simp only[h9,h10,h12,C,E,F,G,H,J]
     refine CF ?_;try simp only[h9,h10,h12,C,E,F,G,H,J]
     refine Bn (es:=Y X0.row ([r11.1]:P X0)) ?_;obtain⟨h13,h⟩:=B5 h;try simp only[h9,h10,h12,h13,C,E,F,G,H,J]
     refine aR ih h ?_ (by kernel_rfl);try simp only[h9,h10,h12,h13,C,E,F,G,H,J,pL,aM,I]
    ·try simp only[h9,h10,h12,C,E,F,G,H,J]
     refine aR ih h ?_ (by kernel_rfl);try simp only[h9,h10,h12,C,E,F,G,H,J,pL,aM,I]
   ·try simp only[hσ,h9,h10,C,E,F,G,H,J]
    cases h;exact t0
  ·try simp only[hσ,h9,C,E,F,G,H,J]
   cases h;exact t0
instance A7m:Ct 145 (∀{a0} {a1} {r},Ht a0 a1=N r→FC Z 145 [.ag (X4.row a0),.ag (zD a1)] [.sc (.o 4 (Y X0.row r))]):=by
 refine⟨fun h=> ?_⟩;unfold Ht at h;refine A4 mixed Si [4] 69 ?_;have s0:= @Ai (Y X0.row ([]:P X0));have k0:= @A3a;exact gc
/- 187:impl_allOptions -/
def Wb:Hw:=([(8,[2,5,9,10,11],[2],[512])],[(19,4,(O,.frz 1152))])
def cE:=fun a1 (a0:X4) (k_:U→(P (P X0))→Q (P (P X0)))=>∀{v1 v2} {zr},k_ v1 v2=N zr→Kh Z 187 Wb 8 [2,5,9,10,11] [2] [512] ⟨[pB 2,pW 5 512,pL 9 zD a1,pI 10 (a1.length:U),pI 11 v1],[(2,([aI a0.Forecast.Tide.Mean,aM zH a0.Forecast.Tide.Parts,aM zI a0.Forecast.Surges,aM X7.row a0.Chart.Points,aM X2.row a0.Chart.Segments,aM X6.row a0.Fleet,aI a0.Regime.Gap,aB a0.Regime.NoMeet]++dm a0.Crew.row))],[(512,1,Y (rL X0.row) v2)]⟩ (A7 [4] [.sc (.o 1 (Y (rL X0.row) zr))])
theorem A3b{a1 a0}{n:W}:cE a1 a0 (HC a1 a0 n):=by
 induction n with
 | zero=>intro _ _ r h; cases h
 | succ n ih=>
  intro v1 v2 r h σ hσ;rw[HC] at h;have s0:=fun(r5:(P X0))=> @Ai (Y (rL X0.row) ([r5]:P (P X0)))
  exact gc
instance xY:Ct 187 (∀{a0} {a1} {r},Pf a0 a1=N r→FC Z 187 [.ag (X4.row a0),.sc (.sl (Y zD a1))] [.sc (.o 1 (Y (rL X0.row) r))]):=by
 refine⟨fun h=> ?_⟩;unfold Pf at h;refine A4 mixed Wb [4] 23 ?_;have s0:= @Ai (Y (rL X0.row) ([]:P (P X0)));have k0:= @A3b;exact gc
/- 182:impl_weight_less -/
instance xv:Ct 182 (∀{a0} {a1} {r},LZ a0 a1=N r→FC Z 182 [.ag (Xj.row a0),.ag (Xj.row a1)] [.sc (.v (.bool r))]):=by
 refine⟨fun h=> ?_⟩;unfold LZ at h;refine A4 mixed h0 [4] 24 ?_;exact gc
/- 256:impl_Overlaps -/
instance A7n:Ct 256 (∀{a0} {a1} {r},JD a0 a1=N r→FC Z 256 [.ag (X3.row a0),.ag (X3.row a1)] [.sc (.v (.bool r))]):=by
 refine⟨fun h=> ?_⟩;unfold JD at h;refine A4 mixed h0 [4] 16 ?_;exact gc
/- 257:impl_near -/
instance A8h:Ct 257 (∀{a0} {a1} {a2} {r},JQ a0 a1 a2=N r→FC Z 257 [.sc (.int .i64 a0),.sc (.int .i64 a1),.sc (.int .i64 a2)] [.sc (.v (.bool r))]):=by
 refine⟨fun h=> ?_⟩;unfold JQ at h;refine A4 mixed h0 [6] 19 ?_;exact gc
/- 234:impl_conflict -/
def Ny:Hw:=([(6,[4,5,6,7,9],[4,5,6,7],[]),(12,[4,5,6,7,24],[4,5,6,7],[]),(24,[5,6,7,41],[5,6,7],[]),(36,[6,7,72],[6,7],[])],[])
def cK:=fun(a2:X3) (a3:X3) (k_:V→Q U)=>∀{v22} {zr},k_ v22=N zr→Kh Z 234 Ny 36 [6,7,72] [6,7] [] ⟨[pB 6,pB 7,(72,vc (aB v22))],[(6,(dm a2.row)),(7,(dm a3.row))],[]⟩ (A7 [8] [.sc (.v (.int .i64 zr))])
def cJ:=fun(a1:Xh) (a2:X3) (a3:X3) (k_:V→V→Q U)=>∀{v15 v16} {zr},k_ v15 v16=N zr→Kh Z 234 Ny 24 [5,6,7,41] [5,6,7] [] ⟨[pB 5,pB 6,pB 7,(41,vc (aB v15))],[(5,[aI a1.Gap,aB v16]),(6,(dm a2.row)),(7,(dm a3.row))],[]⟩ (A7 [8] [.sc (.v (.int .i64 zr))])
def cI:=fun(a0:X1) (a1:Xh) (a2:X3) (a3:X3) (k_:V→Q U)=>∀{v7} {zr},k_ v7=N zr→Kh Z 234 Ny 12 [4,5,6,7,24] [4,5,6,7] [] ⟨[pB 4,pB 5,pB 6,pB 7,(24,vc (aB v7))],[(4,[aM X7.row a0.Points,aM X2.row a0.Segments]),(5,(dm a1.row)),(6,(dm a2.row)),(7,(dm a3.row))],[]⟩ (A7 [8] [.sc (.v (.int .i64 zr))])
def cH:=fun(a0:X1) (a1:Xh) (a2:X3) (a3:X3) (k_:V→Q U)=>∀{v3} {zr},k_ v3=N zr→Kh Z 234 Ny 6 [4,5,6,7,9] [4,5,6,7] [] ⟨[pB 4,pB 5,pB 6,pB 7,(9,vc (aB v3))],[(4,[aM X7.row a0.Points,aM X2.row a0.Segments]),(5,(dm a1.row)),(6,(dm a2.row)),(7,(dm a3.row))],[]⟩ (A7 [8] [.sc (.v (.int .i64 zr))])
theorem A3c{a2 a3}:cK a2 a3 (LO a2 a3):=by
 intro v22 r h σ hσ;unfold LO at h;exact gc
theorem A3d{a1 a2 a3}:cJ a1 a2 a3 (HF a1 a2 a3):=by
 intro v15 v16 r h σ hσ;unfold HF at h;have k0:= @A3c;exact gc
theorem A3e{a0 a1 a2 a3}:cI a0 a1 a2 a3 (LN a0 a1 a2 a3):=by
 intro v7 r h σ hσ;unfold LN at h;have k0:= @A3d;exact gc
theorem A3f{a0 a1 a2 a3}:cH a0 a1 a2 a3 (LM a0 a1 a2 a3):=by
 intro v3 r h σ hσ;unfold LM at h;have k0:= @A3e;exact gc
instance A8b:Ct 234 (∀{a0} {a1} {a2} {a3} {r},LL a0 a1 a2 a3=N r→FC Z 234 [.ag (X1.row a0),.ag (Xh.row a1),.ag (X3.row a2),.ag (X3.row a3)] [.sc (.v (.int .i64 r))]):=by
 refine⟨fun h=> ?_⟩;unfold LL at h;refine A4 mixed Ny [8] 116 ?_;have k0:= @A3f;exact gc
/- 213:impl_clashes -/
def Sj:Hw:=([(6,[3,4,5,13,14,15],[4,5],[]),(20,[3,4,5,10,13,14,15,19,20,21],[4,5,10],[])],[])
def cG:=fun a3 a2 v1 (a0:X1) (a1:Xh) (x3:X3) (k_:U→Q V)=>∀{v4} {zr},k_ v4=N zr→Kh Z 213 Sj 20 [3,4,5,10,13,14,15,19,20,21] [4,5,10] [] ⟨[pL 3 X3.row a3,pB 4,pB 5,pB 10,pL 13 X3.row a2,pI 14 (a2.length:U),pI 15 v1,pL 19 X3.row a3,pI 20 (a3.length:U),pI 21 v4],[(4,[aM X7.row a0.Points,aM X2.row a0.Segments]),(5,(dm a1.row)),(10,(dm x3.row))],[]⟩ (A7 [8] [.sc (.v (.bool zr))])
def TE:=fun a3 a2 (a0:X1) (a1:Xh) (k_:U→Q V)=>∀{v1} {zr},k_ v1=N zr→Kh Z 213 Sj 6 [3,4,5,13,14,15] [4,5] [] ⟨[pL 3 X3.row a3,pB 4,pB 5,pL 13 X3.row a2,pI 14 (a2.length:U),pI 15 v1],[(4,[aM X7.row a0.Points,aM X2.row a0.Segments]),(5,(dm a1.row))],[]⟩ (A7 [8] [.sc (.v (.bool zr))])
theorem A3i{a3 a2 v1 a0 a1 x3}{NL}(oj:TE a3 a2 a0 a1 NL){n:W}:cG a3 a2 v1 a0 a1 x3 (HE a3 a2 v1 a0 a1 x3 NL n):=by
 induction n with
 | zero=>intro _ r h; cases h
 | succ n ih=>
  intro v4 r h σ hσ;rw[HE] at h;have k0:= @oj;exact gc
theorem A3j{a3 a2 a0 a1}{n:W}:TE a3 a2 a0 a1 (EX a3 a2 a0 a1 n):=by
 induction n with
 | zero=>intro _ r h; cases h
 | succ n ih=>
  intro v1 r h σ hσ;rw[EX] at h;have k0:= @A3i;exact gc
instance xa:Ct 213 (∀{a0} {a1} {a2} {a3} {r},LK a0 a1 a2 a3=N r→FC Z 213 [.ag (X1.row a0),.ag (Xh.row a1),.sc (.sl (Y X3.row a2)),.sc (.sl (Y X3.row a3))] [.sc (.v (.bool r))]):=by
 refine⟨fun h=> ?_⟩;unfold LK at h;refine A4 mixed Sj [8] 33 ?_;have k0:= @A3j;exact gc
/- 215:impl_clone_Option -/
instance ZT:Ct 215 (∀{a0} {r},Ee a0=N r→FC Z 215 [.sc (.sl (Y X0.row a0))] [.sc (.o 4 (Y X0.row r))]):=by
 refine⟨fun h=> ?_⟩;unfold Ee at h;refine A4 mixed h0 [2] 8 ?_;have s0:= @Ew _ X0.row (⟨(0:U),(0:U),(0:U),([]:P X3)⟩:X0);exact gc
/- 258:impl_Passage_ends -/
instance A7q:Ct 258 (∀{a0} {a1} {r},JE a0 a1=N r→FC Z 258 [.ag (X3.row a0),.ag (X1.row a1)] [.sc (.v (.int .i64 r.1)),.sc (.v (.int .i64 r.2))]):=by
 refine⟨fun h=> ?_⟩;unfold JE at h;refine A4 mixed h0 [4,5] 23 ?_;exact gc
/- 235:impl_duty -/
instance A8d:Ct 235 (∀{a0} {a1} {a2} {r},JL a0 a1 a2=N r→FC Z 235 [.ag (X1.row a0),.ag (X3.row a1),.ag (X3.row a2)] [.ag [.v (.int .i64 r.From),.v (.int .i64 r.To),.v (.int .i64 r.A),.v (.int .i64 r.B)]]):=by
 refine⟨fun h=> ?_⟩;unfold JL at h;refine A4 mixed h0 [.c 6 T 4] 30 ?_;exact gc
/- 271:impl_passageOk -/
instance A8j:Ct 271 (∀{a0} {a1} {a2} {r},LU a0 a1 a2=N r→FC Z 271 [.ag (X1.row a0),.sc (.sl (Y X6.row a1)),.ag (X3.row a2)] [.sc (.v (.bool r))]):=by
 refine⟨fun h=> ?_⟩;unfold LU at h;refine A4 mixed h0 [6] 51 ?_;exact gc
/- 259:impl_PassageOk -/
instance A7p:Ct 259 (∀{a0} {a1} {a2} {r},Lv a0 a1 a2=N r→FC Z 259 [.ag (X1.row a0),.sc (.sl (Y X6.row a1)),.ag (X3.row a2)] [.sc (.v (.bool r))]):=by
 refine⟨fun h=> ?_⟩;unfold Lv at h;refine A4 mixed h0 [6] 19 ?_;exact gc
/- 236:impl_tugDuties -/
def Sk:Hw:=([(8,[1,3,8,12,13,14],[3],[704]),(31,[1,3,8,10,12,13,14,28,29],[3,10],[704])],[])
def cY:=fun a1 a2 v1 (x7:X6) (a0:X1) (x4:X3) (k_:U→(P X9)→Q ((P X9) × V))=>∀{v8 v9} {zr},k_ v8 v9=N zr→Kh Z 236 Sk 31 [1,3,8,10,12,13,14,28,29] [3,10] [704] ⟨[pL 1 X6.row a1,pB 3,pW 8 704,pB 10,pL 12 X3.row a2,pI 13 (a2.length:U),pI 14 v1,pI 28 x7.Tugs,pI 29 v8],[(3,[aM X7.row a0.Points,aM X2.row a0.Segments]),(10,(dm x4.row))],[(704,4,Y X9.row v9)]⟩ (A7 [6,7] [.sc (.o 4 (Y X9.row zr.1)),.sc (.v (.bool zr.2))])
def TK:=fun a1 a2 (a0:X1) (k_:U→(P X9)→Q ((P X9) × V))=>∀{v1 v2} {zr},k_ v1 v2=N zr→Kh Z 236 Sk 8 [1,3,8,12,13,14] [3] [704] ⟨[pL 1 X6.row a1,pB 3,pW 8 704,pL 12 X3.row a2,pI 13 (a2.length:U),pI 14 v1],[(3,[aM X7.row a0.Points,aM X2.row a0.Segments])],[(704,4,Y X9.row v2)]⟩ (A7 [6,7] [.sc (.o 4 (Y X9.row zr.1)),.sc (.v (.bool zr.2))])
theorem A3k{a1 a2 v1 x7 a0 x4}{NP}(ot:TK a1 a2 a0 NP){n:W}:cY a1 a2 v1 x7 a0 x4 (G6 a1 a2 v1 x7 a0 x4 NP n):=by
 induction n with
 | zero=>intro _ _ r h; cases h
 | succ n ih=>
  intro v8 v9 r h σ hσ;rw[G6] at h;have s0:=fun(r11:X9)=> @Ai (Y X9.row ([r11]:P X9))
  have k0:= @ot;exact gc
theorem A3l{a1 a2 a0}{n:W}:TK a1 a2 a0 (F0 a1 a2 a0 n):=by
 induction n with
 | zero=>intro _ _ r h; cases h
 | succ n ih=>
  intro v1 v2 r h σ hσ;rw[F0] at h;have k0:= @A3k;exact gc
instance A8k:Ct 236 (∀{a0} {a1} {a2} {r},LX a0 a1 a2=N r→FC Z 236 [.ag (X1.row a0),.sc (.sl (Y X6.row a1)),.sc (.sl (Y X3.row a2))] [.sc (.o 4 (Y X9.row r.1)),.sc (.v (.bool r.2))]):=by
 refine⟨fun h=> ?_⟩;unfold LX at h;refine A4 mixed Sk [6,7] 44 ?_;have s0:= @Ai (Y X9.row ([]:P X9));have k0:= @A3l;exact gc
/- 282:impl_DutiesOk -/
def Wc:Hw:=([(14,[8,9,10],[],[])],[])
def bZ:=fun a0 (k_:U→Q V)=>∀{v2} {zr},k_ v2=N zr→Kh Z 282 Wc 14 [8,9,10] [] [] ⟨[pL 8 X9.row a0,pI 9 (a0.length:U),pI 10 v2],[],[]⟩ (A7 [2] [.sc (.v (.bool zr))])
theorem A3m{a0}{n:W}:bZ a0 (Hk a0 n):=by
 induction n with
 | zero=>intro _ r h; cases h
 | succ n ih=>
  intro v2 r h σ hσ;rw[Hk] at h;exact gc
instance A69:Ct 282 (∀{a0} {r},Hj a0=N r→FC Z 282 [.sc (.sl (Y X9.row a0))] [.sc (.v (.bool r))]):=by
 refine⟨fun h=> ?_⟩;unfold Hj at h;refine A4 mixed Wc [2] 42 ?_;have k0:= @A3m;exact gc
/- 272:impl_coverable -/
instance xb:Ct 272 (∀{a0} {a1} {a2} {r},Pg a0 a1 a2=N r→FC Z 272 [.sc (.int .i64 a0),.sc (.sl (Y rI a1)),.sc (.sl (Y X9.row a2))] [.sc (.v (.bool r))]):=by
 refine⟨fun h=> ?_⟩;unfold Pg at h;refine A4 mixed h0 [6] 17 ?_;exact gc
/- 286:impl_Gap -/
def Wd:Hw:=([(5,[0,1,6,7,29],[6,7],[])],[])
def be:=fun a0 a1 (a2:X9) (a3:X9) (k_:V→Q (U × V))=>∀{v8} {zr},k_ v8=N zr→Kh Z 286 Wd 5 [0,1,6,7,29] [6,7] [] ⟨[pI 0 a0,pL 1 rI a1,pB 6,pB 7,(29,vc (aB v8))],[(6,(dm a2.row)),(7,(dm a3.row))],[]⟩ (A7 [8,9] [.sc (.v (.int .i64 zr.1)),.sc (.v (.bool zr.2))])
theorem A3n{a0 a1 a2 a3}:be a0 a1 a2 a3 (Hn a0 a1 a2 a3):=by
 intro v8 r h σ hσ;unfold Hn at h;exact gc
instance A7d:Ct 286 (∀{a0} {a1} {a2} {a3} {r},P8 a0 a1 a2 a3=N r→FC Z 286 [.sc (.int .i64 a0),.sc (.sl (Y rI a1)),.ag (X9.row a2),.ag (X9.row a3)] [.sc (.v (.int .i64 r.1)),.sc (.v (.bool r.2))]):=by
 refine⟨fun h=> ?_⟩;unfold P8 at h;refine A4 mixed Wd [8,9] 41 ?_;have k0:= @A3n;exact gc
/- 283:impl_CanFollow -/
instance ZO:Ct 283 (∀{a0} {a1} {a2} {a3} {r},Jy a0 a1 a2 a3=N r→FC Z 283 [.sc (.int .i64 a0),.sc (.sl (Y rI a1)),.ag (X9.row a2),.ag (X9.row a3)] [.sc (.v (.bool r))]):=by
 refine⟨fun{a0} {a1} {a2} {a3} {r} h=> ?_⟩;unfold Jy at h;refine A4 mixed h0 [8] 39 ?_;have s0:= @Ai (Y X9.row ([a2]:P X9));have s1:= @Ai (Y X9.row ([a3]:P X9));exact gc
/- 273:impl_partners -/
def Q8:Hw:=([(8,[0,1,2,7,15,16,17],[],[896]),(22,[0,1,2,7,8,9,15,16,17,22,23,24],[9],[896]),(35,[0,1,2,7,8,9,10,15,16,17,22,23,24,45],[9],[896])],[])
def cU:=fun a0 a1 a2 v2 v6 (x5:X9) v7 (k_:V→Q (P U))=>∀{v14} {zr},k_ v14=N zr→Kh Z 273 Q8 35 [0,1,2,7,8,9,10,15,16,17,22,23,24,45] [9] [896] ⟨[pI 0 a0,pL 1 rI a1,pL 2 X9.row a2,pW 7 896,pI 8 v2,pB 9,pI 10 v6,pL 15 X9.row a2,pI 16 (a2.length:U),pI 17 v2,pL 22 X9.row a2,pI 23 (a2.length:U),pI 24 v6,(45,vc (aB v14))],[(9,(dm x5.row))],[(896,1,Y rU v7)]⟩ (A7 [6] [.sc (.o 1 (Y rU zr))])
def TH:=fun a0 a1 a2 v2 (x5:X9) (k_:U→(P U)→Q (P U))=>∀{v6 v7} {zr},k_ v6 v7=N zr→Kh Z 273 Q8 22 [0,1,2,7,8,9,15,16,17,22,23,24] [9] [896] ⟨[pI 0 a0,pL 1 rI a1,pL 2 X9.row a2,pW 7 896,pI 8 v2,pB 9,pL 15 X9.row a2,pI 16 (a2.length:U),pI 17 v2,pL 22 X9.row a2,pI 23 (a2.length:U),pI 24 v6],[(9,(dm x5.row))],[(896,1,Y rU v7)]⟩ (A7 [6] [.sc (.o 1 (Y rU zr))])
def TG:=fun a0 a1 a2 (k_:U→(P U)→Q (P U))=>∀{v2 v3} {zr},k_ v2 v3=N zr→Kh Z 273 Q8 8 [0,1,2,7,15,16,17] [] [896] ⟨[pI 0 a0,pL 1 rI a1,pL 2 X9.row a2,pW 7 896,pL 15 X9.row a2,pI 16 (a2.length:U),pI 17 v2],[],[(896,1,Y rU v3)]⟩ (A7 [6] [.sc (.o 1 (Y rU zr))])
theorem Tk{a0 a1 a2 v2 v6 x5 v7}{NM}(WD:TH a0 a1 a2 v2 x5 NM):cU a0 a1 a2 v2 v6 x5 v7 (HK a0 a1 a2 v2 v6 x5 v7 NM):=by
 intro v14 r h σ hσ S hS
 conv at hS=>rhs; reduce
 try simp only[zB,zA,Au,UInt8.reduceOfNat] at hS
 subst hS;refine AF ?_;unfold HK at h;obtain⟨h15,h⟩|⟨h15,h⟩:=ic h
 ·try simp only[hσ,h15,C,E,F,G,H,J]
  refine At ?_;obtain⟨x16,h16,h⟩:=ob h;have h16n:=B7 h16;obtain⟨h17,h⟩:=GL h;try simp only[h15,h16,h16n,h17,C,E,F,G,H,J]
  refine Fj (row:=rU) (y:=(B4 .or .u64 x16 (B9 .u64 (1:U) v6))) X X h16n X X (by rfl) ?_;try simp only[h15,h16,h16n,h17,C,E,F,G,H,J]
  refine At ?_;try simp only[h15,h16,h16n,h17,C,E,F,G,H,J]
  refine WD h ?_ (by kernel_rfl);try simp only[h15,h16,h16n,h17,C,E,F,G,H,J,pL,aM,I]
 ·try simp only[hσ,h15,C,E,F,G,H,J]
  refine WD h ?_ (by kernel_rfl);try simp only[h15,C,E,F,G,H,J,pL,aM,I]
theorem A3p{a0 a1 a2 v2 x5}{IM}(om:TG a0 a1 a2 IM){n:W}:TH a0 a1 a2 v2 x5 (DM a0 a1 a2 v2 x5 IM n):=by
 induction n with
 | zero=>intro _ _ r h; cases h
 | succ n ih=>
  intro v6 v7 r h σ hσ S hS
  conv at hS=>rhs; reduce
  try simp only[zB,zA,Au,UInt8.reduceOfNat] at hS
  subst hS;rw[DM] at h;refine AZ (AF ?_);obtain⟨h8,h⟩|⟨h8,h⟩:=ic h
  ·obtain⟨x9,h9,h⟩:=ob h;try simp only[hσ,h8,h9,C,E,F,G,H,J]
   refine Cd ?_;obtain⟨h10,h⟩|⟨h10,h⟩:=ic h
   ·obtain⟨r11,h11,h⟩:=ob h;try simp only[h8,h9,h10,C,E,F,G,H,J]
    refine AY (Aq ZO h11) ?_;obtain⟨h12,h⟩|⟨h12,h⟩:=ic h
    ·try simp only[h8,h9,h10,h12,C,E,F,G,H,J]
     refine Tk ih h ?_ (by kernel_rfl);try simp only[h8,h9,h10,h12,C,E,F,G,H,J,pL,aM,I]
    ·obtain⟨r13,h13,h⟩:=ob h;try simp only[h8,h9,h10,h12,C,E,F,G,H,J]
     refine AY (Aq ZO h13) ?_;try simp only[h8,h9,h10,h12,C,E,F,G,H,J]
     refine Tk ih h ?_ (by kernel_rfl);try simp only[h8,h9,h10,h12,C,E,F,G,H,J,pL,aM,I]
   ·try simp only[h8,h9,h10,C,E,F,G,H,J]
    refine Tk ih h ?_ (by kernel_rfl);try simp only[h8,h9,h10,C,E,F,G,H,J,pL,aM,I]
  ·try simp only[hσ,h8,C,E,F,G,H,J]
   refine om h ?_ (by kernel_rfl);try simp only[h8,C,E,F,G,H,J,pL,aM,I]
theorem A3q{a0 a1 a2}{n:W}:TG a0 a1 a2 (EZ a0 a1 a2 n):=by
 induction n with
 | zero=>intro _ _ r h; cases h
 | succ n ih=>
  intro v2 v3 r h σ hσ;rw[EZ] at h;have k0:= @A3p;exact gc
instance xl:Ct 273 (∀{a0} {a1} {a2} {r},LS a0 a1 a2=N r→FC Z 273 [.sc (.int .i64 a0),.sc (.sl (Y rI a1)),.sc (.sl (Y X9.row a2))] [.sc (.o 1 (Y rU r))]):=by
 refine⟨fun h=> ?_⟩;unfold LS at h;refine A4 mixed Q8 [6] 57 ?_;have s0:= @Ew _ rU (0:U);have k0:= @A3q;exact gc
/- 288:math_bits_Len64 -/
def Q9:Hw:=([(10,[0,2],[],[]),(18,[0,2],[],[]),(26,[0,2],[],[])],[])
def dC:=fun(k_:U→U→Q U)=>∀{v8 v9} {zr},k_ v8 v9=N zr→Kh Z 288 Q9 26 [0,2] [] [] ⟨[(0,vc (.dat (.int .u64 v8))),pI 2 v9],[],[]⟩ (A7 [2] [.sc (.v (.int .i64 zr))])
def dB:=fun(k_:U→U→Q U)=>∀{v5 v6} {zr},k_ v5 v6=N zr→Kh Z 288 Q9 18 [0,2] [] [] ⟨[(0,vc (.dat (.int .u64 v5))),pI 2 v6],[],[]⟩ (A7 [2] [.sc (.v (.int .i64 zr))])
def dA:=fun(k_:U→U→Q U)=>∀{v2 v3} {zr},k_ v2 v3=N zr→Kh Z 288 Q9 10 [0,2] [] [] ⟨[(0,vc (.dat (.int .u64 v2))),pI 2 v3],[],[]⟩ (A7 [2] [.sc (.v (.int .i64 zr))])
theorem A3r:dC JT:=by
 intro v8 v9 r h σ hσ S hS
 conv at hS=>rhs; reduce
 try simp only[zB,zA,Au,UInt8.reduceOfNat] at hS
 subst hS;refine AF ?_;unfold JT at h;obtain⟨b10,h10,h⟩:=ob h;try simp only[hσ,h10,C,E,F,G,H,J]
 cases h;exact t0
theorem A3s:dB MD:=by
 intro v5 v6 r h σ hσ;unfold MD at h;have k0:= @A3r;exact gc
theorem A3t:dA MC:=by
 intro v2 v3 r h σ hσ;unfold MC at h;have k0:= @A3s;exact gc
instance A94:Ct 288 (∀{a0} {r},PC a0=N r→FC Z 288 [.sc (.int .u64 a0)] [.sc (.v (.int .i64 r))]):=by
 refine⟨fun h=> ?_⟩;unfold PC at h;refine A4 mixed Q9 [2] 25 ?_;have k0:= @A3t;exact gc
/- 284:math_bits_Len -/
instance xx:Ct 284 (∀{a0} {r},JS a0=N r→FC Z 284 [.sc (.int .u64 a0)] [.sc (.v (.int .i64 r))]):=by
 refine⟨fun h=> ?_⟩;unfold JS at h;refine A4 mixed h0 [2] 8 ?_;exact gc
/- 274:impl_leastPersons -/
def Nz:Hw:=([(14,[0,3,4,5,6],[],[896,1024]),(29,[0,3,4,5,6,7,8],[],[896,1024]),(34,[0,3,4,5,6,7,8,9],[],[896,1024]),(43,[0,3,4,5,6,7,8,9],[],[896,1024])],[])
def cR:=fun a0 y5 v6 v17 v18 v21 v19 (k_:(P U)→Q U)=>∀{v28} {zr},k_ v28=N zr→Kh Z 274 Nz 43 [0,3,4,5,6,7,8,9] [] [896,1024] ⟨[pL 0 rU a0,pI 3 y5,pW 4 896,pW 5 1024,pI 6 v6,pI 7 v17,pI 8 v18,pI 9 v21],[],[(896,1,Y rB v19),(1024,1,Y rI v28)]⟩ (A7 [2] [.sc (.v (.int .i64 zr))])
def TF:=fun a0 y5 v6 v17 v18 v19 (k_:U→(P U)→Q U)=>∀{v21 v22} {zr},k_ v21 v22=N zr→Kh Z 274 Nz 34 [0,3,4,5,6,7,8,9] [] [896,1024] ⟨[pL 0 rU a0,pI 3 y5,pW 4 896,pW 5 1024,pI 6 v6,pI 7 v17,pI 8 v18,pI 9 v21],[],[(896,1,Y rB v19),(1024,1,Y rI v22)]⟩ (A7 [2] [.sc (.v (.int .i64 zr))])
def cQ:=fun a0 y5 v6 v8 (k_:U→U→(P V)→Q U)=>∀{v17 v18 v19} {zr},k_ v17 v18 v19=N zr→Kh Z 274 Nz 29 [0,3,4,5,6,7,8] [] [896,1024] ⟨[pL 0 rU a0,pI 3 y5,pW 4 896,pW 5 1024,pI 6 v6,pI 7 v17,pI 8 v18],[],[(896,1,Y rB v19),(1024,1,Y rI v8)]⟩ (A7 [2] [.sc (.v (.int .i64 zr))])
def OK:=fun a0 y5 (k_:U→(P V)→(P U)→Q U)=>∀{v6 v7 v8} {zr},k_ v6 v7 v8=N zr→Kh Z 274 Nz 14 [0,3,4,5,6] [] [896,1024] ⟨[pL 0 rU a0,pI 3 y5,pW 4 896,pW 5 1024,pI 6 v6],[],[(896,1,Y rB v7),(1024,1,Y rI v8)]⟩ (A7 [2] [.sc (.v (.int .i64 zr))])
theorem aT{a0 y5 v6 v17 v18 v21 v19}{Cq}(NB:OK a0 y5 Cq){Qo}(ol:TF a0 y5 v6 v17 v18 v19 Qo):cR a0 y5 v6 v17 v18 v21 v19 (JP a0 y5 v6 v17 v18 v21 v19 Cq Qo):=by
 intro v28 r h σ hσ;unfold JP at h;have k0:= @NB; have k1:= @ol;exact gc
theorem A3u{a0 y5 v6 v17 v18 v19}{Cq}(NB:OK a0 y5 Cq){n:W}:TF a0 y5 v6 v17 v18 v19 (G2 a0 y5 v6 v17 v18 v19 Cq n):=by
 induction n with
 | zero=>intro _ _ r h; cases h
 | succ n ih=>
  intro v21 v22 r h σ hσ S hS
  conv at hS=>rhs; reduce
  try simp only[zB,zA,Au,UInt8.reduceOfNat] at hS
  subst hS;rw[G2] at h;refine AZ (AF ?_);obtain⟨h23,h⟩:=GL h;obtain⟨x24,h24,h⟩:=ob h;have h24n:=B7 h24;obtain⟨h25,h⟩|⟨h25,h⟩:=ic h
  ·try simp only[hσ,h23,h24,h24n,h25,C,E,F,G,H,J]
   refine At ?_;obtain⟨x26,h26,h⟩:=ob h;have h26n:=B7 h26;obtain⟨x27,h27,h⟩:=ob h;have h27n:=B7 h27;try simp only[h23,h24,h24n,h25,h26,h26n,h27,h27n,C,E,F,G,H,J]
   refine Fj (row:=rI) (y:=(if(zM .i64 ((1:U)+x27))<x26 then(zM .i64 ((1:U)+x27)) else x26)) X X h26n X X (by rfl) ?_;try simp only[h23,h24,h24n,h25,h26,h26n,h27,h27n,C,E,F,G,H,J]
   refine At ?_;try simp only[h23,h24,h24n,h25,h26,h26n,h27,h27n,C,E,F,G,H,J]
   refine aT NB ih h ?_ (by kernel_rfl);try simp only[h23,h24,h24n,h25,h26,h26n,h27,h27n,C,E,F,G,H,J,pL,aM,I]
  ·try simp only[hσ,h23,h24,h24n,h25,C,E,F,G,H,J]
   refine aT NB ih h ?_ (by kernel_rfl);try simp only[h23,h24,h24n,h25,C,E,F,G,H,J,pL,aM,I]
theorem aU{a0 y5 v6 v8}{Cq}(NB:OK a0 y5 Cq):cQ a0 y5 v6 v8 (JO a0 y5 v6 v8 Cq):=by
 intro v17 v18 v19 r h σ hσ;unfold JO at h;have s0:= @ED _ rI ((a0.length:U));have k0:= @A3u;exact gc
theorem A3v{a0 y5}{n:W}:OK a0 y5 (Ef a0 y5 n):=by
 induction n with
 | zero=>intro _ _ _ r h; cases h
 | succ n ih=>
  intro v6 v7 v8 r h σ hσ S hS
  conv at hS=>rhs; reduce
  try simp only[zB,zA,Au,UInt8.reduceOfNat] at hS
  subst hS;rw[Ef] at h;refine AZ (AF ?_);obtain⟨h9,h⟩|⟨h9,h⟩:=ic h
  ·obtain⟨r10,h10,h⟩:=ob h;try simp only[hσ,h9,C,E,F,G,H,J]
   refine AY (Aq xx h10) ?_;obtain⟨h11,h⟩:=GL h;obtain⟨x12,h12,h⟩:=ob h;have h12n:=B7 h12;obtain⟨h13,h⟩|⟨h13,h⟩:=ic h
   ·obtain⟨x14,h14,h⟩:=ob h;obtain⟨x15,h15,h⟩:=ob h;have h15n:=B7 h15;try simp only[h9,h11,h12,h12n,h13,h14,h15,C,E,F,G,H,J]
    refine Fj (row:=rB) (y:=((B4 .andNot .u64 (IntKind.u64.wrap (B4 .andNot .i64 v6 (B9 .i64 (1:U) (zM .i64 (r10 - (1:U)))))) x14)==(0:U))) X X h15n X X (by rfl) ?_;try simp only[h9,h11,h12,h12n,h13,h14,h15,C,E,F,G,H,J]
    refine aU ih h ?_ (by kernel_rfl);try simp only[h9,h11,h12,h12n,h13,h14,h15,C,E,F,G,H,J,pL,aM,I]
   ·obtain⟨x16,h16,h⟩:=ob h;have h16n:=B7 h16;try simp only[h9,h11,h12,h12n,h13,h16,C,E,F,G,H,J]
    refine Fj (row:=rB) (y:=false) X X h16n X X (by rfl) ?_;try simp only[h9,h11,h12,h12n,h13,h16,C,E,F,G,H,J]
    refine aU ih h ?_ (by kernel_rfl);try simp only[h9,h11,h12,h12n,h13,h16,C,E,F,G,H,J,pL,aM,I]
  ·obtain⟨x30,h30,h⟩:=ob h;have h30n:=B7 h30;try simp only[hσ,h9,h30,h30n,C,E,F,G,H,J]
   cases h;exact t0
instance xi:Ct 274 (∀{a0} {r},LR a0=N r→FC Z 274 [.sc (.sl (Y rU a0))] [.sc (.v (.int .i64 r))]):=by
 refine⟨fun{a0} {r} h=> ?_⟩;unfold LR at h;refine A4 mixed Nz [2] 88 ?_;intro S hS
 conv at hS=>rhs; reduce
 try simp only[zB,zA,Au,UInt8.reduceOfNat] at hS
 subst hS;simp only[C,E,F,G,H,J];obtain⟨h1,h⟩:=GL h;obtain⟨n2,hn2,h⟩:=ob h;try simp only[h1,C,E,F,G,H,J]
 refine RY (es:=Y rB (List.replicate n2 L)) X X hn2 X (QG X) X ?_;obtain⟨n3,hn3,h⟩:=ob h;try simp only[h1,C,E,F,G,H,J]
 refine RY (es:=Y rI (List.replicate n3 (0:U))) X X hn3 X (QG X) X ?_;obtain⟨x4,h4,h⟩:=ob h;have h4n:=B7 h4;try simp only[h1,h4,C,E,F,G,H,J]
 refine Fj (row:=rB) (y:=true) X X h4n X X (by rfl) ?_;try simp only[h1,h4,C,E,F,G,H,J]
 refine A3v h ?_ (by kernel_rfl);try simp only[h1,h4,C,E,F,G,H,J,pL,aM,I]
end Go.Vi
