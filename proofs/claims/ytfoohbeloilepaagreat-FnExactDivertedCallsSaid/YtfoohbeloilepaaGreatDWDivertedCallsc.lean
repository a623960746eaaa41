/-
Walks. No condition.
-/
import Derived.Test.YtfoohbeloilepaaGreatDNf
import Derived.Test.YtfoohbeloilepaaGreatChecked
import Derived.Test.YtfoohbeloilepaaGreatDVi41
import Derived.KernelRfl
import Derived.Test.YtfoohbeloilepaaGreatDWDivertedCallsb
namespace Go.Vi
open Go.Proofs
set_option linter.all false
set_option maxRecDepth 4000
set_option maxHeartbeats 2000000
open Nat renaming reduceBEq → C, reduceMul → E, reduceAdd → F, reduceDiv → G, le_of_ble_eq_true → uf
open Int renaming reduceBEq → H
attribute [local irreducible] go Bb Hj
open List renaming map → Y, map_nil → I, all_cons → zC, all_nil → zD, all_eq_true → zE, cons_append → zI, nil_append → zJ
open Tryz renaming prog → Z
open Int renaming toNat → zA
open Xb renaming row → zB
open Xa renaming row → zF
open Xd renaming row → zG
open Xe renaming row → zH
open Bool renaming true → T, false → L
open Option renaming some → N, none → O
open _root_ renaming List → P, Option → Q, Int → U, Bool → V, Nat → W, rfl → X
def Yn:Hw:=([(14,[1,25,26,27],[1],[])],[])
def fB:=fun(a0:Xe) (k_:U→Q V)=>∀{v7} {zr},k_ v7=N zr→Kh Z 118 Yn 14 [1,25,26,27] [1] [] ⟨[pB 1,pL 25 zF a0.Surges,pI 26 (a0.Surges.length:U),pI 27 v7],[(1,[aI a0.Tide.Mean,aM zG a0.Tide.Parts,aM zF a0.Surges])],[]⟩ (A8 [2] [.sc (.v (.bool zr))])
theorem A8k{a0}{n:W}:fB a0 (Gq a0 n):=by
 induction n with
 | zero=>intro _ r h; cases h
 | succ n ih=>
  intro v7 r h σ hσ;rw[Gq] at h;exact gc
instance A30:Ct 118 (∀{a0} {r},Gp a0=N r→FC Z 118 [.ag (zH a0)] [.sc (.v (.bool r))]):=by
 refine⟨fun h=> ?_⟩;unfold Gp at h;refine A5 A4 Yn [2] 52 ?_;have k0:= @A8k;exact gc
def Rr:Hw:=([(14,[0,3],[],[]),(25,[0,3,4],[],[]),(32,[0,3],[],[])],[])
def fG:=fun a0 v3 (k_:Q V)=>∀{zr},k_=N zr→Kh Z 140 Rr 32 [0,3] [] [] ⟨[(0,vc (aS a0)),pI 3 v3],[],[]⟩ (A8 [2] [.sc (.v (.bool zr))])
def fF:=fun a0 v3 (k_:V→Q V)=>∀{v7} {zr},k_ v7=N zr→Kh Z 140 Rr 25 [0,3,4] [] [] ⟨[(0,vc (aS a0)),pI 3 v3,(4,vc (aB v7))],[],[]⟩ (A8 [2] [.sc (.v (.bool zr))])
def SJ:=fun a0 (k_:U→Q V)=>∀{v3} {zr},k_ v3=N zr→Kh Z 140 Rr 14 [0,3] [] [] ⟨[(0,vc (aS a0)),pI 3 v3],[],[]⟩ (A8 [2] [.sc (.v (.bool zr))])
theorem A8l{a0 v3}{EN}(Zg:SJ a0 EN):fG a0 v3 (MA a0 v3 EN):=by
 intro r h σ hσ;unfold MA at h;have k0:= @Zg;exact gc
theorem A8m{a0 v3}{EN}(Zg:SJ a0 EN):fF a0 v3 (Mz a0 v3 EN):=by
 intro v7 r h σ hσ;unfold Mz at h;have k0:= @A8l;exact gc
theorem A8n{a0}{n:W}:SJ a0 (Gr a0 n):=by
 induction n with
 | zero=>intro _ r h; cases h
 | succ n ih=>
  intro v3 r h σ hσ;rw[Gr] at h;have k0:= @A8m;exact gc
instance B4r:Ct 140 (∀{a0} {r},Kr a0=N r→FC Z 140 [.sc (.str a0)] [.sc (.v (.bool r))]):=by
 refine⟨fun h=> ?_⟩;unfold Kr at h;refine A5 A4 Rr [2] 43 ?_;have k0:= @A8n;exact gc
def Yo:Hw:=([(6,[1,8,9,10],[],[])],[])
def fK:=fun a1 (a0:X1) (k_:U→Q U)=>∀{v1} {zr},k_ v1=N zr→Kh Z 141 Yo 6 [1,8,9,10] [] [] ⟨[(1,vc (aS a1)),pL 8 X7.row a0.Points,pI 9 (a0.Points.length:U),pI 10 v1],[],[]⟩ (A8 [4] [.sc (.v (.int .i64 zr))])
theorem A8o{a1 a0}{n:W}:fK a1 a0 (I5 a1 a0 n):=by
 induction n with
 | zero=>intro _ r h; cases h
 | succ n ih=>
  intro v1 r h σ hσ;rw[I5] at h;exact gc
instance B41:Ct 141 (∀{a0} {a1} {r},MK a0 a1=N r→FC Z 141 [.ag (X1.row a0),.sc (.str a1)] [.sc (.v (.int .i64 r))]):=by
 refine⟨fun h=> ?_⟩;unfold MK at h;refine A5 A4 Yo [4] 21 ?_;have k0:= @A8o;exact gc
instance SA:Ct 95 (∀{a0} {a1} {r},Bo a0 a1=N r→FC Z 95 [.sc (.int .i64 a0),.sc (.int .i64 a1)] [.sc (.v (.bool r))]):=by
 refine⟨fun h=> ?_⟩;unfold Bo at h;refine A5 A4 h0 [4] 12 ?_;exact gc
instance B44:Ct 142 (∀{a0} {a1} {a2} {r},MM a0 a1 a2=N r→FC Z 142 [.ag (X2.row a0),.sc (.int .i64 a1),.sc (.int .i64 a2)] [.sc (.v (.bool r))]):=by
 refine⟨fun h=> ?_⟩;unfold MM at h;refine A5 A4 h0 [6] 29 ?_;exact gc
def Rt:Hw:=([(14,[1,20,21,22],[1],[]),(37,[1,41,42,43],[1],[]),(59,[1,6,41,42,43,86,87,88],[1,6],[])],[])
def eY:=fun(a0:X1) v11 (x13:X2) y24 y25 (k_:U→Q V)=>∀{v26} {zr},k_ v26=N zr→Kh Z 94 Rt 59 [1,6,41,42,43,86,87,88] [1,6] [] ⟨[pB 1,pB 6,pL 41 X2.row a0.Segments,pI 42 (a0.Segments.length:U),pI 43 v11,pL 86 X2.row y24,pI 87 y25,pI 88 v26],[(1,[aM X7.row a0.Points,aM X2.row a0.Segments]),(6,(dm x13.row))],[]⟩ (A8 [2] [.sc (.v (.bool zr))])
def VA:=fun(a0:X1) (k_:U→Q V)=>∀{v11} {zr},k_ v11=N zr→Kh Z 94 Rt 37 [1,41,42,43] [1] [] ⟨[pB 1,pL 41 X2.row a0.Segments,pI 42 (a0.Segments.length:U),pI 43 v11],[(1,[aM X7.row a0.Points,aM X2.row a0.Segments])],[]⟩ (A8 [2] [.sc (.v (.bool zr))])
def eX:=fun(a0:X1) (k_:U→Q V)=>∀{v3} {zr},k_ v3=N zr→Kh Z 94 Rt 14 [1,20,21,22] [1] [] ⟨[pB 1,pL 20 X7.row a0.Points,pI 21 (a0.Points.length:U),pI 22 v3],[(1,[aM X7.row a0.Points,aM X2.row a0.Segments])],[]⟩ (A8 [2] [.sc (.v (.bool zr))])
theorem A8p{a0 v11 x13 y24 y25}{P0}(sy:VA a0 P0){n:W}:eY a0 v11 x13 y24 y25 (HQ a0 v11 x13 y24 y25 P0 n):=by
 induction n with
 | zero=>intro _ r h; cases h
 | succ n ih=>
  intro v26 r h σ hσ;rw[HQ] at h;have k0:= @sy;exact gc
theorem A8q{a0}{n:W}:VA a0 (EA a0 n):=by
 induction n with
 | zero=>intro _ r h; cases h
 | succ n ih=>
  intro v11 r h σ hσ;rw[EA] at h;have k0:= @A8p;exact gc
theorem A8r{a0}{n:W}:eX a0 (HP a0 n):=by
 induction n with
 | zero=>intro _ r h; cases h
 | succ n ih=>
  intro v3 r h σ hσ;rw[HP] at h;have k0:= @A8q;exact gc
instance A3t:Ct 94 (∀{a0} {r},Dn a0=N r→FC Z 94 [.ag (X1.row a0)] [.sc (.v (.bool r))]):=by
 refine⟨fun h=> ?_⟩;unfold Dn at h;refine A5 A4 Rt [2] 100 ?_;have k0:= @A8r;exact gc
instance B46:Ct 159 (∀{a0} {r},EB a0=N r→FC Z 159 [.ag (X4.row a0)] [.sc (.v (.bool r))]):=by
 refine⟨fun h=> ?_⟩;unfold EB at h;refine A5 A4 h0 [2] 26 ?_;exact gc
def Yq:Hw:=([(6,[1,7,8,9],[],[])],[])
def fN:=fun a1 a0 (k_:U→Q U)=>∀{v1} {zr},k_ v1=N zr→Kh Z 160 Yq 6 [1,7,8,9] [] [] ⟨[(1,vc (aS a1)),pL 7 X4.row a0,pI 8 (a0.length:U),pI 9 v1],[],[]⟩ (A8 [4] [.sc (.v (.int .i64 zr))])
theorem A8s{a1 a0}{n:W}:fN a1 a0 (I8 a1 a0 n):=by
 induction n with
 | zero=>intro _ r h; cases h
 | succ n ih=>
  intro v1 r h σ hσ;rw[I8] at h;exact gc
instance B45:Ct 160 (∀{a0} {a1} {r},MO a0 a1=N r→FC Z 160 [.sc (.sl (Y X4.row a0)),.sc (.str a1)] [.sc (.v (.int .i64 r))]):=by
 refine⟨fun h=> ?_⟩;unfold MO at h;refine A5 A4 Yq [4] 20 ?_;have k0:= @A8s;exact gc
def Yr:Hw:=([(14,[0,8,9,10],[],[])],[])
def fA:=fun a0 (k_:U→Q V)=>∀{v2} {zr},k_ v2=N zr→Kh Z 119 Yr 14 [0,8,9,10] [] [] ⟨[pL 0 X4.row a0,pL 8 X4.row a0,pI 9 (a0.length:U),pI 10 v2],[],[]⟩ (A8 [2] [.sc (.v (.bool zr))])
theorem A8t{a0}{n:W}:fA a0 (I0 a0 n):=by
 induction n with
 | zero=>intro _ r h; cases h
 | succ n ih=>
  intro v2 r h σ hσ;rw[I0] at h;exact gc
instance B4k:Ct 119 (∀{a0} {r},Kn a0=N r→FC Z 119 [.sc (.sl (Y X4.row a0))] [.sc (.v (.bool r))]):=by
 refine⟨fun h=> ?_⟩;unfold Kn at h;refine A5 A4 Yr [2] 27 ?_;have k0:= @A8t;exact gc
instance B42:Ct 120 (∀{a0} {r},Qo a0=N r→FC Z 120 [.ag (Xi.row a0)] [.sc (.v (.bool r))]):=by
 refine⟨fun h=> ?_⟩;unfold Qo at h;refine A5 A4 h0 [2] 6 ?_;exact gc
def Ys:Hw:=([(14,[8,9,10],[],[])],[])
def fj:=fun a0 (k_:U→Q V)=>∀{v2} {zr},k_ v2=N zr→Kh Z 161 Ys 14 [8,9,10] [] [] ⟨[pL 8 rI a0,pI 9 (a0.length:U),pI 10 v2],[],[]⟩ (A8 [2] [.sc (.v (.bool zr))])
theorem A8v{a0}{n:W}:fj a0 (GA a0 n):=by
 induction n with
 | zero=>intro _ r h; cases h
 | succ n ih=>
  intro v2 r h σ hσ;rw[GA] at h;exact gc
instance B5n:Ct 161 (∀{a0} {r},Gz a0=N r→FC Z 161 [.sc (.sl (Y rI a0))] [.sc (.v (.bool r))]):=by
 refine⟨fun h=> ?_⟩;unfold Gz at h;refine A5 A4 Ys [2] 18 ?_;have k0:= @A8v;exact gc
instance B4i:Ct 121 (∀{a0} {r},Mr a0=N r→FC Z 121 [.ag (Xn.row a0)] [.sc (.v (.bool r))]):=by
 refine⟨fun h=> ?_⟩;unfold Mr at h;refine A5 A4 h0 [2] 21 ?_;exact gc
instance B4o:Ct 79 (∀{a0} {r},Ko a0=N r→FC Z 79 [.ag (X5.row a0)] [.sc (.v (.bool r))]):=by
 refine⟨fun h=> ?_⟩;unfold Ko at h;refine A5 A4 h0 [2] 26 ?_;exact gc
instance B5g:Ct 80 (∀{a0} {a1} {r},KA a0 a1=N r→FC Z 80 [.ag (X5.row a0),.ag (zB a1)] [.sc (.v (.bool r))]):=by
 refine⟨fun h=> ?_⟩;unfold KA at h;refine A5 A4 h0 [4] 47 ?_;exact gc
def TM:Hw:=([(14,[1,2,17,18,19],[2],[]),(36,[1,2,6,17,18,19,30,31,32],[2,6],[])],[])
def eW:=fun a1 v4 (a0:X5) (x6:Xb) y10 y11 (k_:U→Q V)=>∀{v12} {zr},k_ v12=N zr→Kh Z 37 TM 36 [1,2,6,17,18,19,30,31,32] [2,6] [] ⟨[pL 1 zB a1,pB 2,pB 6,pL 17 zB a1,pI 18 (a1.length:U),pI 19 v4,pL 30 zB y10,pI 31 y11,pI 32 v12],[(2,([aI a0.Forecast.Tide.Mean,aM zG a0.Forecast.Tide.Parts,aM zF a0.Forecast.Surges,aM X7.row a0.Chart.Points,aM X2.row a0.Chart.Segments,aM X4.row a0.Fleet,aI a0.Regime.Gap,aB a0.Regime.NoMeet]++dm a0.Crew.row)),(6,(dm x6.row))],[]⟩ (A8 [4] [.sc (.v (.bool zr))])
def Vz:=fun a1 (a0:X5) (k_:U→Q V)=>∀{v4} {zr},k_ v4=N zr→Kh Z 37 TM 14 [1,2,17,18,19] [2] [] ⟨[pL 1 zB a1,pB 2,pL 17 zB a1,pI 18 (a1.length:U),pI 19 v4],[(2,([aI a0.Forecast.Tide.Mean,aM zG a0.Forecast.Tide.Parts,aM zF a0.Forecast.Surges,aM X7.row a0.Chart.Points,aM X2.row a0.Chart.Segments,aM X4.row a0.Fleet,aI a0.Regime.Gap,aB a0.Regime.NoMeet]++dm a0.Crew.row))],[]⟩ (A8 [4] [.sc (.v (.bool zr))])
theorem A8w{a1 v4 a0 x6 y10 y11}{OZ}(sx:Vz a1 a0 OZ){n:W}:eW a1 v4 a0 x6 y10 y11 (DG a1 v4 a0 x6 y10 y11 OZ n):=by
 induction n with
 | zero=>intro _ r h; cases h
 | succ n ih=>
  intro v12 r h σ hσ;rw[DG] at h;have k0:= @sx;exact gc
theorem A8x{a1 a0}{n:W}:Vz a1 a0 (CM a1 a0 n):=by
 induction n with
 | zero=>intro _ r h; cases h
 | succ n ih=>
  intro v4 r h σ hσ;rw[CM] at h;have k0:= @A8w;exact gc
instance B4f:Ct 37 (∀{a0} {a1} {r},CZ a0 a1=N r→FC Z 37 [.ag (X5.row a0),.sc (.sl (Y zB a1))] [.sc (.v (.bool r))]):=by
 refine⟨fun h=> ?_⟩;unfold CZ at h;refine A5 A4 TM [4] 43 ?_;have k0:= @A8x;exact gc
def Yt:Hw:=([(14,[2,15,16,17],[2],[])],[])
def eh:=fun a1 (a0:X1) (k_:U→Q V)=>∀{v4} {zr},k_ v4=N zr→Kh Z 53 Yt 14 [2,15,16,17] [2] [] ⟨[pB 2,pL 15 X9.row a1,pI 16 (a1.length:U),pI 17 v4],[(2,[aM X7.row a0.Points,aM X2.row a0.Segments])],[]⟩ (A8 [4] [.sc (.v (.bool zr))])
theorem A8y{a1 a0}{n:W}:eh a1 a0 (HW a1 a0 n):=by
 induction n with
 | zero=>intro _ r h; cases h
 | succ n ih=>
  intro v4 r h σ hσ;rw[HW] at h;exact gc
instance A3y:Ct 53 (∀{a0} {a1} {r},HV a0 a1=N r→FC Z 53 [.ag (X1.row a0),.sc (.sl (Y X9.row a1))] [.sc (.v (.bool r))]):=by
 refine⟨fun h=> ?_⟩;unfold HV at h;refine A5 A4 Yt [4] 46 ?_;have k0:= @A8y;exact gc
def Ru:Hw:=([(16,[0,1,5,17,18],[],[1024]),(30,[0,1,5,6,17,18,27,28,29],[],[1024,1728]),(47,[0,1,5,6,9,17,18,27,28,29,35,36,37],[],[1024,2176,1728])],[(7,1,(O,.frz 896)),(60,2,(O,.frz 2176))])
def fq:=fun a0 a1 v2 r5 v6 x9 v7 (k_:U→(P U)→Q (P (P U)))=>∀{v10 v11} {zr},k_ v10 v11=N zr→Kh Z 81 Ru 47 [0,1,5,6,9,17,18,27,28,29,35,36,37] [] [1024,2176,1728] ⟨[pI 0 a0,pI 1 a1,pW 5 1024,pI 6 v2,pW 9 2176,pI 17 a0,pI 18 v2,pW 27 1728,pI 28 (r5.length:U),pI 29 v6,pL 35 rI x9,pI 36 (x9.length:U),pI 37 v10],[],[(1024,1,Y (rL rI) v7),(2176,1,Y rI v11),(1728,1,Y (rL rI) r5)]⟩ (A8 [4] [.sc (.o 1 (Y (rL rI) zr))])
def VK:=fun a0 a1 v2 r5 (k_:U→(P (P U))→Q (P (P U)))=>∀{v6 v7} {zr},k_ v6 v7=N zr→Kh Z 81 Ru 30 [0,1,5,6,17,18,27,28,29] [] [1024,1728] ⟨[pI 0 a0,pI 1 a1,pW 5 1024,pI 6 v2,pI 17 a0,pI 18 v2,pW 27 1728,pI 28 (r5.length:U),pI 29 v6],[],[(1024,1,Y (rL rI) v7),(1728,1,Y (rL rI) r5)]⟩ (A8 [4] [.sc (.o 1 (Y (rL rI) zr))])
def VJ:=fun a0 a1 (k_:U→(P (P U))→Q (P (P U)))=>∀{v2 v3} {zr},k_ v2 v3=N zr→Kh Z 81 Ru 16 [0,1,5,17,18] [] [1024] ⟨[pI 0 a0,pI 1 a1,pW 5 1024,pI 17 a0,pI 18 v2],[],[(1024,1,Y (rL rI) v3)]⟩ (A8 [4] [.sc (.o 1 (Y (rL rI) zr))])
theorem A8z{rec_:U→U→Q (P (P U))}(h_rec:∀(a0 a1:U) zr,rec_ a0 a1=N zr→FC Z 81 [.sc (.int .i64 a0),.sc (.int .i64 a1)] [.sc (.o 1 (Y (rL rI) zr))]){a0 a1 v2 r5 v6 x9 v7}{P6}(tH:VK a0 a1 v2 r5 P6){n:W}:fq a0 a1 v2 r5 v6 x9 v7 (Qw rec_ a0 a1 v2 r5 v6 x9 v7 P6 n):=by
 induction n with
 | zero=>intro _ _ r h; cases h
 | succ n ih=>
  intro v10 v11 r h σ hσ;rw[Qw] at h;have:Ct 81 _:=⟨h_rec⟩;have s0:=fun(x13:U)=> @Al (Y rI ([(IntKind.i64.wrap ((IntKind.i64.wrap (v2+(1:U)))+x13))]:P U))
  have s1:= @Al (Y (rL rI) ([v11]:P (P U)));have k0:= @tH;exact gc
theorem A80{rec_:U→U→Q (P (P U))}(h_rec:∀(a0 a1:U) zr,rec_ a0 a1=N zr→FC Z 81 [.sc (.int .i64 a0),.sc (.int .i64 a1)] [.sc (.o 1 (Y (rL rI) zr))]){a0 a1 v2 r5}{P5}(tG:VJ a0 a1 P5){n:W}:VK a0 a1 v2 r5 (Qv rec_ a0 a1 v2 r5 P5 n):=by
 induction n with
 | zero=>intro _ _ r h; cases h
 | succ n ih=>
  intro v6 v7 r h σ hσ S hS;refine ev hS ?_;rw[Qv] at h;refine AE (Ax ?_);obtain⟨h8,h⟩|⟨h8,h⟩:=ic h
  ·obtain⟨x9,h9,h⟩:=ob h;have h9n:=Au h9;try simp only[hσ,h8,h9,h9n,C,E,F,G,H,J]
   refine Bf (es:=Y rI ([v2]:P U)) ?_;try simp only[h8,h9,h9n,C,E,F,G,H,J]
   refine A8z h_rec ih h ?_ (by kernel_rfl);try simp only[h8,h9,h9n,C,E,F,G,H,J,pL,aM,I]
  ·try simp only[hσ,h8,C,E,F,G,H,J]
   refine tG h ?_ (by kernel_rfl);try simp only[h8,C,E,F,G,H,J,pL,aM,I]
theorem A81{rec_:U→U→Q (P (P U))}(h_rec:∀(a0 a1:U) zr,rec_ a0 a1=N zr→FC Z 81 [.sc (.int .i64 a0),.sc (.int .i64 a1)] [.sc (.o 1 (Y (rL rI) zr))]){a0 a1}{n:W}:VJ a0 a1 (Qu rec_ a0 a1 n):=by
 induction n with
 | zero=>intro _ _ r h; cases h
 | succ n ih=>
  intro v2 v3 r h σ hσ;rw[Qu] at h;have:Ct 81 _:=⟨h_rec⟩;have k0:= @A80;exact gc
theorem A4q(rec_:U→U→Q (P (P U)))(a0 a1:U)(r:(P (P U)))(h_rec:∀(a0 a1:U) zr,rec_ a0 a1=N zr→FC Z 81 [.sc (.int .i64 a0),.sc (.int .i64 a1)] [.sc (.o 1 (Y (rL rI) zr))])(h:Tt rec_ a0 a1=N r):FC Z 81 [.sc (.int .i64 a0),.sc (.int .i64 a1)] [.sc (.o 1 (Y (rL rI) r))]:=by
 unfold Tt at h;refine A5 A4 Ru [4] 56 ?_;have:Ct 81 _:=⟨h_rec⟩;have s0:= @Al (Y rI ([]:P U));have s1:= @Al (Y (rL rI) ([([]:P U)]:P (P U)));have s2:= @Al (Y (rL rI) ([]:P (P U)));have k0:= @A81;exact gc
theorem A4r:∀(n:W) (a0:U) (a1:U) (r:(P (P U))),N8 n a0 a1=N r→FC Z 81 [.sc (.int .i64 a0),.sc (.int .i64 a1)] [.sc (.o 1 (Y (rL rI) r))]:=by
 intro n
 induction n with
 | zero=>intro _ _ r h; cases h
 | succ n ih=>intro a0 a1 r h; rw[N8] at h; exact A4q (N8 n) a0 a1 r ih h
theorem A4p{a0}{a1}{r}(h:Ts a0 a1=N r):FC Z 81 [.sc (.int .i64 a0),.sc (.int .i64 a1)] [.sc (.o 1 (Y (rL rI) r))]:=A4r bigN a0 a1 r h
def TN:Hw:=([(6,[0,1,5],[],[]),(18,[0,1,5,17,18,19],[],[1088])],[])
def fi:=fun F_a1 caps_a1 a0 v1 r3 (k_:U→Q (P U))=>∀{v4} {zr},k_ v4=N zr→Kh Z 54 TN 18 [0,1,5,17,18,19] [] [1088] ⟨[pL 0 zB a0,(1,vc (.dat (.clo F_a1 caps_a1))),pI 5 v1,pW 17 1088,pI 18 (r3.length:U),pI 19 v4],[],[(1088,1,Y (rL rI) r3)]⟩ (A8 [4] [.sc (.v (.sl (Y rI zr)))])
def VG:=fun F_a1 caps_a1 a0 (k_:U→Q (P U))=>∀{v1} {zr},k_ v1=N zr→Kh Z 54 TN 6 [0,1,5] [] [] ⟨[pL 0 zB a0,(1,vc (.dat (.clo F_a1 caps_a1))),pI 5 v1],[],[]⟩ (A8 [4] [.sc (.v (.sl (Y rI zr)))])
theorem A82{a1:(P U)→Q V}{F_a1 caps_a1}(hF_a1:B4 Z F_a1=T)(h_a1:∀z0 zr,a1 z0=N zr→FC Z F_a1 ([.sc (.sl (Y rI z0))]++caps_a1.map .sc) [.sc (.v (.bool zr))]){a0 v1 r3}{P3}(tE:VG F_a1 caps_a1 a0 P3){n:W}:fi F_a1 caps_a1 a0 v1 r3 (Gy a1 a0 v1 r3 P3 n):=by
 induction n with
 | zero=>intro _ r h; cases h
 | succ n ih=>
  intro v4 r h σ hσ S hS;refine ev hS ?_;rw[Gy] at h;refine AE (Ax ?_);obtain⟨h5,h⟩|⟨h5,h⟩:=ic h
  ·obtain⟨x6,h6,h⟩:=ob h;have h6n:=Au h6;obtain⟨r7,h7,h⟩:=ob h;try simp only[hσ,h5,h6,h6n,C,E,F,G,H,J]
   refine Ly (h_a1 _ _ h7) hF_a1 X X (BD X) X (uf X) ?_;obtain⟨h8,h⟩|⟨h8,h⟩:=ic h
   ·try simp only[h5,h6,h6n,h8,C,E,F,G,H,J]
    cases h;exact t0
   ·try simp only[h5,h6,h6n,h8,C,E,F,G,H,J]
    refine ih h ?_ (by kernel_rfl);try simp only[h5,h6,h6n,h8,C,E,F,G,H,J,pL,aM,I]
  ·try simp only[hσ,h5,C,E,F,G,H,J]
   refine tE h ?_ (by kernel_rfl);try simp only[h5,C,E,F,G,H,J,pL,aM,I]
theorem A83{a1:(P U)→Q V}{F_a1 caps_a1}(hF_a1:B4 Z F_a1=T)(h_a1:∀z0 zr,a1 z0=N zr→FC Z F_a1 ([.sc (.sl (Y rI z0))]++caps_a1.map .sc) [.sc (.v (.bool zr))]){a0}{n:W}:VG F_a1 caps_a1 a0 (Ij a1 a0 n):=by
 induction n with
 | zero=>intro _ r h; cases h
 | succ n ih=>
  intro v1 r h σ hσ S hS;refine ev hS ?_;rw[Ij] at h;refine AE (Ax ?_);obtain⟨h2,h⟩|⟨h2,h⟩:=ic h
  ·obtain⟨r3,h3,h⟩:=ob h;try simp only[hσ,h2,C,E,F,G,H,J]
   refine AA (A4p h3) ?_;try simp only[h2,C,E,F,G,H,J]
   refine A82 hF_a1 h_a1 ih h ?_ (by kernel_rfl);try simp only[h2,C,E,F,G,H,J,pL,aM,I]
  ·try simp only[hσ,h2,C,E,F,G,H,J]
   cases h;exact t0
theorem A4j{a0}{a1}{r}(F_a1:FuncId)(caps_a1:P D)(hF_a1:B4 Z F_a1=T)(h_a1:∀z0 zr,a1 z0=N zr→FC Z F_a1 ([.sc (.sl (Y rI z0))]++caps_a1.map .sc) [.sc (.v (.bool zr))])(h:N4 a0 a1=N r):FC Z 54 [.sc (.sl (Y zB a0)),.sc (.clo F_a1 caps_a1)] [.sc (.v (.sl (Y rI r)))]:=by
 unfold N4 at h;refine A5 A4 TN [4] 28 ?_;have k0:= @A83;exact gc
def Yu:Hw:=([(6,[0,1,7,8,9],[],[])],[])
def ff:=fun a0 a1 (k_:U→Q V)=>∀{v1} {zr},k_ v1=N zr→Kh Z 100 Yu 6 [0,1,7,8,9] [] [] ⟨[pL 0 zB a0,pL 1 rI a1,pL 7 rI a1,pI 8 (a1.length:U),pI 9 v1],[],[]⟩ (A8 [4] [.sc (.v (.bool zr))])
theorem A84{a0 a1}{n:W}:ff a0 a1 (Gw a0 a1 n):=by
 induction n with
 | zero=>intro _ r h; cases h
 | succ n ih=>
  intro v1 r h σ hσ;rw[Gw] at h;exact gc
instance B5m:Ct 100 (∀{a0} {a1} {r},N1 a0 a1=N r→FC Z 100 [.sc (.sl (Y zB a0)),.sc (.sl (Y rI a1))] [.sc (.v (.bool r))]):=by
 refine⟨fun h=> ?_⟩;unfold N1 at h;refine A5 A4 Yu [4] 33 ?_;have k0:= @A84;exact gc
def Yv:Hw:=([(16,[0,5,13,14,15],[],[768])],[])
def fM:=fun a0 a1 (k_:U→(P Xb)→Q (P Xb))=>∀{v3 v4} {zr},k_ v3 v4=N zr→Kh Z 57 Yv 16 [0,5,13,14,15] [] [768] ⟨[pL 0 zB a0,pW 5 768,pL 13 rI a1,pI 14 (a1.length:U),pI 15 v3],[],[(768,5,Y zB v4)]⟩ (A8 [4] [.sc (.o 5 (Y zB zr))])
theorem A85{a0 a1}{n:W}:fM a0 a1 (I7 a0 a1 n):=by
 induction n with
 | zero=>intro _ _ r h; cases h
 | succ n ih=>
  intro v3 v4 r h σ hσ;rw[I7] at h;have s0:=fun(x7:Xb)=> @Al (Y zB ([x7]:P Xb))
  exact gc
instance A35:Ct 57 (∀{a0} {a1} {r},MN a0 a1=N r→FC Z 57 [.sc (.sl (Y zB a0)),.sc (.sl (Y rI a1))] [.sc (.o 5 (Y zB r))]):=by
 refine⟨fun h=> ?_⟩;unfold MN at h;refine A5 A4 Yv [4] 28 ?_;have s0:= @Al (Y zB ([]:P Xb));have k0:= @A85;exact gc
instance A3s:Ct 143 (∀{a0} {a1} {r},Kl a0 a1=N r→FC Z 143 [.ag (X5.row a0),.ag (zB a1)] [.sc (.v (.bool r))]):=by
 refine⟨fun h=> ?_⟩;unfold Kl at h;refine A5 A4 h0 [4] 12 ?_;exact gc
instance Sz:Ct 183 (∀{a0} {r},BG a0=N r→FC Z 183 [.sc (.sl (Y rI a0))] [.sc (.o 1 (Y rI r))]):=by
 refine⟨fun h=> ?_⟩;unfold BG at h;refine A5 A4 h0 [2] 8 ?_;have s0:= @Ej _ rI (0:U);exact gc
instance dA:Ct 249 (∀{a0} {a1} {r},Kw a0 a1=N r→FC Z 249 [.ag (X2.row a0),.sc (.int .i64 a1)] [.sc (.v (.int .i64 r))]):=by
 refine⟨fun h=> ?_⟩;unfold Kw at h;refine A5 A4 h0 [4] 18 ?_;exact gc
def PS:P (P W × AItem):= [([],(O,.mv 18 (S 5))),([],(O,.mv 19 (S 5))),([1],(O,.nilc 20 (S 19))),([2],(O,.load 21 (S 20) L 1)),([],(O,.mv 22 (S 3))),([4],(O,.call 23 183 [(S 22)])),([5],(O,.bslice 24 1 [.sl []] 1 [(0,(S 23))])),([3,6,5],(O,.app 25 1 24 (S 21) (S 24))),([0,0,1,2,3,4,5,6,7],(O,.nilc 26 (S 18))),([8,7,7,0,1,2,3,4,5,6,7],(O,.store (S 26) (S 25) 1))]
def M2:P (P W × AItem):= [([],(O,.load 48 (S 6) T 2)),([],(O,.mv 49 (S 14))),([],(O,.mv 50 (S 2))),([],(O,.mv 51 (S 3))),([3],(O,.call 52 183 [(S 51)])),([],(O,.mv 53 (S 12))),([5],(O,.bslice 54 1 [.int .i64 0] 1 [(0,(S 53))])),([4,6,4],(O,.app 55 1 8 (S 52) (S 54))),([],(O,.load 56 (S 10) T 8)),([],(O,.mv 57 (S 5))),([0,1,2,7,8,9,7],(O,.call 58 226 [(S 48),(S 49),(S 50),(S 55),(S 56),(S 57)]))]
def Rw:Hw:=([(15,[1,2,3,5,6,10,30,31,32],[99999999999,6,10],[90000]),(30,[1,2,3,5,6,10,12,14,30,31,32,47],[99999999999,6,10],[90000])],[])
abbrev D3(a3:P U)(wo3_ wo5_:AV)(c0_ c1_:V)(c2_ c3_:V)(c4_ c5_:V)(c6_ c7_ c8_:V)(bx_:P (W × P AC))(rs_:Rows):St:=⟨[(3,vc (aL (Y rI a3))),(5,vc (.pb 99999999999 0)),(18,bif c0_ then vc (.pb 99999999999 0) else .undef),(19,bif c1_ then vc (.pb 99999999999 0) else .undef),(20,bif c2_ then vc (.pb 99999999999 0) else .undef),(21,bif c3_ then wo3_ else .undef),(22,bif c4_ then vc (aL (Y rI a3)) else .undef),(23,bif c5_ then wo5_ else .undef),(24,bif c6_ then vc (.own 1536) else .undef),(25,bif c7_ then vc (.own 90000) else .undef),(26,bif c8_ then vc (.pb 99999999999 0) else .undef)],bx_,rs_⟩
abbrev JS(a3:P U)(a5:P (P U))(r2:(P U)):St:=(D3 a3 (vc (.undef)) (vc (aL (Y rI r2))) T T T T T T T T T [(99999999999,[.own 90000])] [(90000,1,Y (rL rI) (a5++([r2]:P (P U)))),(1536,1,Y (rL rI) ([r2]:P (P U)))])
theorem A86(rec_:X1→U→U→(P U)→X8→(P (P U))→Q (P (P U)))(h_rec:∀(a0:X1) (a1 a2:U) (a3:P U) (a4:X8) (a5:P (P U)) zr,rec_ a0 a1 a2 a3 a4 a5=N zr→FCz Z 226 [.d (.ag (X1.row a0)),.d (.sc (.int .i64 a1)),.d (.sc (.int .i64 a2)),.d (.sc (.sl (Y rI a3))),.d (.ag (X8.row a4)),.p] [.r 0] [(1,Y (rL rI) a5)] [.r 0] [(1,Y (rL rI) zr)] [])(a3)(a5:P (P U))(r2)(h2:BG a3=N r2)(h3:(A3 a5.length ([r2]:P (P U)).length 24)=T):∀(f:W),Ad Z PS (JS a3 a5 r2) f [T,T,T,T,T,T,T,T,T,T] (D3 a3 (vc (.undef)) (vc (aL (Y rI r2))) T T T T T T T T T [(99999999999,[.own 90000])] [(90000,1,Y (rL rI) (a5++([r2]:P (P U)))),(1536,1,Y (rL rI) ([r2]:P (P U)))]):=by
 intro f
 induction f with
 | zero=>intro h; rfl
 | succ f ih=>
  refine Ai ⟨?_,?_,?_,?_,?_,?_,?_,?_,?_,?_,⟨⟩⟩<;>try first | (intro h; cases h; done)
theorem A87(rec_:X1→U→U→(P U)→X8→(P (P U))→Q (P (P U)))(h_rec:∀(a0:X1) (a1 a2:U) (a3:P U) (a4:X8) (a5:P (P U)) zr,rec_ a0 a1 a2 a3 a4 a5=N zr→FCz Z 226 [.d (.ag (X1.row a0)),.d (.sc (.int .i64 a1)),.d (.sc (.int .i64 a2)),.d (.sc (.sl (Y rI a3))),.d (.ag (X8.row a4)),.p] [.r 0] [(1,Y (rL rI) a5)] [.r 0] [(1,Y (rL rI) zr)] [])(a3)(a5:P (P U))(r2)(h2:BG a3=N r2)(h3:(A3 a5.length ([r2]:P (P U)).length 24)=T):∀(f:W) (b0 b1:V) (b2 b8:V),Ad Z PS (JS a3 a5 r2) f [b0,b1,b2,T,T,T,T,T,b8,L] (D3 a3 (vc (.undef)) (vc (aL (Y rI r2))) b0 b1 b2 T T T T T b8 [(99999999999,[.undef])] [(90000,1,Y (rL rI) (a5++([r2]:P (P U)))),(1536,1,Y (rL rI) ([r2]:P (P U)))]):=by
 intro f
 induction f with
 | zero=>intro b0 b1 b2 b8 h; simp at h
 | succ f ih=>
  intro b0 b1 b2 b8;refine Ai ⟨?_,?_,?_,?_,?_,?_,?_,?_,?_,?_,⟨⟩⟩<;>try first | (intro h; cases h; done) | (intro h0 hw; obtain rfl:=hz h0 rfl; (try obtain rfl:=hq hw 0 rfl rfl); (try obtain rfl:=hq hw 1 rfl rfl); (try obtain rfl:=hq hw 2 rfl rfl); refine np ?_; simp only[D3,A6,A7,A2,C,E,F,G,H,J]; exact ih _ _ _ _)
  ·intro h0 hw;obtain rfl:=hq hw 0 rfl rfl;obtain rfl:=hq hw 1 rfl rfl;obtain rfl:=hq hw 2 rfl rfl;obtain rfl:=hq hw 8 rfl rfl;refine np ?_;try simp only[D3,A6,A7,A2,C,E,F,G,H,J]
   exact A86 rec_ h_rec a3 a5 r2 h2 h3 _
theorem A89(rec_:X1→U→U→(P U)→X8→(P (P U))→Q (P (P U)))(h_rec:∀(a0:X1) (a1 a2:U) (a3:P U) (a4:X8) (a5:P (P U)) zr,rec_ a0 a1 a2 a3 a4 a5=N zr→FCz Z 226 [.d (.ag (X1.row a0)),.d (.sc (.int .i64 a1)),.d (.sc (.int .i64 a2)),.d (.sc (.sl (Y rI a3))),.d (.ag (X8.row a4)),.p] [.r 0] [(1,Y (rL rI) a5)] [.r 0] [(1,Y (rL rI) zr)] [])(a3)(a5:P (P U))(r2)(h2:BG a3=N r2)(h3:(A3 a5.length ([r2]:P (P U)).length 24)=T):∀(f:W) (b0 b1:V) (b2 b3:V),Ad Z PS (JS a3 a5 r2) f [b0,b1,b2,b3,T,T,T,L,L,L] (D3 a3 (vc (.own 90000)) (vc (aL (Y rI r2))) b0 b1 b2 b3 T T T L L [(99999999999,[.own 90000])] [(90000,1,Y (rL rI) a5),(1536,1,Y (rL rI) ([r2]:P (P U)))]):=by
 intro f
 induction f with
 | zero=>intro b0 b1 b2 b3 h; simp at h
 | succ f ih=>
  intro b0 b1 b2 b3;refine Ai ⟨?_,?_,?_,?_,?_,?_,?_,?_,?_,?_,⟨⟩⟩<;>try first | (intro h; cases h; done) | (intro _ hw; simp at hw; done) | (intro h0 hw; obtain rfl:=hz h0 rfl; (try obtain rfl:=hq hw 1 rfl rfl); (try obtain rfl:=hq hw 2 rfl rfl); refine np ?_; simp only[D3,A6,A7,A2,C,E,F,G,H,J]; exact ih _ _ _ _)
  ·intro h0 hw;obtain rfl:=hq hw 3 rfl rfl;refine np ?_;try simp only[h3,D3,A6,A7,A2,C,E,F,G,H,J]
   exact A87 rec_ h_rec a3 a5 r2 h2 h3 _ b0 b1 b2 L
theorem A9a(rec_:X1→U→U→(P U)→X8→(P (P U))→Q (P (P U)))(h_rec:∀(a0:X1) (a1 a2:U) (a3:P U) (a4:X8) (a5:P (P U)) zr,rec_ a0 a1 a2 a3 a4 a5=N zr→FCz Z 226 [.d (.ag (X1.row a0)),.d (.sc (.int .i64 a1)),.d (.sc (.int .i64 a2)),.d (.sc (.sl (Y rI a3))),.d (.ag (X8.row a4)),.p] [.r 0] [(1,Y (rL rI) a5)] [.r 0] [(1,Y (rL rI) zr)] [])(a3)(a5:P (P U))(r2)(h2:BG a3=N r2)(h3:(A3 a5.length ([r2]:P (P U)).length 24)=T):∀(f:W) (b0 b1:V) (b2 b3:V),Ad Z PS (JS a3 a5 r2) f [b0,b1,b2,b3,T,T,L,L,L,L] (D3 a3 (vc (.own 90000)) (vc (.own 1472)) b0 b1 b2 b3 T T L L L [(99999999999,[.own 90000])] [(90000,1,Y (rL rI) a5),(1472,1,Y rI r2)]):=by
 intro f
 induction f with
 | zero=>intro b0 b1 b2 b3 h; simp at h
 | succ f ih=>
  intro b0 b1 b2 b3;refine Ai ⟨?_,?_,?_,?_,?_,?_,?_,?_,?_,?_,⟨⟩⟩<;>try first | (intro h; cases h; done) | (intro _ hw; simp at hw; done) | (intro h0 hw; obtain rfl:=hz h0 rfl; (try obtain rfl:=hq hw 1 rfl rfl); (try obtain rfl:=hq hw 2 rfl rfl); refine np ?_; simp only[D3,A6,A7,A2,C,E,F,G,H,J]; exact ih _ _ _ _)
  ·intro h0 hw;refine⟨[(O,.frz 1472)],[],X,X,?_⟩;try simp only[D3,A6,A7,zJ,zI,A2,C,E,F,G,H,J]
   refine Cj ?_;try simp only[A2,C,E,F,G,H,J]
   refine As (es:=Y (rL rI) ([r2]:P (P U))) X (by simp only[St.fresh,zC,zD,Ak]; simp[AV.cells,V1.cells,AC.uses]) ?_;try simp only[A2,C,E,F,G,H,J]
   exact A89 rec_ h_rec a3 a5 r2 h2 h3 _ b0 b1 b2 b3
theorem A9b(rec_:X1→U→U→(P U)→X8→(P (P U))→Q (P (P U)))(h_rec:∀(a0:X1) (a1 a2:U) (a3:P U) (a4:X8) (a5:P (P U)) zr,rec_ a0 a1 a2 a3 a4 a5=N zr→FCz Z 226 [.d (.ag (X1.row a0)),.d (.sc (.int .i64 a1)),.d (.sc (.int .i64 a2)),.d (.sc (.sl (Y rI a3))),.d (.ag (X8.row a4)),.p] [.r 0] [(1,Y (rL rI) a5)] [.r 0] [(1,Y (rL rI) zr)] [])(a3)(a5:P (P U))(r2)(h2:BG a3=N r2)(h3:(A3 a5.length ([r2]:P (P U)).length 24)=T):∀(f:W) (b0 b1:V) (b2 b3 b4:V),Ad Z PS (JS a3 a5 r2) f [b0,b1,b2,b3,b4,L,L,L,L,L] (D3 a3 (vc (.own 90000)) (vc (.own 1472)) b0 b1 b2 b3 b4 L L L L [(99999999999,[.own 90000])] [(90000,1,Y (rL rI) a5)]):=by
 intro f
 induction f with
 | zero=>intro b0 b1 b2 b3 b4 h; simp at h
 | succ f ih=>
  intro b0 b1 b2 b3 b4;refine Ai ⟨?_,?_,?_,?_,?_,?_,?_,?_,?_,?_,⟨⟩⟩<;>try first | (intro _ hw; simp at hw; done) | (intro h0 hw; obtain rfl:=hz h0 rfl; (try obtain rfl:=hq hw 1 rfl rfl); (try obtain rfl:=hq hw 2 rfl rfl); refine np ?_; simp only[D3,A6,A7,A2,C,E,F,G,H,J]; exact ih _ _ _ _ _)
  ·intro h0 hw;obtain rfl:=hq hw 4 rfl rfl;refine np ?_;try simp only[D3,A6,A7,A2,C,E,F,G,H,J]
   refine Lx (Ae Sz h2) X (by simp only[St.fresh,zC,zD,Ak]; simp[AV.cells,V1.cells,AC.uses]) (uf X) ?_;try simp only[A2,C,E,F,G,H,J]
   exact A9a rec_ h_rec a3 a5 r2 h2 h3 _ b0 b1 b2 b3
abbrev Cn(a1 a2:U)(a3:P U)(v6 r11:U)(a0:X1)(y7:X8)(wo4_ wo7_:AV)(c0_ c1_:V)(c2_ c3_:V)(c4_ c5_:V)(c6_ c7_:V)(c8_ c9_ c10_:V)(bx_:P (W × P AC))(rs_:Rows):St:=⟨[(1,vc (aI a1)),(2,vc (aI a2)),(3,vc (aL (Y rI a3))),(5,vc (.pb 99999999999 0)),(6,vc (.pb 6 0)),(10,vc (.pb 10 0)),(12,vc (aI v6)),(14,vc (aI r11)),(30,vc (aL (Y X2.row a0.Segments))),(31,vc (aI (a0.Segments.length:U))),(32,vc (aI v6)),(48,bif c0_ then va [aL (Y X7.row a0.Points),aL (Y X2.row a0.Segments)] else .undef),(49,bif c1_ then vc (aI r11) else .undef),(50,bif c2_ then vc (aI a2) else .undef),(51,bif c3_ then vc (aL (Y rI a3)) else .undef),(52,bif c4_ then wo4_ else .undef),(53,bif c5_ then vc (aI v6) else .undef),(54,bif c6_ then vc (.own 3456) else .undef),(55,bif c7_ then wo7_ else .undef),(56,bif c8_ then va [aB y7.i0,aB y7.i1,aB y7.i2,aB y7.i3,aB y7.i4,aB y7.i5,aB y7.i6,aB y7.i7] else .undef),(57,bif c9_ then vc (.pb 99999999999 0) else .undef),(58,bif c10_ then .tup [] else .undef)],bx_,rs_⟩
abbrev HD(a1 a2:U)(a3:P U)(v6 r11:U)(a0:X1)(y7:X8)(r18:(P U))(r20:(P (P U))):St:=(Cn a1 a2 a3 v6 r11 a0 y7 (vc (.undef)) (vc (aL (Y rI (r18++([v6]:P U))))) T T T T T T T T T T T [(99999999999,[.own 90000]),(6,[aL (Y X7.row a0.Points),aL (Y X2.row a0.Segments)]),(10,[aB y7.i0,aB y7.i1,aB y7.i2,aB y7.i3,aB y7.i4,aB y7.i5,aB y7.i6,aB y7.i7])] [(90000,1,Y (rL rI) r20),(3456,1,Y rI ([v6]:P U))])
theorem A9c(rec_:X1→U→U→(P U)→X8→(P (P U))→Q (P (P U)))(h_rec:∀(a0:X1) (a1 a2:U) (a3:P U) (a4:X8) (a5:P (P U)) zr,rec_ a0 a1 a2 a3 a4 a5=N zr→FCz Z 226 [.d (.ag (X1.row a0)),.d (.sc (.int .i64 a1)),.d (.sc (.int .i64 a2)),.d (.sc (.sl (Y rI a3))),.d (.ag (X8.row a4)),.p] [.r 0] [(1,Y (rL rI) a5)] [.r 0] [(1,Y (rL rI) zr)] [])(a1:U)(a2)(a3)(v6)(r11)(a0)(y7)(v8)(r18)(r20)(h18:BG a3=N r18)(h19:(A3 r18.length ([v6]:P U).length 8)=T)(h20:rec_ a0 r11 a2 (r18++([v6]:P U)) y7 v8=N r20):∀(f:W),Ad Z M2 (HD a1 a2 a3 v6 r11 a0 y7 r18 r20) f [T,T,T,T,T,T,T,T,T,T,T] (Cn a1 a2 a3 v6 r11 a0 y7 (vc (.undef)) (vc (aL (Y rI (r18++([v6]:P U))))) T T T T T T T T T T T [(99999999999,[.own 90000]),(6,[aL (Y X7.row a0.Points),aL (Y X2.row a0.Segments)]),(10,[aB y7.i0,aB y7.i1,aB y7.i2,aB y7.i3,aB y7.i4,aB y7.i5,aB y7.i6,aB y7.i7])] [(90000,1,Y (rL rI) r20),(3456,1,Y rI ([v6]:P U))]):=by
 intro f
 induction f with
 | zero=>intro h; rfl
 | succ f ih=>
  refine Ai ⟨?_,?_,?_,?_,?_,?_,?_,?_,?_,?_,?_,⟨⟩⟩<;>try first | (intro h; cases h; done)
theorem A9d(rec_:X1→U→U→(P U)→X8→(P (P U))→Q (P (P U)))(h_rec:∀(a0:X1) (a1 a2:U) (a3:P U) (a4:X8) (a5:P (P U)) zr,rec_ a0 a1 a2 a3 a4 a5=N zr→FCz Z 226 [.d (.ag (X1.row a0)),.d (.sc (.int .i64 a1)),.d (.sc (.int .i64 a2)),.d (.sc (.sl (Y rI a3))),.d (.ag (X8.row a4)),.p] [.r 0] [(1,Y (rL rI) a5)] [.r 0] [(1,Y (rL rI) zr)] [])(a1:U)(a2)(a3)(v6)(r11)(a0)(y7)(v8)(r18)(r20)(h18:BG a3=N r18)(h19:(A3 r18.length ([v6]:P U).length 8)=T)(h20:rec_ a0 r11 a2 (r18++([v6]:P U)) y7 v8=N r20):∀(f:W) (b0 b1:V) (b2 b8 b9:V),Ad Z M2 (HD a1 a2 a3 v6 r11 a0 y7 r18 r20) f [b0,b1,b2,T,T,T,T,T,b8,b9,L] (Cn a1 a2 a3 v6 r11 a0 y7 (vc (.undef)) (vc (.own 3328)) b0 b1 b2 T T T T T b8 b9 L [(99999999999,[.own 90000]),(6,[aL (Y X7.row a0.Points),aL (Y X2.row a0.Segments)]),(10,[aB y7.i0,aB y7.i1,aB y7.i2,aB y7.i3,aB y7.i4,aB y7.i5,aB y7.i6,aB y7.i7])] [(90000,1,Y (rL rI) v8),(3328,1,Y rI (r18++([v6]:P U))),(3456,1,Y rI ([v6]:P U))]):=by
 intro f
 induction f with
 | zero=>intro b0 b1 b2 b8 b9 h; simp at h
 | succ f ih=>
  intro b0 b1 b2 b8 b9;refine Ai ⟨?_,?_,?_,?_,?_,?_,?_,?_,?_,?_,?_,⟨⟩⟩<;>try first | (intro h; cases h; done) | (intro h0 hw; obtain rfl:=hz h0 rfl; refine np ?_; simp only[Cn,A6,A7,A2,C,E,F,G,H,J]; exact ih _ _ _ _ _)
  ·intro h0 hw;obtain rfl:=hq hw 0 rfl rfl;obtain rfl:=hq hw 1 rfl rfl;obtain rfl:=hq hw 2 rfl rfl;obtain rfl:=hq hw 8 rfl rfl;obtain rfl:=hq hw 9 rfl rfl;refine⟨[(O,.frz 3328)],[],X,X,?_⟩;try simp only[Cn,A6,A7,zJ,zI,A2,C,E,F,G,H,J]
   refine Cj ?_;try simp only[A2,C,E,F,G,H,J]
   refine H7 (h_rec _ _ _ _ _ _ _ h20) 99999999999 [90000] rfl X X X (by decide) X X X ?_;try simp only[A2,C,E,F,G,H,J]
   exact A9c rec_ h_rec a1 a2 a3 v6 r11 a0 y7 v8 r18 r20 h18 h19 h20 _
theorem dT(rec_:X1→U→U→(P U)→X8→(P (P U))→Q (P (P U)))(h_rec:∀(a0:X1) (a1 a2:U) (a3:P U) (a4:X8) (a5:P (P U)) zr,rec_ a0 a1 a2 a3 a4 a5=N zr→FCz Z 226 [.d (.ag (X1.row a0)),.d (.sc (.int .i64 a1)),.d (.sc (.int .i64 a2)),.d (.sc (.sl (Y rI a3))),.d (.ag (X8.row a4)),.p] [.r 0] [(1,Y (rL rI) a5)] [.r 0] [(1,Y (rL rI) zr)] [])(a1:U)(a2)(a3)(v6)(r11)(a0)(y7)(v8)(r18)(r20)(h18:BG a3=N r18)(h19:(A3 r18.length ([v6]:P U).length 8)=T)(h20:rec_ a0 r11 a2 (r18++([v6]:P U)) y7 v8=N r20):∀(f:W) (b0 b1:V) (b2 b8 b9:V),Ad Z M2 (HD a1 a2 a3 v6 r11 a0 y7 r18 r20) f [b0,b1,b2,T,T,T,T,L,b8,b9,L] (Cn a1 a2 a3 v6 r11 a0 y7 (vc (.own 3328)) (vc (.own 3328)) b0 b1 b2 T T T T L b8 b9 L [(99999999999,[.own 90000]),(6,[aL (Y X7.row a0.Points),aL (Y X2.row a0.Segments)]),(10,[aB y7.i0,aB y7.i1,aB y7.i2,aB y7.i3,aB y7.i4,aB y7.i5,aB y7.i6,aB y7.i7])] [(90000,1,Y (rL rI) v8),(3328,1,Y rI r18),(3456,1,Y rI ([v6]:P U))]):=by
 intro f
 induction f with
 | zero=>intro b0 b1 b2 b8 b9 h; simp at h
 | succ f ih=>
  intro b0 b1 b2 b8 b9;refine Ai ⟨?_,?_,?_,?_,?_,?_,?_,?_,?_,?_,?_,⟨⟩⟩<;>try first | (intro h; cases h; done) | (intro _ hw; simp at hw; done) | (intro h0 hw; obtain rfl:=hz h0 rfl; refine np ?_; simp only[Cn,A6,A7,A2,C,E,F,G,H,J]; exact ih _ _ _ _ _)
  ·intro h0 hw;refine np ?_;try simp only[h19,Cn,A6,A7,A2,C,E,F,G,H,J]
   exact A9d rec_ h_rec a1 a2 a3 v6 r11 a0 y7 v8 r18 r20 h18 h19 h20 _ b0 b1 b2 b8 b9
theorem A9e(rec_:X1→U→U→(P U)→X8→(P (P U))→Q (P (P U)))(h_rec:∀(a0:X1) (a1 a2:U) (a3:P U) (a4:X8) (a5:P (P U)) zr,rec_ a0 a1 a2 a3 a4 a5=N zr→FCz Z 226 [.d (.ag (X1.row a0)),.d (.sc (.int .i64 a1)),.d (.sc (.int .i64 a2)),.d (.sc (.sl (Y rI a3))),.d (.ag (X8.row a4)),.p] [.r 0] [(1,Y (rL rI) a5)] [.r 0] [(1,Y (rL rI) zr)] [])(a1:U)(a2)(a3)(v6)(r11)(a0)(y7)(v8)(r18)(r20)(h18:BG a3=N r18)(h19:(A3 r18.length ([v6]:P U).length 8)=T)(h20:rec_ a0 r11 a2 (r18++([v6]:P U)) y7 v8=N r20):∀(f:W) (b0 b1:V) (b2 b5:V) (b8 b9:V),Ad Z M2 (HD a1 a2 a3 v6 r11 a0 y7 r18 r20) f [b0,b1,b2,T,T,b5,L,L,b8,b9,L] (Cn a1 a2 a3 v6 r11 a0 y7 (vc (.own 3328)) (vc (.own 3328)) b0 b1 b2 T T b5 L L b8 b9 L [(99999999999,[.own 90000]),(6,[aL (Y X7.row a0.Points),aL (Y X2.row a0.Segments)]),(10,[aB y7.i0,aB y7.i1,aB y7.i2,aB y7.i3,aB y7.i4,aB y7.i5,aB y7.i6,aB y7.i7])] [(90000,1,Y (rL rI) v8),(3328,1,Y rI r18)]):=by
 intro f
 induction f with
 | zero=>intro b0 b1 b2 b5 b8 b9 h; simp at h
 | succ f ih=>
  intro b0 b1 b2 b5 b8 b9;refine Ai ⟨?_,?_,?_,?_,?_,?_,?_,?_,?_,?_,?_,⟨⟩⟩<;>try first | (intro h; cases h; done) | (intro _ hw; simp at hw; done) | (intro h0 hw; obtain rfl:=hz h0 rfl; refine np ?_; simp only[Cn,A6,A7,A2,C,E,F,G,H,J]; exact ih _ _ _ _ _ _)
  ·intro h0 hw;obtain rfl:=hq hw 5 rfl rfl;refine np ?_;try simp only[Cn,A6,A7,A2,C,E,F,G,H,J]
   refine As (es:=Y rI ([v6]:P U)) X (by simp only[St.fresh,zC,zD,Ak]; simp[AV.cells,V1.cells,AC.uses]) ?_;try simp only[A2,C,E,F,G,H,J]
   exact dT rec_ h_rec a1 a2 a3 v6 r11 a0 y7 v8 r18 r20 h18 h19 h20 _ b0 b1 b2 b8 b9
theorem A9f(rec_:X1→U→U→(P U)→X8→(P (P U))→Q (P (P U)))(h_rec:∀(a0:X1) (a1 a2:U) (a3:P U) (a4:X8) (a5:P (P U)) zr,rec_ a0 a1 a2 a3 a4 a5=N zr→FCz Z 226 [.d (.ag (X1.row a0)),.d (.sc (.int .i64 a1)),.d (.sc (.int .i64 a2)),.d (.sc (.sl (Y rI a3))),.d (.ag (X8.row a4)),.p] [.r 0] [(1,Y (rL rI) a5)] [.r 0] [(1,Y (rL rI) zr)] [])(a1:U)(a2)(a3)(v6)(r11)(a0)(y7)(v8)(r18)(r20)(h18:BG a3=N r18)(h19:(A3 r18.length ([v6]:P U).length 8)=T)(h20:rec_ a0 r11 a2 (r18++([v6]:P U)) y7 v8=N r20):∀(f:W) (b0 b1:V) (b2 b3:V) (b8 b9:V),Ad Z M2 (HD a1 a2 a3 v6 r11 a0 y7 r18 r20) f [b0,b1,b2,b3,L,T,T,L,b8,b9,L] (Cn a1 a2 a3 v6 r11 a0 y7 (vc (.own 3328)) (vc (.own 3328)) b0 b1 b2 b3 L T T L b8 b9 L [(99999999999,[.own 90000]),(6,[aL (Y X7.row a0.Points),aL (Y X2.row a0.Segments)]),(10,[aB y7.i0,aB y7.i1,aB y7.i2,aB y7.i3,aB y7.i4,aB y7.i5,aB y7.i6,aB y7.i7])] [(90000,1,Y (rL rI) v8),(3456,1,Y rI ([v6]:P U))]):=by
 intro f
 induction f with
 | zero=>intro b0 b1 b2 b3 b8 b9 h; simp at h
 | succ f ih=>
  intro b0 b1 b2 b3 b8 b9;refine Ai ⟨?_,?_,?_,?_,?_,?_,?_,?_,?_,?_,?_,⟨⟩⟩<;>try first | (intro h; cases h; done) | (intro _ hw; simp at hw; done) | (intro h0 hw; obtain rfl:=hz h0 rfl; refine np ?_; simp only[Cn,A6,A7,A2,C,E,F,G,H,J]; exact ih _ _ _ _ _ _)
  ·intro h0 hw;obtain rfl:=hq hw 3 rfl rfl;refine⟨[],[(O,.keep [1,2,3,5,6,10,12,14,30,31,32,48,49,50,51,52,53,54,55,56,57,58] [99999999999,6,10] [90000,3328,3456])],X,X,?_⟩;try simp only[Cn,A6,A7,zJ,zI,A2,C,E,F,G,H,J]
   refine Lx (Ae Sz h18) X (by simp only[St.fresh,zC,zD,Ak]; simp[AV.cells,V1.cells,AC.uses]) (uf X) ?_;try simp only[A2,C,E,F,G,H,J]
   exact dT rec_ h_rec a1 a2 a3 v6 r11 a0 y7 v8 r18 r20 h18 h19 h20 _ b0 b1 b2 b8 b9
theorem A9g(rec_:X1→U→U→(P U)→X8→(P (P U))→Q (P (P U)))(h_rec:∀(a0:X1) (a1 a2:U) (a3:P U) (a4:X8) (a5:P (P U)) zr,rec_ a0 a1 a2 a3 a4 a5=N zr→FCz Z 226 [.d (.ag (X1.row a0)),.d (.sc (.int .i64 a1)),.d (.sc (.int .i64 a2)),.d (.sc (.sl (Y rI a3))),.d (.ag (X8.row a4)),.p] [.r 0] [(1,Y (rL rI) a5)] [.r 0] [(1,Y (rL rI) zr)] [])(a1:U)(a2)(a3)(v6)(r11)(a0)(y7)(v8)(r18)(r20)(h18:BG a3=N r18)(h19:(A3 r18.length ([v6]:P U).length 8)=T)(h20:rec_ a0 r11 a2 (r18++([v6]:P U)) y7 v8=N r20):∀(f:W) (b0 b1:V) (b2 b3:V) (b5 b8 b9:V),Ad Z M2 (HD a1 a2 a3 v6 r11 a0 y7 r18 r20) f [b0,b1,b2,b3,L,b5,L,L,b8,b9,L] (Cn a1 a2 a3 v6 r11 a0 y7 (vc (.own 3328)) (vc (.own 3328)) b0 b1 b2 b3 L b5 L L b8 b9 L [(99999999999,[.own 90000]),(6,[aL (Y X7.row a0.Points),aL (Y X2.row a0.Segments)]),(10,[aB y7.i0,aB y7.i1,aB y7.i2,aB y7.i3,aB y7.i4,aB y7.i5,aB y7.i6,aB y7.i7])] [(90000,1,Y (rL rI) v8)]):=by
 intro f
 induction f with
 | zero=>intro b0 b1 b2 b3 b5 b8 b9 h; simp at h
 | succ f ih=>
  intro b0 b1 b2 b3 b5 b8 b9;refine Ai ⟨?_,?_,?_,?_,?_,?_,?_,?_,?_,?_,?_,⟨⟩⟩<;>try first | (intro _ hw; simp at hw; done) | (intro h0 hw; obtain rfl:=hz h0 rfl; refine np ?_; simp only[Cn,A6,A7,A2,C,E,F,G,H,J]; exact ih _ _ _ _ _ _ _)
  ·intro h0 hw;obtain rfl:=hq hw 3 rfl rfl;refine np ?_;try simp only[Cn,A6,A7,A2,C,E,F,G,H,J]
   refine Lx (Ae Sz h18) X (by simp only[St.fresh,zC,zD,Ak]; simp[AV.cells,V1.cells,AC.uses]) (uf X) ?_;try simp only[A2,C,E,F,G,H,J]
   exact A9e rec_ h_rec a1 a2 a3 v6 r11 a0 y7 v8 r18 r20 h18 h19 h20 _ b0 b1 b2 b5 b8 b9
  ·intro h0 hw;obtain rfl:=hq hw 5 rfl rfl;refine np ?_;try simp only[Cn,A6,A7,A2,C,E,F,G,H,J]
   refine As (es:=Y rI ([v6]:P U)) X (by simp only[St.fresh,zC,zD,Ak]; simp[AV.cells,V1.cells,AC.uses]) ?_;try simp only[A2,C,E,F,G,H,J]
   exact A9f rec_ h_rec a1 a2 a3 v6 r11 a0 y7 v8 r18 r20 h18 h19 h20 _ b0 b1 b2 b3 b8 b9
def ee:=fun a1 a2 a3 v6 r11 (a0:X1) (y7:X8) v8 (k_:V→Q (P (P U)))=>∀{v16} {zr},k_ v16=N zr→Kh Z 226 Rw 30 [1,2,3,5,6,10,12,14,30,31,32,47] [99999999999,6,10] [90000] ⟨[pI 1 a1,pI 2 a2,pL 3 rI a3,(5,vc (.pb 99999999999 0)),pB 6,pB 10,pI 12 v6,pI 14 r11,pL 30 X2.row a0.Segments,pI 31 (a0.Segments.length:U),pI 32 v6,(47,vc (aB v16))],[(99999999999,[.own 90000]),(6,[aM X7.row a0.Points,aM X2.row a0.Segments]),(10,[aB y7.i0,aB y7.i1,aB y7.i2,aB y7.i3,aB y7.i4,aB y7.i5,aB y7.i6,aB y7.i7])],[(90000,1,Y (rL rI) v8)]⟩ (Dj [] [] [.r 0] [(1,Y (rL rI) zr)])
def VC:=fun a1 a2 a3 (a0:X1) (y7:X8) (k_:U→(P (P U))→Q (P (P U)))=>∀{v6 v8} {zr},k_ v6 v8=N zr→Kh Z 226 Rw 15 [1,2,3,5,6,10,30,31,32] [99999999999,6,10] [90000] ⟨[pI 1 a1,pI 2 a2,pL 3 rI a3,(5,vc (.pb 99999999999 0)),pB 6,pB 10,pL 30 X2.row a0.Segments,pI 31 (a0.Segments.length:U),pI 32 v6],[(99999999999,[.own 90000]),(6,[aM X7.row a0.Points,aM X2.row a0.Segments]),(10,[aB y7.i0,aB y7.i1,aB y7.i2,aB y7.i3,aB y7.i4,aB y7.i5,aB y7.i6,aB y7.i7])],[(90000,1,Y (rL rI) v8)]⟩ (Dj [] [] [.r 0] [(1,Y (rL rI) zr)])
theorem dU{rec_:X1→U→U→(P U)→X8→(P (P U))→Q (P (P U))}(h_rec:∀(a0:X1) (a1 a2:U) (a3:P U) (a4:X8) (a5:P (P U)) zr,rec_ a0 a1 a2 a3 a4 a5=N zr→FCz Z 226 [.d (.ag (X1.row a0)),.d (.sc (.int .i64 a1)),.d (.sc (.int .i64 a2)),.d (.sc (.sl (Y rI a3))),.d (.ag (X8.row a4)),.p] [.r 0] [(1,Y (rL rI) a5)] [.r 0] [(1,Y (rL rI) zr)] []){a1 a2 a3 v6 r11 a0 y7 v8}{P1}(Zf:VC a1 a2 a3 a0 y7 P1):ee a1 a2 a3 v6 r11 a0 y7 v8 (HT rec_ a1 a2 a3 v6 r11 a0 y7 v8 P1):=by
 intro v16 r h σ hσ S hS;refine ev hS ?_;refine Ax ?_;unfold HT at h;obtain⟨h17,h⟩|⟨h17,h⟩:=ic h
 ·try simp only[hσ,h17,C,E,F,G,H,J]
  obtain⟨r18,h18,h⟩:=ob h;obtain⟨h19,h⟩:=B3 h;obtain⟨r20,h20,h⟩:=ob h;refine Ee (ks:= [1,2,3,5,6,10,12,14,30,31,32]) (bs:= [99999999999,6,10]) (rs:= [90000]) (τ:=(HD a1 a2 a3 v6 r11 a0 y7 r18 r20)) X (A9g rec_ h_rec a1 a2 a3 v6 r11 a0 y7 v8 r18 r20 h18 h19 h20 _ L L L L L L L) ?_;simp only[HD,Cn,A6];try simp only[h17,h19,C,E,F,G,H,J]
  refine Zf h ?_ (by kernel_rfl);try simp only[h17,h19,C,E,F,G,H,J,pL,aM,I]
 ·try simp only[hσ,h17,C,E,F,G,H,J]
  refine Zf h ?_ (by kernel_rfl);try simp only[h17,C,E,F,G,H,J,pL,aM,I]
theorem A9i{rec_:X1→U→U→(P U)→X8→(P (P U))→Q (P (P U))}(h_rec:∀(a0:X1) (a1 a2:U) (a3:P U) (a4:X8) (a5:P (P U)) zr,rec_ a0 a1 a2 a3 a4 a5=N zr→FCz Z 226 [.d (.ag (X1.row a0)),.d (.sc (.int .i64 a1)),.d (.sc (.int .i64 a2)),.d (.sc (.sl (Y rI a3))),.d (.ag (X8.row a4)),.p] [.r 0] [(1,Y (rL rI) a5)] [.r 0] [(1,Y (rL rI) zr)] []){a1 a2 a3 a0 y7}{n:W}:VC a1 a2 a3 a0 y7 (Gm rec_ a1 a2 a3 a0 y7 n):=by
 induction n with
 | zero=>intro _ _ r h; cases h
 | succ n ih=>
  intro v6 v8 r h σ hσ S hS;refine ev hS ?_;rw[Gm] at h;refine AE (Ax ?_);obtain⟨h9,h⟩|⟨h9,h⟩:=ic h
  ·obtain⟨x10,h10,h⟩:=ob h;try simp only[hσ,h9,h10,C,E,F,G,H,J]
   refine BM ?_;obtain⟨r11,h11,h⟩:=ob h;try simp only[h9,h10,C,E,F,G,H,J]
   refine AA (Ae dA h11) ?_;obtain⟨h12,h⟩|⟨h12,h⟩:=ic h
   ·obtain⟨h13,h⟩:=B3 h;try simp only[h9,h10,h12,C,E,F,G,H,J]
    refine OL X X h13 ?_;obtain⟨x14,h14,h⟩:=ob h;have h14n:=Au h14;have hA15:([aB y7.i0,aB y7.i1,aB y7.i2,aB y7.i3,aB y7.i4,aB y7.i5,aB y7.i6,aB y7.i7]:P AC)[zA r11]?=N (aB x14):=Wo h14n;try simp only[h9,h10,h12,hA15,C,E,F,G,H,J]
    refine dU h_rec ih h ?_ (by kernel_rfl);try simp only[h9,h10,h12,hA15,C,E,F,G,H,J,pL,aM,I]
   ·try simp only[h9,h10,h12,C,E,F,G,H,J]
    refine dU h_rec ih h ?_ (by kernel_rfl);try simp only[h9,h10,h12,C,E,F,G,H,J,pL,aM,I]
  ·try simp only[hσ,h9,C,E,F,G,H,J]
   cases h;exact⟨trivial,[90000],by decide,by decide,X,X⟩
theorem oq:B1 Z 226=N ((C3 Z 226 Rw).strip,[],60):=by kernel_rfl
theorem A3v(rec_:X1→U→U→(P U)→X8→(P (P U))→Q (P (P U)))(a0:X1)(a1 a2:U)(a3:P U)(a4:X8)(a5:P (P U))(r:(P (P U)))(h_rec:∀(a0:X1) (a1 a2:U) (a3:P U) (a4:X8) (a5:P (P U)) zr,rec_ a0 a1 a2 a3 a4 a5=N zr→FCz Z 226 [.d (.ag (X1.row a0)),.d (.sc (.int .i64 a1)),.d (.sc (.int .i64 a2)),.d (.sc (.sl (Y rI a3))),.d (.ag (X8.row a4)),.p] [.r 0] [(1,Y (rL rI) a5)] [.r 0] [(1,Y (rL rI) zr)] [])(h:Ql rec_ a0 a1 a2 a3 a4 a5=N r):FCz Z 226 [.d (.ag (X1.row a0)),.d (.sc (.int .i64 a1)),.d (.sc (.int .i64 a2)),.d (.sc (.sl (Y rI a3))),.d (.ag (X8.row a4)),.p] [.r 0] [(1,Y (rL rI) a5)] [.r 0] [(1,Y (rL rI) r)] []:=by
 unfold Ql at h;refine PZ (σ:=⟨[(0,va [aL (Y X7.row a0.Points),aL (Y X2.row a0.Segments)]),(1,vc (aI a1)),(2,vc (aI a2)),(3,vc (aL (Y rI a3))),(4,va [aB a4.i0,aB a4.i1,aB a4.i2,aB a4.i3,aB a4.i4,aB a4.i5,aB a4.i6,aB a4.i7]),(5,vc (.pb 99999999999 0))],[(99999999999,[.own 90000])],[(90000,1,Y (rL rI) a5)]⟩) A4 oq X X X X ?_;refine Cb Rw ?_;intro S hS;refine ev hS ?_;try simp only[C,E,F,G,H,J]
 refine Bg ?_;try simp only[C,E,F,G,H,J]
 refine Bg ?_;obtain⟨h1,h⟩|⟨h1,h⟩:=ic h
 ·try simp only[h1,C,E,F,G,H,J]
  obtain⟨r2,h2,h⟩:=ob h;obtain⟨h3,h⟩:=B3 h;refine Ee (ks:= [3,5]) (bs:= [99999999999]) (rs:= [90000]) (τ:=(JS a3 a5 r2)) X (A9b rec_ h_rec a3 a5 r2 h2 h3 _ L L L L L) ?_;simp only[JS,D3,A6];try simp only[h1,h3,C,E,F,G,H,J]
  cases h;exact⟨trivial,[90000],by decide,by decide,X,X⟩
 ·obtain⟨h4,h⟩:=B3 h;try simp only[h1,C,E,F,G,H,J]
  refine OL X X h4 ?_;have hA5:BT [aB a4.i0,aB a4.i1,aB a4.i2,aB a4.i3,aB a4.i4,aB a4.i5,aB a4.i6,aB a4.i7] (zA a1) [aB T]= [aB ((X8.set a4 (zA a1) T)).i0,aB ((X8.set a4 (zA a1) T)).i1,aB ((X8.set a4 (zA a1) T)).i2,aB ((X8.set a4 (zA a1) T)).i3,aB ((X8.set a4 (zA a1) T)).i4,aB ((X8.set a4 (zA a1) T)).i5,aB ((X8.set a4 (zA a1) T)).i6,aB ((X8.set a4 (zA a1) T)).i7]:=X8.set_eq a4 (Fa h4);have hA5g:Cd [aB a4.i0,aB a4.i1,aB a4.i2,aB a4.i3,aB a4.i4,aB a4.i5,aB a4.i6,aB a4.i7] (zA a1+1)=T:=T3 (Fa h4);have hA5h:Cd [aB a4.i1,aB a4.i2,aB a4.i3,aB a4.i4,aB a4.i5,aB a4.i6,aB a4.i7] (zA a1)=T:=T4 (c:=aB a4.i0) (Fa h4);try simp only[h1,hA5,hA5g,hA5h,C,E,F,G,H,J]
  refine A9i h_rec h ?_ (by kernel_rfl);try simp only[h1,hA5,hA5g,hA5h,C,E,F,G,H,J,pL,aM,I]
theorem A3w:∀(n:W) (a0:X1) (a1:U) (a2:U) (a3:P U) (a4:X8) (a5:P (P U)) (r:(P (P U))),Gn n a0 a1 a2 a3 a4 a5=N r→FCz Z 226 [.d (.ag (X1.row a0)),.d (.sc (.int .i64 a1)),.d (.sc (.int .i64 a2)),.d (.sc (.sl (Y rI a3))),.d (.ag (X8.row a4)),.p] [.r 0] [(1,Y (rL rI) a5)] [.r 0] [(1,Y (rL rI) r)] []:=by
 intro n
 induction n with
 | zero=>intro _ _ _ _ _ _ r h; cases h
 | succ n ih=>intro a0 a1 a2 a3 a4 a5 r h; rw[Gn] at h; exact A3v (Gn n) a0 a1 a2 a3 a4 a5 r ih h
theorem A3u{a0}{a1}{a2}{a3}{a4}{a5}{r}(h:Tn a0 a1 a2 a3 a4 a5=N r):FCz Z 226 [.d (.ag (X1.row a0)),.d (.sc (.int .i64 a1)),.d (.sc (.int .i64 a2)),.d (.sc (.sl (Y rI a3))),.d (.ag (X8.row a4)),.p] [.r 0] [(1,Y (rL rI) a5)] [.r 0] [(1,Y (rL rI) r)] []:=A3w bigN a0 a1 a2 a3 a4 a5 r h
instance A34:Ct 203 (∀{a0} {a1} {a2} {r},ML a0 a1 a2=N r→FC Z 203 [.ag (X1.row a0),.sc (.int .i64 a1),.sc (.int .i64 a2)] [.sc (.o 1 (Y (rL rI) r))]):=by
 refine⟨fun{a0} {a1} {a2} {r} h=> ?_⟩;unfold ML at h;refine A5 A4 h0 [6] 34 ?_;intro S hS;refine ev hS ?_;simp only[C,E,F,G,H,J];try simp only[C,E,F,G,H,J]
 refine Bg ?_;obtain⟨r1,h1,h⟩:=ob h;try simp only[C,E,F,G,H,J]
 refine AA (Ae A3t h1) ?_;obtain⟨h2,h⟩|⟨h2,h⟩:=ic h
 ·obtain⟨r3,h3,h⟩:=ob h;try simp only[h2,C,E,F,G,H,J]
  refine AA (Ae SA h3) ?_;obtain⟨h4,h⟩|⟨h4,h⟩:=ic h
  ·obtain⟨r5,h5,h⟩:=ob h;try simp only[h2,h4,C,E,F,G,H,J]
   refine AA (Ae SA h5) ?_;obtain⟨h6,h⟩|⟨h6,h⟩:=ic h
   ·try simp only[h2,h4,h6,C,E,F,G,H,J]
    refine Bf (es:=Y (rL rI) ([]:P (P U))) ?_;try simp only[h2,h4,h6,C,E,F,G,H,J]
    refine BM ?_;try simp only[h2,h4,h6,C,E,F,G,H,J]
    refine Rk ?_;obtain⟨r7,h7,h⟩:=ob h;try simp only[h2,h4,h6,C,E,F,G,H,J]
    refine H7 (A3u h7) 7 [1728] rfl X X X (by decide) X X X ?_;try simp only[h2,h4,h6,C,E,F,G,H,J]
    cases h;exact t0
   ·try simp only[h2,h4,h6,C,E,F,G,H,J]
    cases h;exact t0
  ·try simp only[h2,h4,C,E,F,G,H,J]
   cases h;exact t0
 ·try simp only[h2,C,E,F,G,H,J]
  cases h;exact t0
def Yw:Hw:=([(16,[2,5,11,12,13],[2],[])],[])
def fL:=fun a1 (a0:X1) (k_:U→U→Q U)=>∀{v3 v4} {zr},k_ v3 v4=N zr→Kh Z 204 Yw 16 [2,5,11,12,13] [2] [] ⟨[pB 2,pI 5 v3,pL 11 rI a1,pI 12 (a1.length:U),pI 13 v4],[(2,[aM X7.row a0.Points,aM X2.row a0.Segments])],[]⟩ (A8 [4] [.sc (.v (.int .i64 zr))])
theorem A9j{a1 a0}{n:W}:fL a1 a0 (I6 a1 a0 n):=by
 induction n with
 | zero=>intro _ _ r h; cases h
 | succ n ih=>
  intro v3 v4 r h σ hσ;rw[I6] at h;exact gc
instance cy:Ct 204 (∀{a0} {a1} {r},Gt a0 a1=N r→FC Z 204 [.ag (X1.row a0),.sc (.sl (Y rI a1))] [.sc (.v (.int .i64 r))]):=by
 refine⟨fun h=> ?_⟩;unfold Gt at h;refine A5 A4 Yw [4] 33 ?_;have k0:= @A9j;exact gc
def Yx:Hw:=([(18,[3,9,22,23,24],[3],[960])],[])
def eV:=fun r1 (a0:X1) (k_:(P U)→U→Q ((P U) × V))=>∀{v4 v5} {zr},k_ v4 v5=N zr→Kh Z 176 Yx 18 [3,9,22,23,24] [3] [960] ⟨[pB 3,pL 9 rI v4,pW 22 960,pI 23 (r1.length:U),pI 24 v5],[(3,[aM X7.row a0.Points,aM X2.row a0.Segments])],[(960,1,Y (rL rI) r1)]⟩ (A8 [6,7] [.sc (.v (.sl (Y rI zr.1))),.sc (.v (.bool zr.2))])
theorem A9k{r1 a0}{n:W}:eV r1 a0 (Fe r1 a0 n):=by
 induction n with
 | zero=>intro _ _ r h; cases h
 | succ n ih=>
  intro v4 v5 r h σ hσ S hS;refine ev hS ?_;rw[Fe] at h;refine AE (Ax ?_);obtain⟨h6,h⟩|⟨h6,h⟩:=ic h
  ·obtain⟨x7,h7,h⟩:=ob h;have h7n:=Au h7;try simp only[hσ,h6,h7,h7n,C,E,F,G,H,J]
   refine Ay ?_;obtain⟨r9,h9,h⟩:=ob h;try simp only[h6,h7,h7n,C,E,F,G,H,J]
   refine Cc (Ae cy h9) ?_;obtain⟨r10,h10,h⟩:=ob h;try simp only[h6,h7,h7n,C,E,F,G,H,J]
   refine Cc (Ae cy h10) ?_;obtain⟨h11,h⟩|⟨h11,h⟩:=ic h
   ·try simp only[h6,h7,h7n,h11,C,E,F,G,H,J]
    refine ih h ?_ (by kernel_rfl);try simp only[h6,h7,h7n,h11,C,E,F,G,H,J,pL,aM,I]
   ·try simp only[h6,h7,h7n,h11,C,E,F,G,H,J]
    refine ih h ?_ (by kernel_rfl);try simp only[h6,h7,h7n,h11,C,E,F,G,H,J,pL,aM,I]
  ·try simp only[hσ,h6,C,E,F,G,H,J]
   cases h;trivial
instance B4e:Ct 176 (∀{a0} {a1} {a2} {r},Mn a0 a1 a2=N r→FC Z 176 [.ag (X1.row a0),.sc (.int .i64 a1),.sc (.int .i64 a2)] [.sc (.v (.sl (Y rI r.1))),.sc (.v (.bool r.2))]):=by
 refine⟨fun{a0} {a1} {a2} {r} h=> ?_⟩;unfold Mn at h;refine A5 A4 Yx [6,7] 38 ?_;intro S hS;refine ev hS ?_;simp only[C,E,F,G,H,J];try simp only[C,E,F,G,H,J]
 refine Bg ?_;obtain⟨r1,h1,h⟩:=ob h;try simp only[C,E,F,G,H,J]
 refine AA (Ae A34 h1) ?_;obtain⟨h2,h⟩|⟨h2,h⟩:=ic h
 ·try simp only[h2,C,E,F,G,H,J]
  cases h;trivial
 ·obtain⟨x3,h3,h⟩:=ob h;have h3n:=Au h3;try simp only[h2,h3,h3n,C,E,F,G,H,J]
  refine A9k h ?_ (by kernel_rfl);try simp only[h2,h3,h3n,C,E,F,G,H,J,pL,aM,I]
def TO:Hw:=([(20,[1,3,8,9,22,23,24],[3,8],[1344]),(44,[1,3,8,9,22,23,24,47],[3,8],[1344])],[])
def eZ:=fun r14 a2 v6 (a0:X1) (v7:X8) v8 (k_:V→Q ((P U) × V))=>∀{v19} {zr},k_ v19=N zr→Kh Z 227 TO 44 [1,3,8,9,22,23,24,47] [3,8] [1344] ⟨[pI 1 r14,pB 3,pB 8,pW 9 1344,pL 22 rI a2,pI 23 (a2.length:U),pI 24 v6,(47,vc (aB v19))],[(3,[aM X7.row a0.Points,aM X2.row a0.Segments]),(8,[aB v7.i0,aB v7.i1,aB v7.i2,aB v7.i3,aB v7.i4,aB v7.i5,aB v7.i6,aB v7.i7])],[(1344,1,Y rI v8)]⟩ (A8 [6,7] [.sc (.o 1 (Y rI zr.1)),.sc (.v (.bool zr.2))])
def VB:=fun a2 (a0:X1) (k_:U→U→X8→(P U)→Q ((P U) × V))=>∀{v5 v6 v7 v8} {zr},k_ v5 v6 v7 v8=N zr→Kh Z 227 TO 20 [1,3,8,9,22,23,24] [3,8] [1344] ⟨[pI 1 v5,pB 3,pB 8,pW 9 1344,pL 22 rI a2,pI 23 (a2.length:U),pI 24 v6],[(3,[aM X7.row a0.Points,aM X2.row a0.Segments]),(8,[aB v7.i0,aB v7.i1,aB v7.i2,aB v7.i3,aB v7.i4,aB v7.i5,aB v7.i6,aB v7.i7])],[(1344,1,Y rI v8)]⟩ (A8 [6,7] [.sc (.o 1 (Y rI zr.1)),.sc (.v (.bool zr.2))])
theorem dV{r14 a2 v6 a0 v7 v8}{RS}(tA:VB a2 a0 RS):eZ r14 a2 v6 a0 v7 v8 (HS r14 a2 v6 a0 v7 v8 RS):=by
 intro v19 r h σ hσ S hS;refine ev hS ?_;refine Ax ?_;unfold HS at h;obtain⟨h20,h⟩|⟨h20,h⟩:=ic h
 ·try simp only[hσ,h20,C,E,F,G,H,J]
  cases h;trivial
 ·obtain⟨h21,h⟩:=B3 h;try simp only[hσ,h20,C,E,F,G,H,J]
  refine OL X X h21 ?_;have hA22:BT [aB v7.i0,aB v7.i1,aB v7.i2,aB v7.i3,aB v7.i4,aB v7.i5,aB v7.i6,aB v7.i7] (zA r14) [aB T]= [aB ((X8.set v7 (zA r14) T)).i0,aB ((X8.set v7 (zA r14) T)).i1,aB ((X8.set v7 (zA r14) T)).i2,aB ((X8.set v7 (zA r14) T)).i3,aB ((X8.set v7 (zA r14) T)).i4,aB ((X8.set v7 (zA r14) T)).i5,aB ((X8.set v7 (zA r14) T)).i6,aB ((X8.set v7 (zA r14) T)).i7]:=X8.set_eq v7 (Fa h21);have hA22g:Cd [aB v7.i0,aB v7.i1,aB v7.i2,aB v7.i3,aB v7.i4,aB v7.i5,aB v7.i6,aB v7.i7] (zA r14+1)=T:=T3 (Fa h21);have hA22h:Cd [aB v7.i1,aB v7.i2,aB v7.i3,aB v7.i4,aB v7.i5,aB v7.i6,aB v7.i7] (zA r14)=T:=T4 (c:=aB v7.i0) (Fa h21);try simp only[h20,hA22,hA22g,hA22h,C,E,F,G,H,J]
  refine Bf (es:=Y rI ([r14]:P U)) ?_;obtain⟨h23,h⟩:=B3 h;try simp only[h20,hA22,hA22g,hA22h,h23,C,E,F,G,H,J]
  refine tA h ?_ (by kernel_rfl);try simp only[h20,hA22,hA22g,hA22h,h23,C,E,F,G,H,J,pL,aM,I]
theorem A9l{a2 a0}{n:W}:VB a2 a0 (Gl a2 a0 n):=by
 induction n with
 | zero=>intro _ _ _ _ r h; cases h
 | succ n ih=>
  intro v5 v6 v7 v8 r h σ hσ S hS;refine ev hS ?_;rw[Gl] at h;refine AE (Ax ?_);obtain⟨h9,h⟩|⟨h9,h⟩:=ic h
  ·obtain⟨x10,h10,h⟩:=ob h;obtain⟨r11,h11,h⟩:=ob h;try simp only[hσ,h9,h10,C,E,F,G,H,J]
   refine AA (Ae SA h11) ?_;obtain⟨h12,h⟩|⟨h12,h⟩:=ic h
   ·obtain⟨x13,h13,h⟩:=ob h;obtain⟨r14,h14,h⟩:=ob h;try simp only[h9,h10,h12,h13,C,E,F,G,H,J]
    refine AA (Ae dA h14) ?_;obtain⟨h15,h⟩|⟨h15,h⟩:=ic h
    ·try simp only[h9,h10,h12,h13,h15,C,E,F,G,H,J]
     refine dV ih h ?_ (by kernel_rfl);try simp only[h9,h10,h12,h13,h15,C,E,F,G,H,J,pL,aM,I]
    ·obtain⟨h16,h⟩:=B3 h;try simp only[h9,h10,h12,h13,h15,C,E,F,G,H,J]
     refine OL X X h16 ?_;obtain⟨x17,h17,h⟩:=ob h;have h17n:=Au h17;have hA18:([aB v7.i0,aB v7.i1,aB v7.i2,aB v7.i3,aB v7.i4,aB v7.i5,aB v7.i6,aB v7.i7]:P AC)[zA r14]?=N (aB x17):=Wo h17n;try simp only[h9,h10,h12,h13,h15,hA18,C,E,F,G,H,J]
     refine dV ih h ?_ (by kernel_rfl);try simp only[h9,h10,h12,h13,h15,hA18,C,E,F,G,H,J,pL,aM,I]
   ·try simp only[h9,h10,h12,C,E,F,G,H,J]
    cases h;trivial
  ·try simp only[hσ,h9,C,E,F,G,H,J]
   cases h;trivial
instance B4g:Ct 227 (∀{a0} {a1} {a2} {r},HR a0 a1 a2=N r→FC Z 227 [.ag (X1.row a0),.sc (.int .i64 a1),.sc (.sl (Y rI a2))] [.sc (.o 1 (Y rI r.1)),.sc (.v (.bool r.2))]):=by
 refine⟨fun{a0} {a1} {a2} {r} h=> ?_⟩;unfold HR at h;refine A5 A4 TO [6,7] 56 ?_;intro S hS;refine ev hS ?_;simp only[C,E,F,G,H,J];try simp only[C,E,F,G,H,J]
 refine Bg ?_;obtain⟨r1,h1,h⟩:=ob h;try simp only[C,E,F,G,H,J]
 refine AA (Ae SA h1) ?_;obtain⟨h2,h⟩|⟨h2,h⟩:=ic h
 ·try simp only[h2,C,E,F,G,H,J]
  refine BM ?_;obtain⟨h3,h⟩:=B3 h;try simp only[h2,C,E,F,G,H,J]
  refine OL X X h3 ?_;have hA4:BT [aB L,aB L,aB L,aB L,aB L,aB L,aB L,aB L] (zA a1) [aB T]= [aB ((X8.set (⟨L,L,L,L,L,L,L,L⟩:X8) (zA a1) T)).i0,aB ((X8.set (⟨L,L,L,L,L,L,L,L⟩:X8) (zA a1) T)).i1,aB ((X8.set (⟨L,L,L,L,L,L,L,L⟩:X8) (zA a1) T)).i2,aB ((X8.set (⟨L,L,L,L,L,L,L,L⟩:X8) (zA a1) T)).i3,aB ((X8.set (⟨L,L,L,L,L,L,L,L⟩:X8) (zA a1) T)).i4,aB ((X8.set (⟨L,L,L,L,L,L,L,L⟩:X8) (zA a1) T)).i5,aB ((X8.set (⟨L,L,L,L,L,L,L,L⟩:X8) (zA a1) T)).i6,aB ((X8.set (⟨L,L,L,L,L,L,L,L⟩:X8) (zA a1) T)).i7]:=X8.set_eq (⟨L,L,L,L,L,L,L,L⟩:X8) (Fa h3);have hA4g:Cd [aB L,aB L,aB L,aB L,aB L,aB L,aB L,aB L] (zA a1+1)=T:=T3 (Fa h3);have hA4h:Cd [aB L,aB L,aB L,aB L,aB L,aB L,aB L] (zA a1)=T:=T4 (c:=aB L) (Fa h3);try simp only[h2,hA4,hA4g,hA4h,C,E,F,G,H,J]
  refine Bf (es:=Y rI ([a1]:P U)) ?_;try simp only[h2,hA4,hA4g,hA4h,C,E,F,G,H,J]
  refine A9l h ?_ (by kernel_rfl);try simp only[h2,hA4,hA4g,hA4h,C,E,F,G,H,J,pL,aM,I]
 ·try simp only[h2,C,E,F,G,H,J]
  cases h;trivial
instance cz:Ct 205 (∀{a0} {a1} {a2} {r},E6 a0 a1 a2=N r→FC Z 205 [.ag (X1.row a0),.sc (.int .i64 a1),.sc (.sl (Y rI a2))] [.sc (.o 1 (Y rI r))]):=by
 refine⟨fun h=> ?_⟩;unfold E6 at h;refine A5 A4 h0 [6] 20 ?_;exact gc
instance B43:Ct 228 (∀{a0} {a1} {a2} {r},Fi a0 a1 a2=N r→FC Z 228 [.ag (X1.row a0),.sc (.int .i64 a1),.sc (.sl (Y rI a2))] [.sc (.v (.bool r))]):=by
 refine⟨fun h=> ?_⟩;unfold Fi at h;refine A5 A4 h0 [6] 20 ?_;exact gc
instance dB:Ct 229 (∀{a0} {a1} {r},Fj a0 a1=N r→FC Z 229 [.ag (X4.row a0),.ag (X2.row a1)] [.sc (.v (.int .i64 r))]):=by
 refine⟨fun h=> ?_⟩;unfold Fj at h;refine A5 A4 h0 [4] 12 ?_;exact gc
instance B5p:Ct 250 (∀{a0} {a1} {a2} {r},Ik a0 a1 a2=N r→FC Z 250 [.ag (X1.row a0),.sc (.int .i64 a1),.ag (X4.row a2)] [.sc (.v (.bool r))]):=by
 refine⟨fun h=> ?_⟩;unfold Ik at h;refine A5 A4 h0 [6] 20 ?_;exact gc
instance B48:Ct 281 (∀{a0} {r},Qq a0=N r→FC Z 281 [.ag (X4.row a0)] [.sc (.v (.int .i64 r))]):=by
 refine⟨fun h=> ?_⟩;unfold Qq at h;refine A5 A4 h0 [2] 11 ?_;exact gc
instance B47:Ct 270 (∀{a0} {r},Qp a0=N r→FC Z 270 [.ag (X4.row a0)] [.sc (.v (.int .i64 r))]):=by
 refine⟨fun h=> ?_⟩;unfold Qp at h;refine A5 A4 h0 [2] 9 ?_;exact gc
instance B4t:Ct 253 (∀{a0} {a1} {a2} {r},MC a0 a1 a2=N r→FC Z 253 [.ag (X1.row a0),.sc (.int .i64 a1),.ag (X4.row a2)] [.sc (.v (.int .i64 r))]):=by
 refine⟨fun h=> ?_⟩;unfold MC at h;refine A5 A4 h0 [6] 21 ?_;exact gc
def Rx:Hw:=([(10,[0,3,4,5],[],[384]),(35,[0,3,4,5],[],[384]),(36,[0,3,4,5],[],[384])],[])
def fz:=fun F_a0 caps_a0 v2 (k_:V→(P X6)→Q (P X6))=>∀{v11 v12} {zr},k_ v11 v12=N zr→Kh Z 267 Rx 36 [0,3,4,5] [] [384] ⟨[(0,vc (.dat (.clo F_a0 caps_a0))),pW 3 384,(4,vc (aB v11)),pI 5 v2],[],[(384,2,Y X6.row v12)]⟩ (A8 [2] [.sc (.o 2 (Y X6.row zr))])
def fy:=fun F_a0 caps_a0 v2 (k_:(P X6)→Q (P X6))=>∀{v9} {zr},k_ v9=N zr→Kh Z 267 Rx 35 [0,3,4,5] [] [384] ⟨[(0,vc (.dat (.clo F_a0 caps_a0))),pW 3 384,(4,vc (aB T)),pI 5 v2],[],[(384,2,Y X6.row v9)]⟩ (A8 [2] [.sc (.o 2 (Y X6.row zr))])
def SL:=fun F_a0 caps_a0 (k_:V→U→(P X6)→Q (P X6))=>∀{v1 v2 v3} {zr},k_ v1 v2 v3=N zr→Kh Z 267 Rx 10 [0,3,4,5] [] [384] ⟨[(0,vc (.dat (.clo F_a0 caps_a0))),pW 3 384,(4,vc (aB v1)),pI 5 v2],[],[(384,2,Y X6.row v3)]⟩ (A8 [2] [.sc (.o 2 (Y X6.row zr))])
theorem dW{a0:U→Q V}{F_a0 caps_a0}(hF_a0:B4 Z F_a0=T)(h_a0:∀z0 zr,a0 z0=N zr→FC Z F_a0 ([.sc (.int .i64 z0)]++caps_a0.map .sc) [.sc (.v (.bool zr))]){v2}{FW}(Zi:SL F_a0 caps_a0 FW):fz F_a0 caps_a0 v2 (It a0 v2 FW):=by
 intro v11 v12 r h σ hσ;unfold It at h;have k0:= @Zi;exact gc
theorem dX{a0:U→Q V}{F_a0 caps_a0}(hF_a0:B4 Z F_a0=T)(h_a0:∀z0 zr,a0 z0=N zr→FC Z F_a0 ([.sc (.int .i64 z0)]++caps_a0.map .sc) [.sc (.v (.bool zr))]){v2}{FW}(Zi:SL F_a0 caps_a0 FW):fy F_a0 caps_a0 v2 (KJ a0 v2 FW):=by
 intro v9 r h σ hσ;unfold KJ at h;have s0:=fun(x10:X6)=> @Eo _ X6.row ((⟨x10.From,v2⟩:X6))
 have k0:= @dW;exact gc
theorem A9n{a0:U→Q V}{F_a0 caps_a0}(hF_a0:B4 Z F_a0=T)(h_a0:∀z0 zr,a0 z0=N zr→FC Z F_a0 ([.sc (.int .i64 z0)]++caps_a0.map .sc) [.sc (.v (.bool zr))]){n:W}:SL F_a0 caps_a0 (Ft a0 n):=by
 induction n with
 | zero=>intro _ _ _ r h; cases h
 | succ n ih=>
  intro v1 v2 v3 r h σ hσ S hS;refine ev hS ?_;rw[Ft] at h;refine AE (Ax ?_);obtain⟨h4,h⟩|⟨h4,h⟩:=ic h
  ·obtain⟨r5,h5,h⟩:=ob h;try simp only[hσ,h4,C,E,F,G,H,J]
   refine Ly (h_a0 _ _ h5) hF_a0 X X (BD X) X (uf X) ?_;obtain⟨h6,h⟩|⟨h6,h⟩:=ic h
   ·obtain⟨h7,h⟩|⟨h7,h⟩:=ic h
    ·try simp only[h4,h6,h7,C,E,F,G,H,J]
     refine dX hF_a0 h_a0 ih h ?_ (by kernel_rfl);try simp only[h4,h6,h7,C,E,F,G,H,J,pL,aM,I]
    ·try simp only[h4,h6,h7,C,E,F,G,H,J]
     refine Bf (es:=Y X6.row ([(⟨v2,(0:U)⟩:X6)]:P X6)) ?_;obtain⟨h8,h⟩:=B3 h;try simp only[h4,h6,h7,h8,C,E,F,G,H,J]
     refine dX hF_a0 h_a0 ih h ?_ (by kernel_rfl);try simp only[h4,h6,h7,h8,C,E,F,G,H,J,pL,aM,I]
   ·try simp only[h4,h6,C,E,F,G,H,J]
    refine dW hF_a0 h_a0 ih h ?_ (by kernel_rfl);try simp only[h4,h6,C,E,F,G,H,J,pL,aM,I]
  ·try simp only[hσ,h4,C,E,F,G,H,J]
   cases h;exact t0
theorem A4t{a0}{r}(F_a0:FuncId)(caps_a0:P D)(hF_a0:B4 Z F_a0=T)(h_a0:∀z0 zr,a0 z0=N zr→FC Z F_a0 ([.sc (.int .i64 z0)]++caps_a0.map .sc) [.sc (.v (.bool zr))])(h:Nc a0=N r):FC Z 267 [.sc (.clo F_a0 caps_a0)] [.sc (.o 2 (Y X6.row r))]:=by
 unfold Nc at h;refine A5 A4 Rx [2] 30 ?_;have s0:= @Al (Y X6.row ([]:P X6));have k0:= @A9n;exact gc
instance B5e:Ct 285 (∀{a0} {a1} {r},MT a0 a1=N r→FC Z 285 [.sc (.int .i64 a0),.sc (.int .i64 a1)] [.sc (.v (.int .i64 r))]):=by
 refine⟨fun h=> ?_⟩;unfold MT at h;refine A5 A4 h0 [4] 46 ?_;exact gc
def Yy:Hw:=([(8,[1,5,11,12,13],[],[])],[])
def fQ:=fun a1 (a0:Xm) (k_:U→U→Q U)=>∀{v1 v2} {zr},k_ v1 v2=N zr→Kh Z 279 Yy 8 [1,5,11,12,13] [] [] ⟨[pI 1 a1,pI 5 v1,pL 11 zG a0.Parts,pI 12 (a0.Parts.length:U),pI 13 v2],[],[]⟩ (A8 [4] [.sc (.v (.int .i64 zr))])
theorem A9o{a1 a0}{n:W}:fQ a1 a0 (Ia a1 a0 n):=by
 induction n with
 | zero=>intro _ _ r h; cases h
 | succ n ih=>
  intro v1 v2 r h σ hσ;rw[Ia] at h;exact gc
instance B5d:Ct 279 (∀{a0} {a1} {r},Qs a0 a1=N r→FC Z 279 [.ag (Xm.row a0),.sc (.int .i64 a1)] [.sc (.v (.int .i64 r))]):=by
 refine⟨fun h=> ?_⟩;unfold Qs at h;refine A5 A4 Yy [4] 32 ?_;have k0:= @A9o;exact gc
def Yz:Hw:=([(8,[1,5,9,10,11],[],[])],[])
def fC:=fun a1 (a0:Xe) (k_:U→U→Q U)=>∀{v1 v2} {zr},k_ v1 v2=N zr→Kh Z 280 Yz 8 [1,5,9,10,11] [] [] ⟨[pI 1 a1,pI 5 v1,pL 9 zF a0.Surges,pI 10 (a0.Surges.length:U),pI 11 v2],[],[]⟩ (A8 [4] [.sc (.v (.int .i64 zr))])
theorem A9p{a1 a0}{n:W}:fC a1 a0 (Fh a1 a0 n):=by
 induction n with
 | zero=>intro _ _ r h; cases h
 | succ n ih=>
  intro v1 v2 r h σ hσ;rw[Fh] at h;exact gc
instance B4m:Ct 280 (∀{a0} {a1} {r},Mw a0 a1=N r→FC Z 280 [.ag (zH a0),.sc (.int .i64 a1)] [.sc (.v (.int .i64 r))]):=by
 refine⟨fun h=> ?_⟩;unfold Mw at h;refine A5 A4 Yz [4] 23 ?_;have k0:= @A9p;exact gc
instance B4l:Ct 269 (∀{a0} {a1} {r},Mv a0 a1=N r→FC Z 269 [.ag (zH a0),.sc (.int .i64 a1)] [.sc (.v (.int .i64 r))]):=by
 refine⟨fun h=> ?_⟩;unfold Mv at h;refine A5 A4 h0 [4] 18 ?_;exact gc
theorem A9q{a0}{c0}{c1}{r}(h:Qn a0 c0 c1=N r):FC Z 268 [.sc (.int .i64 a0),.sc (.pd (zH c0)),.sc (.pd (rI c1))] [.sc (.v (.bool r))]:=by
 unfold Qn at h;refine A5 A4 h0 [4] 10 ?_;exact gc
instance B4u:Ct 252 (∀{a0} {a1} {r},MD a0 a1=N r→FC Z 252 [.ag (zH a0),.sc (.int .i64 a1)] [.sc (.o 2 (Y X6.row r))]):=by
 refine⟨fun{a0} {a1} {r} h=> ?_⟩;unfold MD at h;refine A5 A4 h0 [4] 10 ?_;intro S hS;refine ev hS ?_;simp only[C,E,F,G,H,J];try simp only[C,E,F,G,H,J]
 refine Bg ?_;try simp only[C,E,F,G,H,J]
 refine Bg ?_;obtain⟨r1,h1,h⟩:=ob h;try simp only[C,E,F,G,H,J]
 refine AA (Ae A30 h1) ?_;obtain⟨h2,h⟩|⟨h2,h⟩:=ic h
 ·obtain⟨r3,h3,h⟩:=ob h;try simp only[h2,C,E,F,G,H,J]
  refine BO (A4t 268 [.pd (zH a0),.pd (rI a1)] (by kernel_rfl) (fun z0 zr zh=>A9q zh) h3) X (D0 X ⟨D1,⟨⟩⟩) X (uf X) ?_;try simp only[h2,C,E,F,G,H,J]
  cases h;exact t0
 ·try simp only[h2,C,E,F,G,H,J]
  cases h;exact t0
instance B4v:Ct 254 (∀{a0} {a1} {a2} {r},ME a0 a1 a2=N r→FC Z 254 [.ag (X1.row a0),.sc (.int .i64 a1),.ag (X4.row a2)] [.sc (.v (.int .i64 r))]):=by
 refine⟨fun h=> ?_⟩;unfold ME at h;refine A5 A4 h0 [6] 30 ?_;exact gc
def YA:Hw:=([(6,[0,5,6,7],[],[])],[])
def fR:=fun a0 (k_:U→Q V)=>∀{v1} {zr},k_ v1=N zr→Kh Z 255 YA 6 [0,5,6,7] [] [] ⟨[pL 0 X6.row a0,pL 5 X6.row a0,pI 6 (a0.length:U),pI 7 v1],[],[]⟩ (A8 [2] [.sc (.v (.bool zr))])
theorem A9r{a0}{n:W}:fR a0 (Fm a0 n):=by
 induction n with
 | zero=>intro _ r h; cases h
 | succ n ih=>
  intro v1 r h σ hσ;rw[Fm] at h;exact gc
instance B5f:Ct 255 (∀{a0} {r},Ky a0=N r→FC Z 255 [.sc (.sl (Y X6.row a0))] [.sc (.v (.bool r))]):=by
 refine⟨fun h=> ?_⟩;unfold Ky at h;refine A5 A4 YA [2] 44 ?_;have k0:= @A9r;exact gc
def YC:Hw:=([(16,[1,5,17,18,19],[],[1024])],[])
def fO:=fun a1 a0 (k_:U→(P X6)→Q (P X6))=>∀{v5 v6} {zr},k_ v5 v6=N zr→Kh Z 251 YC 16 [1,5,17,18,19] [] [1024] ⟨[pI 1 a1,pW 5 1024,pL 17 X6.row a0,pI 18 (a0.length:U),pI 19 v5],[],[(1024,2,Y X6.row v6)]⟩ (A8 [4] [.sc (.o 2 (Y X6.row zr))])
theorem A9s{a1 a0}{n:W}:fO a1 a0 (Fl a1 a0 n):=by
 induction n with
 | zero=>intro _ _ r h; cases h
 | succ n ih=>
  intro v5 v6 r h σ hσ;rw[Fl] at h;have s0:=fun(x8:X6)=> @Al (Y X6.row ([(⟨x8.From,(IntKind.i64.wrap (x8.To - a1))⟩:X6)]:P X6))
  exact gc
instance B49:Ct 251 (∀{a0} {a1} {r},Qr a0 a1=N r→FC Z 251 [.sc (.sl (Y X6.row a0)),.sc (.int .i64 a1)] [.sc (.o 2 (Y X6.row r))]):=by
 refine⟨fun h=> ?_⟩;unfold Qr at h;refine A5 A4 YC [4] 42 ?_;have s0:= @Al (Y X6.row ([]:P X6));have k0:= @A9s;exact gc
instance A36:Ct 230 (∀{a0} {a1} {a2} {a3} {r},MQ a0 a1 a2 a3=N r→FC Z 230 [.ag (zH a0),.ag (X1.row a1),.sc (.int .i64 a2),.ag (X4.row a3)] [.sc (.o 2 (Y X6.row r))]):=by
 refine⟨fun h=> ?_⟩;unfold MQ at h;refine A5 A4 h0 [8] 30 ?_;exact gc
def TP:Hw:=([(5,[3,4,5,6,7,10,34],[5,6,7,10],[]),(16,[4,5,6,7,10,12,43,44,45],[5,6,7,10,12],[140288,140352,140416])],[(11,3,(O,.ownb 12 0 140288 1)),(11,4,(O,.ownb 12 1 140352 1)),(11,5,(O,.ownb 12 2 140416 1)),(14,6,(O,.frz 2560))])
def fw:=fun a4 (a0:Xe) (a1:X1) (a2:X4) y11 y12 (k_:U→(P V)→(P U)→(P (P X6))→Q (Xl × V))=>∀{v13 v14 v15 v16} {zr},k_ v13 v14 v15 v16=N zr→Kh Z 206 TP 16 [4,5,6,7,10,12,43,44,45] [5,6,7,10,12] [140288,140352,140416] ⟨[pL 4 rI a4,pB 5,pB 6,pB 7,pB 10,pB 12,pL 43 rI y11,pI 44 y12,pI 45 v13],[(5,[aI a0.Tide.Mean,aM zG a0.Tide.Parts,aM zF a0.Surges]),(6,[aM X7.row a1.Points,aM X2.row a1.Segments]),(7,(dm a2.row)),(10,[.nil,.nil,.nil]),(12,[.own 140288,.own 140352,.own 140416])],[(140288,1,Y rB v14),(140352,1,Y rI v15),(140416,1,Y (rL X6.row) v16)]⟩ (A8 [.c 10 T 3,11] [.ag [.o 1 (Y rB zr.1.waits),.o 1 (Y rI zr.1.minutes),.o 1 (Y (rL X6.row) zr.1.sure)],.sc (.v (.bool zr.2))])
def fv:=fun a3 a4 (a0:Xe) (a1:X1) (a2:X4) (k_:V→Q (Xl × V))=>∀{v7} {zr},k_ v7=N zr→Kh Z 206 TP 5 [3,4,5,6,7,10,34] [5,6,7,10] [] ⟨[pI 3 a3,pL 4 rI a4,pB 5,pB 6,pB 7,pB 10,(34,vc (aB v7))],[(5,[aI a0.Tide.Mean,aM zG a0.Tide.Parts,aM zF a0.Surges]),(6,[aM X7.row a1.Points,aM X2.row a1.Segments]),(7,(dm a2.row)),(10,[.nil,.nil,.nil])],[]⟩ (A8 [.c 10 T 3,11] [.ag [.o 1 (Y rB zr.1.waits),.o 1 (Y rI zr.1.minutes),.o 1 (Y (rL X6.row) zr.1.sure)],.sc (.v (.bool zr.2))])
theorem A9t{a4 a0 a1 a2 y11 y12}{n:W}:fw a4 a0 a1 a2 y11 y12 (Iq a4 a0 a1 a2 y11 y12 n):=by
 induction n with
 | zero=>intro _ _ _ _ r h; cases h
 | succ n ih=>
  intro v13 v14 v15 v16 r h σ hσ S hS;refine ev hS ?_;rw[Iq] at h;refine AE (Ax ?_);obtain⟨h17,h⟩|⟨h17,h⟩:=ic h
  ·obtain⟨x18,h18,h⟩:=ob h;try simp only[hσ,h17,h18,C,E,F,G,H,J]
   refine Ay ?_;obtain⟨x19,h19,h⟩:=ob h;try simp only[h17,h18,h19,C,E,F,G,H,J]
   refine Bf (es:=Y rB ([x19.Wait]:P V)) ?_;obtain⟨h20,h⟩:=B3 h;try simp only[h17,h18,h19,h20,C,E,F,G,H,J]
   refine Ay ?_;try simp only[h17,h18,h19,h20,C,E,F,G,H,J]
   refine Ay ?_;try simp only[h17,h18,h19,h20,C,E,F,G,H,J]
   refine Ay ?_;obtain⟨x21,h21,h⟩:=ob h;obtain⟨x22,h22,h⟩:=ob h;obtain⟨r23,h23,h⟩:=ob h;try simp only[h17,h18,h19,h20,h21,h22,C,E,F,G,H,J]
   refine Cc (Ae dB h23) ?_;try simp only[h17,h18,h19,h20,h21,h22,C,E,F,G,H,J]
   refine Bf (es:=Y rI ([r23]:P U)) ?_;obtain⟨h24,h⟩:=B3 h;try simp only[h17,h18,h19,h20,h21,h22,h24,C,E,F,G,H,J]
   refine Ay ?_;try simp only[h17,h18,h19,h20,h21,h22,h24,C,E,F,G,H,J]
   refine Ay ?_;try simp only[h17,h18,h19,h20,h21,h22,h24,C,E,F,G,H,J]
   refine Ay ?_;obtain⟨r25,h25,h⟩:=ob h;try simp only[h17,h18,h19,h20,h21,h22,h24,C,E,F,G,H,J]
   refine Cc (FC.asV (rs':= [.sc (.v (.sl (Y X6.row r25)))]) (Ae A36 h25) X) ?_;try simp only[h17,h18,h19,h20,h21,h22,h24,C,E,F,G,H,J]
   refine Bf (es:=Y (rL X6.row) ([r25]:P (P X6))) ?_;obtain⟨h26,h⟩:=B3 h;try simp only[h17,h18,h19,h20,h21,h22,h24,h26,C,E,F,G,H,J]
   refine Ay ?_;try simp only[h17,h18,h19,h20,h21,h22,h24,h26,C,E,F,G,H,J]
   refine Ay ?_;try simp only[h17,h18,h19,h20,h21,h22,h24,h26,C,E,F,G,H,J]
   refine ih h ?_ (by kernel_rfl);try simp only[h17,h18,h19,h20,h21,h22,h24,h26,C,E,F,G,H,J,pL,aM,I]
  ·try simp only[hσ,h17,C,E,F,G,H,J]
   cases h;try simp only[PE,C,E,F,G,H,J]
   trivial
theorem A9u{a3 a4 a0 a1 a2}:fv a3 a4 a0 a1 a2 (Ip a3 a4 a0 a1 a2):=by
 intro v7 r h σ hσ S hS;refine ev hS ?_;refine Ax ?_;unfold Ip at h;obtain⟨h8,h⟩|⟨h8,h⟩:=ic h
 ·try simp only[hσ,h8,C,E,F,G,H,J]
  cases h;try simp only[PE,C,E,F,G,H,J]
  trivial
 ·try simp only[hσ,h8,C,E,F,G,H,J]
  refine BM ?_;try simp only[h8,C,E,F,G,H,J]
  refine FT (cs':= [.own 140288,.nil,.nil]) X X X X ?_;try simp only[h8,C,E,F,G,H,J]
  refine FT (cs':= [.own 140288,.own 140352,.nil]) X X X X ?_;try simp only[h8,C,E,F,G,H,J]
  refine FT (cs':= [.own 140288,.own 140352,.own 140416]) X X X X ?_;obtain⟨r9,h9,h⟩:=ob h;try simp only[h8,C,E,F,G,H,J]
  refine AA (Ae cz h9) ?_;try simp only[h8,C,E,F,G,H,J]
  refine Cj ?_;obtain⟨p10,h10,h⟩:=ob h;try simp only[h8,h10,C,E,F,G,H,J]
  refine A9t h ?_ (by kernel_rfl);try simp only[h8,h10,C,E,F,G,H,J,pL,aM,I]
instance B5s:Ct 206 (∀{a0} {a1} {a2} {a3} {a4} {r},Io a0 a1 a2 a3 a4=N r→FC Z 206 [.ag (zH a0),.ag (X1.row a1),.ag (X4.row a2),.sc (.int .i64 a3),.sc (.sl (Y rI a4))] [.ag [.o 1 (Y rB r.1.waits),.o 1 (Y rI r.1.minutes),.o 1 (Y (rL X6.row) r.1.sure)],.sc (.v (.bool r.2))]):=by
 refine⟨fun h=> ?_⟩;unfold Io at h;refine A5 A4 TP [.c 10 T 3,11] 91 ?_;have k0:= @A9u;exact gc
def YD:Hw:=([(7,[2,3,4,6,28],[3,4,6],[])],[])
def fS:=fun a2 (a0:X5) (a1:Xb) (k_:V→Q (Xl × V))=>∀{v4} {zr},k_ v4=N zr→Kh Z 177 YD 7 [2,3,4,6,28] [3,4,6] [] ⟨[pL 2 rI a2,pB 3,pB 4,pB 6,(28,vc (aB v4))],[(3,([aI a0.Forecast.Tide.Mean,aM zG a0.Forecast.Tide.Parts,aM zF a0.Forecast.Surges,aM X7.row a0.Chart.Points,aM X2.row a0.Chart.Segments,aM X4.row a0.Fleet,aI a0.Regime.Gap,aB a0.Regime.NoMeet]++dm a0.Crew.row)),(4,(dm a1.row)),(6,[.nil,.nil,.nil])],[]⟩ (A8 [.c 6 T 3,7] [.ag [.o 1 (Y rB zr.1.waits),.o 1 (Y rI zr.1.minutes),.o 1 (Y (rL X6.row) zr.1.sure)],.sc (.v (.bool zr.2))])
theorem dY{a2 a0 a1}:fS a2 a0 a1 (KC a2 a0 a1):=by
 intro v4 r h σ hσ;unfold KC at h;exact gc
instance B5h:Ct 177 (∀{a0} {a1} {a2} {r},Ib a0 a1 a2=N r→FC Z 177 [.ag (X5.row a0),.ag (zB a1),.sc (.sl (Y rI a2))] [.ag [.o 1 (Y rB r.1.waits),.o 1 (Y rI r.1.minutes),.o 1 (Y (rL X6.row) r.1.sure)],.sc (.v (.bool r.2))]):=by
 refine⟨fun{a0} {a1} {a2} {r} h=> ?_⟩;unfold Ib at h;refine A5 A4 YD [.c 6 T 3,7] 46 ?_;intro S hS;refine ev hS ?_;simp only[C,E,F,G,H,J];try simp only[C,E,F,G,H,J]
 refine Bg ?_;try simp only[C,E,F,G,H,J]
 refine Bg ?_;try simp only[C,E,F,G,H,J]
 refine BM ?_;obtain⟨r1,h1,h⟩:=ob h;try simp only[C,E,F,G,H,J]
 refine AA (Ae cz h1) ?_;try simp only[C,E,F,G,H,J]
 refine Ay ?_;obtain⟨h2,h⟩|⟨h2,h⟩:=ic h
 ·try simp only[h2,C,E,F,G,H,J]
  refine dY h ?_ (by kernel_rfl);try simp only[h2,C,E,F,G,H,J,pL,aM,I]
 ·obtain⟨x3,h3,h⟩:=ob h;have h3n:=Au h3;try simp only[h2,h3,h3n,C,E,F,G,H,J]
  refine dY h ?_ (by kernel_rfl);try simp only[h2,h3,h3n,C,E,F,G,H,J,pL,aM,I]
def YE:Hw:=([(6,[1,7,8,9],[],[])],[])
def fE:=fun a1 a0 (k_:U→Q V)=>∀{v1} {zr},k_ v1=N zr→Kh Z 231 YE 6 [1,7,8,9] [] [] ⟨[pI 1 a1,pL 7 X6.row a0,pI 8 (a0.length:U),pI 9 v1],[],[]⟩ (A8 [4] [.sc (.v (.bool zr))])
theorem A9v{a1 a0}{n:W}:fE a1 a0 (I2 a1 a0 n):=by
 induction n with
 | zero=>intro _ r h; cases h
 | succ n ih=>
  intro v1 r h σ hσ;rw[I2] at h;exact gc
instance B4p:Ct 231 (∀{a0} {a1} {r},Mx a0 a1=N r→FC Z 231 [.sc (.sl (Y X6.row a0)),.sc (.int .i64 a1)] [.sc (.v (.bool r))]):=by
 refine⟨fun h=> ?_⟩;unfold Mx at h;refine A5 A4 YE [4] 20 ?_;have k0:= @A9v;exact gc
def YF:Hw:=([(14,[1,10,11,12],[],[])],[])
def fH:=fun a1 a0 (k_:U→Q U)=>∀{v3} {zr},k_ v3=N zr→Kh Z 232 YF 14 [1,10,11,12] [] [] ⟨[pI 1 a1,pL 10 X6.row a0,pI 11 (a0.length:U),pI 12 v3],[],[]⟩ (A8 [4] [.sc (.v (.int .i64 zr))])
theorem A9x{a1 a0}{n:W}:fH a1 a0 (I3 a1 a0 n):=by
 induction n with
 | zero=>intro _ r h; cases h
 | succ n ih=>
  intro v3 r h σ hσ;rw[I3] at h;exact gc
instance A31:Ct 232 (∀{a0} {a1} {r},MF a0 a1=N r→FC Z 232 [.sc (.sl (Y X6.row a0)),.sc (.int .i64 a1)] [.sc (.v (.int .i64 r))]):=by
 refine⟨fun h=> ?_⟩;unfold MF at h;refine A5 A4 YF [4] 25 ?_;have k0:= @A9x;exact gc
def TQ:Hw:=([(16,[2,6,7],[2],[1152]),(32,[2,6,7,9,59],[2],[1152])],[])
def fx:=fun v4 r10 (a0:Xl) v5 (k_:V→Q ((P U) × V))=>∀{v14} {zr},k_ v14=N zr→Kh Z 207 TQ 32 [2,6,7,9,59] [2] [1152] ⟨[pB 2,pW 6 1152,pI 7 v4,pI 9 r10,(59,vc (aB v14))],[(2,(dm a0.row))],[(1152,1,Y rI v5)]⟩ (A8 [4,5] [.sc (.o 1 (Y rI zr.1)),.sc (.v (.bool zr.2))])
def VM:=fun(a0:Xl) (k_:U→(P U)→Q ((P U) × V))=>∀{v4 v5} {zr},k_ v4 v5=N zr→Kh Z 207 TQ 16 [2,6,7] [2] [1152] ⟨[pB 2,pW 6 1152,pI 7 v4],[(2,(dm a0.row))],[(1152,1,Y rI v5)]⟩ (A8 [4,5] [.sc (.o 1 (Y rI zr.1)),.sc (.v (.bool zr.2))])
theorem Vk{v4 r10 a0 v5}{RX}(tJ:VM a0 RX):fx v4 r10 a0 v5 (Ir v4 r10 a0 v5 RX):=by
 intro v14 r h σ hσ;unfold Ir at h;have s0:= @Al (Y rI ([r10]:P U));have k0:= @tJ;exact gc
theorem A9y{a0}{n:W}:VM a0 (EE a0 n):=by
 induction n with
 | zero=>intro _ _ r h; cases h
 | succ n ih=>
  intro v4 v5 r h σ hσ S hS;refine ev hS ?_;rw[EE] at h;refine AE (Ax ?_);obtain⟨h6,h⟩|⟨h6,h⟩:=ic h
  ·try simp only[hσ,h6,C,E,F,G,H,J]
   refine Ay ?_;obtain⟨x7,h7,h⟩:=ob h;have h7n:=Au h7;obtain⟨x8,h8,h⟩:=ob h;obtain⟨x9,h9,h⟩:=ob h;obtain⟨r10,h10,h⟩:=ob h;try simp only[h6,h7,h7n,h8,h9,C,E,F,G,H,J]
   refine AA (Ae A31 h10) ?_;obtain⟨h11,h⟩|⟨h11,h⟩:=ic h
   ·try simp only[h6,h7,h7n,h8,h9,h11,C,E,F,G,H,J]
    refine Vk ih h ?_ (by kernel_rfl);try simp only[h6,h7,h7n,h8,h9,h11,C,E,F,G,H,J,pL,aM,I]
   ·obtain⟨h12,h⟩|⟨h12,h⟩:=ic h
    ·obtain⟨x13,h13,h⟩:=ob h;try simp only[h6,h7,h7n,h8,h9,h11,h12,h13,C,E,F,G,H,J]
     refine Vk ih h ?_ (by kernel_rfl);try simp only[h6,h7,h7n,h8,h9,h11,h12,h13,C,E,F,G,H,J,pL,aM,I]
    ·try simp only[h6,h7,h7n,h8,h9,h11,h12,C,E,F,G,H,J]
     refine Vk ih h ?_ (by kernel_rfl);try simp only[h6,h7,h7n,h8,h9,h11,h12,C,E,F,G,H,J,pL,aM,I]
  ·try simp only[hσ,h6,C,E,F,G,H,J]
   cases h;trivial
instance B5t:Ct 207 (∀{a0} {a1} {r},Na a0 a1=N r→FC Z 207 [.ag (Xl.row a0),.sc (.int .i64 a1)] [.sc (.o 1 (Y rI r.1)),.sc (.v (.bool r.2))]):=by
 refine⟨fun{a0} {a1} {r} h=> ?_⟩;unfold Na at h;refine A5 A4 TQ [4,5] 65 ?_;have s0:= @Al (Y rI ([a1]:P U));have k0:= @A9y;exact gc
def YG:Hw:=([(18,[1,5,6,8,13,14,40,41,42],[6,8],[2432,2496])],[])
def fJ:=fun a1 a5 a4 (a0:X1) (a2:X4) r6 (k_:U→(P X3)→Q (P X3))=>∀{v7 v8} {zr},k_ v7 v8=N zr→Kh Z 208 YG 18 [1,5,6,8,13,14,40,41,42] [6,8] [2432,2496] ⟨[pI 1 a1,pL 5 rI a5,pB 6,pB 8,pW 13 2432,pW 14 2496,pL 40 rI a4,pI 41 (a4.length:U),pI 42 v7],[(6,[aM X7.row a0.Points,aM X2.row a0.Segments]),(8,(dm a2.row))],[(2432,1,Y rI r6),(2496,5,Y X3.row v8)]⟩ (A8 [12] [.sc (.o 5 (Y X3.row zr))])
theorem A9z{a1 a5 a4 a0 a2 r6}{n:W}:fJ a1 a5 a4 a0 a2 r6 (I4 a1 a5 a4 a0 a2 r6 n):=by
 induction n with
 | zero=>intro _ _ r h; cases h
 | succ n ih=>
  intro v7 v8 r h σ hσ S hS;refine ev hS ?_;rw[I4] at h;refine AE (Ax ?_);obtain⟨h9,h⟩|⟨h9,h⟩:=ic h
  ·obtain⟨x10,h10,h⟩:=ob h;obtain⟨x11,h11,h⟩:=ob h;obtain⟨r12,h12,h⟩:=ob h;try simp only[hσ,h9,h10,h11,C,E,F,G,H,J]
   refine AA (Ae A4g h12) ?_;obtain⟨h13,h⟩|⟨h13,h⟩:=ic h
   ·obtain⟨x14,h14,h⟩:=ob h;try simp only[h9,h10,h11,h13,h14,C,E,F,G,H,J]
    refine BM ?_;try simp only[h9,h10,h11,h13,h14,C,E,F,G,H,J]
    refine Ay ?_;obtain⟨x15,h15,h⟩:=ob h;have h15n:=Au h15;obtain⟨r16,h16,h⟩:=ob h;try simp only[h9,h10,h11,h13,h14,h15,h15n,C,E,F,G,H,J]
    refine Cc (Ae dB h16) ?_;try simp only[h9,h10,h11,h13,h14,h15,h15n,C,E,F,G,H,J]
    refine Bf (es:=Y X3.row ([(⟨a1,x10,(x15==x14.A),x11,(IntKind.i64.wrap (x11+r16))⟩:X3)]:P X3)) ?_;obtain⟨h17,h⟩:=B3 h;try simp only[h9,h10,h11,h13,h14,h15,h15n,h17,C,E,F,G,H,J]
    refine Ay ?_;try simp only[h9,h10,h11,h13,h14,h15,h15n,h17,C,E,F,G,H,J]
    refine ih h ?_ (by kernel_rfl);try simp only[h9,h10,h11,h13,h14,h15,h15n,h17,C,E,F,G,H,J,pL,aM,I]
   ·try simp only[h9,h10,h11,h13,C,E,F,G,H,J]
    cases h;exact t0
  ·try simp only[hσ,h9,C,E,F,G,H,J]
   cases h;exact t0
instance B40:Ct 208 (∀{a0} {a1} {a2} {a3} {a4} {a5} {r},MJ a0 a1 a2 a3 a4 a5=N r→FC Z 208 [.ag (X1.row a0),.sc (.int .i64 a1),.ag (X4.row a2),.sc (.int .i64 a3),.sc (.sl (Y rI a4)),.sc (.sl (Y rI a5))] [.sc (.o 5 (Y X3.row r))]):=by
 refine⟨fun h=> ?_⟩;unfold MJ at h;refine A5 A4 YG [12] 85 ?_;have s0:= @Al (Y X3.row ([]:P X3));have k0:= @A9z;exact gc
instance B4d:Ct 209 (∀{a0} {a1} {a2} {a3} {r},Mm a0 a1 a2 a3=N r→FC Z 209 [.ag (X1.row a0),.ag (X4.row a1),.sc (.sl (Y rI a2)),.sc (.sl (Y rI a3))] [.sc (.v (.int .i64 r))]):=by
 refine⟨fun h=> ?_⟩;unfold Mm at h;refine A5 A4 h0 [8] 55 ?_;exact gc
def eH:P (P W × AItem):= [([],(O,.load 72 (S 16) T 4)),([],(O,.faddr 73 (S 16) 1)),([1],(O,.load 74 (S 73) L 1)),([2],(O,.bin 75 .leq (S 74) (K 2880))),([0,0],(O,.store (S 10) (S 72) 4)),([3,4,0,1,2,3,4],(O,.mv 11 (S 75)))]
def YH:Hw:=([(24,[10,16,60,61,62],[10,16],[2752])],[])
abbrev JP(a4 r5 v7:U)(c0_ c1_:V)(c2_ c3_ c5_:V)(bx_:P (W × P AC))(rs_:Rows):St:=⟨[(10,vc (.pb 10 0)),(16,vc (.pb 16 0)),(72,bif c0_ then va [aI a4,aI r5,aI v7,.own 2752] else .undef),(73,bif c1_ then vc (.pb 16 1) else .undef),(74,bif c2_ then vc (aI r5) else .undef),(75,bif c3_ then vc (aB (decide (r5≤(2880:U)))) else .undef),(11,bif c5_ then vc (aB (decide (r5≤(2880:U)))) else .undef)],bx_,rs_⟩
abbrev Sx(a4 r5:U)(r4:(P X3))(v7:U):St:=(JP a4 r5 v7 T T T T T [(10,[aI a4,aI r5,aI v7,.own 2752]),(16,[aI a4,aI r5,aI v7,.own 2752])] [(2752,5,Y X3.row r4)])
theorem A90(a4 r5 r4 v7):∀(f:W) (b1 b2:V) (b3 b5:V),Ad Z eH (Sx a4 r5 r4 v7) f [T,b1,b2,b3,T,b5] (JP a4 r5 v7 T b1 b2 b3 b5 [(10,[aI a4,aI r5,aI v7,.own 2752]),(16,[aI a4,aI r5,aI v7,.own 2752])] [(2752,5,Y X3.row r4)]):=by
 intro f
 induction f with
 | zero=>
  intro b1 b2 b3 b5 h;obtain rfl:b1=T:=zE.1 h b1 (by simp);obtain rfl:b2=T:=zE.1 h b2 (by simp);obtain rfl:b3=T:=zE.1 h b3 (by simp);obtain rfl:b5=T:=zE.1 h b5 (by simp);rfl
 | succ f ih=>
  intro b1 b2 b3 b5;refine Ai ⟨?_,?_,?_,?_,?_,?_,⟨⟩⟩<;>try first | (intro h; cases h; done) | (intro h0 hw; obtain rfl:=hz h0 rfl; (try obtain rfl:=hq hw 1 rfl rfl); (try obtain rfl:=hq hw 2 rfl rfl); (try obtain rfl:=hq hw 3 rfl rfl); refine np ?_; simp only[JP,A6,A7,A2,C,E,F,G,H,J]; exact ih _ _ _ _)
theorem A91(a4 r5 r4 v7):∀(f:W) (b0 b1:V) (b2 b3:V),Ad Z eH (Sx a4 r5 r4 v7) f [b0,b1,b2,b3,L,L] (JP a4 r5 v7 b0 b1 b2 b3 L [(10,[aI (0:U),aI (0:U),aI (0:U),.nil]),(16,[aI a4,aI r5,aI v7,.own 2752])] [(2752,5,Y X3.row r4)]):=by
 intro f
 induction f with
 | zero=>intro b0 b1 b2 b3 h; simp at h
 | succ f ih=>
  intro b0 b1 b2 b3;refine Ai ⟨?_,?_,?_,?_,?_,?_,⟨⟩⟩<;>try first | (intro _ hw; simp at hw; done) | (intro h0 hw; obtain rfl:=hz h0 rfl; (try obtain rfl:=hq hw 1 rfl rfl); (try obtain rfl:=hq hw 2 rfl rfl); refine np ?_; simp only[JP,A6,A7,A2,C,E,F,G,H,J]; exact ih _ _ _ _)
  ·intro h0 hw;obtain rfl:=hq hw 0 rfl rfl;refine np ?_;try simp only[JP,A6,A7,A2,C,E,F,G,H,J]
   exact A90 a4 r5 r4 v7 _ b1 b2 b3 L
def fk:=fun(a2:Xl) a4 r5 r4 (k_:U→U→Q (X0 × V))=>∀{v6 v7} {zr},k_ v6 v7=N zr→Kh Z 178 YH 24 [10,16,60,61,62] [10,16] [2752] ⟨[pB 10,pB 16,pL 60 rI a2.minutes,pI 61 (a2.minutes.length:U),pI 62 v6],[(10,[aI (0:U),aI (0:U),aI (0:U),.nil]),(16,[aI a4,aI r5,aI v7,.own 2752])],[(2752,5,Y X3.row r4)]⟩ (A8 [.c 10 T 4,11] [.ag [.v (.int .i64 zr.1.Start),.v (.int .i64 zr.1.Arrival),.v (.int .i64 zr.1.Cost),.o 5 (Y X3.row zr.1.Passages)],.sc (.v (.bool zr.2))])
theorem A92{a2 a4 r5 r4}{n:W}:fk a2 a4 r5 r4 (GB a2 a4 r5 r4 n):=by
 induction n with
 | zero=>intro _ _ r h; cases h
 | succ n ih=>
  intro v6 v7 r h σ hσ S hS;refine ev hS ?_;rw[GB] at h;refine AE (Ax ?_);obtain⟨h8,h⟩|⟨h8,h⟩:=ic h
  ·obtain⟨x9,h9,h⟩:=ob h;try simp only[hσ,h8,h9,C,E,F,G,H,J]
   refine ih h ?_ (by kernel_rfl);try simp only[h8,h9,C,E,F,G,H,J,pL,aM,I]
  ·try simp only[hσ,h8,C,E,F,G,H,J]
   refine Ee (ks:= [10,16]) (bs:= [10,16]) (rs:= [2752]) (τ:=(Sx a4 r5 r4 v7)) X (A91 a4 r5 r4 v7 _ L L L L) ?_;simp only[Sx,JP,A6];try simp only[h8,C,E,F,G,H,J]
   cases h;try simp only[PE,C,E,F,G,H,J]
   trivial
instance A4k:Ct 178 (∀{a0} {a1} {a2} {a3} {a4} {r},Il a0 a1 a2 a3 a4=N r→FC Z 178 [.ag (X5.row a0),.ag (zB a1),.ag (Xl.row a2),.sc (.sl (Y rI a3)),.sc (.int .i64 a4)] [.ag [.v (.int .i64 r.1.Start),.v (.int .i64 r.1.Arrival),.v (.int .i64 r.1.Cost),.o 5 (Y X3.row r.1.Passages)],.sc (.v (.bool r.2))]):=by
 refine⟨fun h=> ?_⟩;unfold Il at h;refine A5 A4 YH [.c 10 T 4,11] 76 ?_;have k0:= @A92;exact gc
def TR:Hw:=([(28,[2,3,5,7,9,10],[2,3,7],[1984,1985,1986,2560]),(44,[2,3,5,7,9,10],[2,3,7],[1984,1985,1986,2560])],[(42,2,(O,.frz 3843))])
def fI:=fun(r3:(P U) × V) v7 (a0:X5) (a1:Xb) (r4:Xl × V) (k_:(P X0)→Q (P X0))=>∀{v14} {zr},k_ v14=N zr→Kh Z 145 TR 44 [2,3,5,7,9,10] [2,3,7] [1984,1985,1986,2560] ⟨[pB 2,pB 3,pL 5 rI r3.1,pB 7,pW 9 2560,pI 10 v7],[(2,([aI a0.Forecast.Tide.Mean,aM zG a0.Forecast.Tide.Parts,aM zF a0.Forecast.Surges,aM X7.row a0.Chart.Points,aM X2.row a0.Chart.Segments,aM X4.row a0.Fleet,aI a0.Regime.Gap,aB a0.Regime.NoMeet]++dm a0.Crew.row)),(3,(dm a1.row)),(7,[.own 1984,.own 1985,.own 1986])],[(1984,1,Y rB r4.1.waits),(1985,1,Y rI r4.1.minutes),(1986,1,Y (rL X6.row) r4.1.sure),(2560,4,Y X0.row v14)]⟩ (A8 [4] [.sc (.o 4 (Y X0.row zr))])
def VD:=fun(r3:(P U) × V) (a0:X5) (a1:Xb) (r4:Xl × V) (k_:U→(P X0)→Q (P X0))=>∀{v7 v8} {zr},k_ v7 v8=N zr→Kh Z 145 TR 28 [2,3,5,7,9,10] [2,3,7] [1984,1985,1986,2560] ⟨[pB 2,pB 3,pL 5 rI r3.1,pB 7,pW 9 2560,pI 10 v7],[(2,([aI a0.Forecast.Tide.Mean,aM zG a0.Forecast.Tide.Parts,aM zF a0.Forecast.Surges,aM X7.row a0.Chart.Points,aM X2.row a0.Chart.Segments,aM X4.row a0.Fleet,aI a0.Regime.Gap,aB a0.Regime.NoMeet]++dm a0.Crew.row)),(3,(dm a1.row)),(7,[.own 1984,.own 1985,.own 1986])],[(1984,1,Y rB r4.1.waits),(1985,1,Y rI r4.1.minutes),(1986,1,Y (rL X6.row) r4.1.sure),(2560,4,Y X0.row v8)]⟩ (A8 [4] [.sc (.o 4 (Y X0.row zr))])
theorem dZ{r3 v7 a0 a1 r4}{RU}(tB:VD r3 a0 a1 r4 RU):fI r3 v7 a0 a1 r4 (Kt r3 v7 a0 a1 r4 RU):=by
 intro v14 r h σ hσ;unfold Kt at h;have k0:= @tB;exact gc
theorem A94{r3 a0 a1 r4}{n:W}:VD r3 a0 a1 r4 (Gs r3 a0 a1 r4 n):=by
 induction n with
 | zero=>intro _ _ r h; cases h
 | succ n ih=>
  intro v7 v8 r h σ hσ S hS;refine ev hS ?_;rw[Gs] at h;refine AE (Ax ?_);obtain⟨h9,h⟩|⟨h9,h⟩:=ic h
  ·obtain⟨h10,h⟩|⟨h10,h⟩:=ic h
   ·obtain⟨r11,h11,h⟩:=ob h;try simp only[hσ,h9,h10,C,E,F,G,H,J]
    refine BO (Ae A4k h11) X (D0 X ⟨X,X,X,D1,X,⟨⟩⟩) X (uf X) ?_;try simp only[h9,h10,C,E,F,G,H,J]
    refine BM ?_;obtain⟨h12,h⟩|⟨h12,h⟩:=ic h
    ·try simp only[h9,h10,h12,C,E,F,G,H,J]
     refine Cj ?_;try simp only[h9,h10,h12,C,E,F,G,H,J]
     refine Bf (es:=Y X0.row ([r11.1]:P X0)) ?_;obtain⟨h13,h⟩:=B3 h;try simp only[h9,h10,h12,h13,C,E,F,G,H,J]
     refine dZ ih h ?_ (by kernel_rfl);try simp only[h9,h10,h12,h13,C,E,F,G,H,J,pL,aM,I]
    ·try simp only[h9,h10,h12,C,E,F,G,H,J]
     refine dZ ih h ?_ (by kernel_rfl);try simp only[h9,h10,h12,C,E,F,G,H,J,pL,aM,I]
   ·try simp only[hσ,h9,h10,C,E,F,G,H,J]
    cases h;exact t0
  ·try simp only[hσ,h9,C,E,F,G,H,J]
   cases h;exact t0
instance A33:Ct 145 (∀{a0} {a1} {r},Ks a0 a1=N r→FC Z 145 [.ag (X5.row a0),.ag (zB a1)] [.sc (.o 4 (Y X0.row r))]):=by
 refine⟨fun h=> ?_⟩;unfold Ks at h;refine A5 A4 TR [4] 69 ?_;have s0:= @Al (Y X0.row ([]:P X0));have k0:= @A94;exact gc
def YI:Hw:=([(6,[0,1,7,8],[],[])],[])
def gj:=fun F_a1 caps_a1 a0 (k_:U→Q U)=>∀{v1} {zr},k_ v1=N zr→Kh Z 175 YI 6 [0,1,7,8] [] [] ⟨[pL 0 X0.row a0,(1,vc (.dat (.clo F_a1 caps_a1))),pI 7 (a0.length:U),pI 8 v1],[],[]⟩ (A8 [4] [.sc (.v (.int .i64 zr))])
theorem A95{a1:X0→Q V}{F_a1 caps_a1}(hF_a1:B4 Z F_a1=T)(h_a1:∀z0 zr,a1 z0=N zr→FC Z F_a1 ([.ag (X0.row z0)]++caps_a1.map .sc) [.sc (.v (.bool zr))]){a0}{n:W}:gj F_a1 caps_a1 a0 (IP a1 a0 n):=by
 induction n with
 | zero=>intro _ r h; cases h
 | succ n ih=>
  intro v1 r h σ hσ S hS;refine ev hS ?_;rw[IP] at h;refine AE (Ax ?_);obtain⟨h2,h⟩|⟨h2,h⟩:=ic h
  ·obtain⟨x3,h3,h⟩:=ob h;obtain⟨r4,h4,h⟩:=ob h;try simp only[hσ,h2,h3,C,E,F,G,H,J]
   refine Ly (h_a1 _ _ h4) hF_a1 X X (BD X) X (uf X) ?_;obtain⟨h5,h⟩|⟨h5,h⟩:=ic h
   ·try simp only[h2,h3,h5,C,E,F,G,H,J]
    cases h;exact t0
   ·try simp only[h2,h3,h5,C,E,F,G,H,J]
    refine ih h ?_ (by kernel_rfl);try simp only[h2,h3,h5,C,E,F,G,H,J,pL,aM,I]
  ·try simp only[hσ,h2,C,E,F,G,H,J]
   cases h;exact t0
theorem A5h{a0}{a1}{r}(F_a1:FuncId)(caps_a1:P D)(hF_a1:B4 Z F_a1=T)(h_a1:∀z0 zr,a1 z0=N zr→FC Z F_a1 ([.ag (X0.row z0)]++caps_a1.map .sc) [.sc (.v (.bool zr))])(h:QS a0 a1=N r):FC Z 175 [.sc (.sl (Y X0.row a0)),.sc (.clo F_a1 caps_a1)] [.sc (.v (.int .i64 r))]:=by
 unfold QS at h;refine A5 A4 YI [4] 19 ?_;have k0:= @A95;exact gc
def Rz:Hw:=([(16,[0,1,5,6],[],[90000]),(34,[0,1,5,6],[],[90000])],[(38,3,(O,.cut 41))])
def gh:=fun F_a1 caps_a1 v4 (k_:U→(P X0)→Q (P X0))=>∀{v12 v13} {zr},k_ v12 v13=N zr→Kh Z 144 Rz 34 [0,1,5,6] [] [90000] ⟨[pW 0 90000,(1,vc (.dat (.clo F_a1 caps_a1))),pI 5 v12,pI 6 v4],[],[(90000,4,Y X0.row v13)]⟩ (K1 [4] 4 (Y X0.row zr))
def VN:=fun F_a1 caps_a1 (k_:U→U→(P X0)→Q (P X0))=>∀{v3 v4 v5} {zr},k_ v3 v4 v5=N zr→Kh Z 144 Rz 16 [0,1,5,6] [] [90000] ⟨[pW 0 90000,(1,vc (.dat (.clo F_a1 caps_a1))),pI 5 v3,pI 6 v4],[],[(90000,4,Y X0.row v5)]⟩ (K1 [4] 4 (Y X0.row zr))
theorem da{a1:X0→Q V}{F_a1 caps_a1}(hF_a1:B4 Z F_a1=T)(h_a1:∀z0 zr,a1 z0=N zr→FC Z F_a1 ([.ag (X0.row z0)]++caps_a1.map .sc) [.sc (.v (.bool zr))]){v4}{k_slices_DeleteFunc_Option_1}(hk_slices_DeleteFunc_Option_1:VN F_a1 caps_a1 k_slices_DeleteFunc_Option_1):gh F_a1 caps_a1 v4 (L2 a1 v4 k_slices_DeleteFunc_Option_1):=by
 intro v12 v13 r h σ hσ;unfold L2 at h;have k0:= @hk_slices_DeleteFunc_Option_1;exact gc
theorem A96{a1:X0→Q V}{F_a1 caps_a1}(hF_a1:B4 Z F_a1=T)(h_a1:∀z0 zr,a1 z0=N zr→FC Z F_a1 ([.ag (X0.row z0)]++caps_a1.map .sc) [.sc (.v (.bool zr))]){n:W}:VN F_a1 caps_a1 (GI a1 n):=by
 induction n with
 | zero=>intro _ _ _ r h; cases h
 | succ n ih=>
  intro v3 v4 v5 r h σ hσ S hS;refine ev hS ?_;rw[GI] at h;refine AE (Ax ?_);obtain⟨h6,h⟩|⟨h6,h⟩:=ic h
  ·obtain⟨x7,h7,h⟩:=ob h;have h7n:=Au h7;try simp only[hσ,h6,h7,h7n,C,E,F,G,H,J]
   refine BM ?_;obtain⟨r9,h9,h⟩:=ob h;try simp only[h6,h7,h7n,C,E,F,G,H,J]
   refine Ly (h_a1 _ _ h9) hF_a1 X X (BD X) X (uf X) ?_;obtain⟨h10,h⟩|⟨h10,h⟩:=ic h
   ·try simp only[h6,h7,h7n,h10,C,E,F,G,H,J]
    refine da hF_a1 h_a1 ih h ?_ (by kernel_rfl);try simp only[h6,h7,h7n,h10,C,E,F,G,H,J,pL,aM,I]
   ·obtain⟨x11,h11,h⟩:=ob h;have h11n:=Au h11;try simp only[h6,h7,h7n,h10,h11,C,E,F,G,H,J]
    refine AS (row:=X0.row) (y:=x7) X X h11n X X (by rfl) ?_;try simp only[h6,h7,h7n,h10,h11,C,E,F,G,H,J]
    refine da hF_a1 h_a1 ih h ?_ (by kernel_rfl);try simp only[h6,h7,h7n,h10,h11,C,E,F,G,H,J,pL,aM,I]
  ·obtain⟨p14,h14,h⟩:=ob h;try simp only[hσ,h6,C,E,F,G,H,J]
   refine sa (zx:=(⟨(0:U),(0:U),(0:U),([]:P X3)⟩:X0)) X X h14 (by rfl) ?_;obtain⟨p15,h15,h⟩:=ob h;try simp only[h6,C,E,F,G,H,J]
   refine H8 X X h15 (by rfl) ?_;try simp only[h6,C,E,F,G,H,J]
   cases h;trivial
theorem oi:B1 Z 144=N ((C3 Z 144 Rz).strip,[4],42):=by kernel_rfl
theorem A5f{a0}{a1}{r}(F_a1:FuncId)(caps_a1:P D)(hF_a1:B4 Z F_a1=T)(h_a1:∀z0 zr,a1 z0=N zr→FC Z F_a1 ([.ag (X0.row z0)]++caps_a1.map .sc) [.sc (.v (.bool zr))])(h:NS a0 a1=N r):FCt Z 144 [.r,.d (.sc (.clo F_a1 caps_a1))] 4 (Y X0.row a0) (Y X0.row r):=by
 unfold NS at h;refine Vw (σ:=⟨[(0,vc (.own 90000)),(1,vc (.dat (.clo F_a1 caps_a1)))],[],[(90000,4,Y X0.row a0)]⟩) A4 oi X X ?_;refine Cb Rz ?_;intro S hS;refine ev hS ?_;obtain⟨r1,h1,h⟩:=ob h;try simp only[C,E,F,G,H,J]
 refine BO (A5h F_a1 caps_a1 hF_a1 h_a1 h1) X (BD X) X (uf X) ?_;obtain⟨h2,h⟩|⟨h2,h⟩:=ic h
 ·try simp only[h2,C,E,F,G,H,J]
  cases h;trivial
 ·try simp only[h2,C,E,F,G,H,J]
  refine A96 hF_a1 h_a1 h ?_ (by kernel_rfl);try simp only[h2,C,E,F,G,H,J,pL,aM,I]
def YJ:Hw:=([(6,[0,1,7,8],[],[])],[])
def gk:=fun F_a1 caps_a1 a0 (k_:U→Q U)=>∀{v1} {zr},k_ v1=N zr→Kh Z 210 YJ 6 [0,1,7,8] [] [] ⟨[pL 0 X3.row a0,(1,vc (.dat (.clo F_a1 caps_a1))),pI 7 (a0.length:U),pI 8 v1],[],[]⟩ (A8 [4] [.sc (.v (.int .i64 zr))])
theorem A97{a1:X3→Q V}{F_a1 caps_a1}(hF_a1:B4 Z F_a1=T)(h_a1:∀z0 zr,a1 z0=N zr→FC Z F_a1 ([.ag (X3.row z0)]++caps_a1.map .sc) [.sc (.v (.bool zr))]){a0}{n:W}:gk F_a1 caps_a1 a0 (IQ a1 a0 n):=by
 induction n with
 | zero=>intro _ r h; cases h
 | succ n ih=>
  intro v1 r h σ hσ S hS;refine ev hS ?_;rw[IQ] at h;refine AE (Ax ?_);obtain⟨h2,h⟩|⟨h2,h⟩:=ic h
  ·obtain⟨x3,h3,h⟩:=ob h;obtain⟨r4,h4,h⟩:=ob h;try simp only[hσ,h2,h3,C,E,F,G,H,J]
   refine Ly (h_a1 _ _ h4) hF_a1 X X (BD X) X (uf X) ?_;obtain⟨h5,h⟩|⟨h5,h⟩:=ic h
   ·try simp only[h2,h3,h5,C,E,F,G,H,J]
    cases h;exact t0
   ·try simp only[h2,h3,h5,C,E,F,G,H,J]
    refine ih h ?_ (by kernel_rfl);try simp only[h2,h3,h5,C,E,F,G,H,J,pL,aM,I]
  ·try simp only[hσ,h2,C,E,F,G,H,J]
   cases h;exact t0
theorem A5i{a0}{a1}{r}(F_a1:FuncId)(caps_a1:P D)(hF_a1:B4 Z F_a1=T)(h_a1:∀z0 zr,a1 z0=N zr→FC Z F_a1 ([.ag (X3.row z0)]++caps_a1.map .sc) [.sc (.v (.bool zr))])(h:QT a0 a1=N r):FC Z 210 [.sc (.sl (Y X3.row a0)),.sc (.clo F_a1 caps_a1)] [.sc (.v (.int .i64 r))]:=by
 unfold QT at h;refine A5 A4 YJ [4] 19 ?_;have k0:= @A97;exact gc
theorem A5e{a0}{a1}{r}(F_a1:FuncId)(caps_a1:P D)(hF_a1:B4 Z F_a1=T)(h_a1:∀z0 zr,a1 z0=N zr→FC Z F_a1 ([.ag (X3.row z0)]++caps_a1.map .sc) [.sc (.v (.bool zr))])(h:QQ a0 a1=N r):FC Z 179 [.sc (.sl (Y X3.row a0)),.sc (.clo F_a1 caps_a1)] [.sc (.v (.bool r))]:=by
 unfold QQ at h;refine A5 A4 h0 [4] 9 ?_;intro S hS;refine ev hS ?_;simp only[C,E,F,G,H,J];obtain⟨r1,h1,h⟩:=ob h;try simp only[C,E,F,G,H,J]
 refine AA (A5i F_a1 caps_a1 hF_a1 h_a1 h1) ?_;try simp only[C,E,F,G,H,J]
 cases h;exact t0
def YK:Hw:=([(6,[0,1,7,8],[],[])],[])
def gi:=fun F_a1 caps_a1 a0 (k_:U→Q U)=>∀{v1} {zr},k_ v1=N zr→Kh Z 233 YK 6 [0,1,7,8] [] [] ⟨[pL 0 X9.row a0,(1,vc (.dat (.clo F_a1 caps_a1))),pI 7 (a0.length:U),pI 8 v1],[],[]⟩ (A8 [4] [.sc (.v (.int .i64 zr))])
theorem A99{a1:X9→Q V}{F_a1 caps_a1}(hF_a1:B4 Z F_a1=T)(h_a1:∀z0 zr,a1 z0=N zr→FC Z F_a1 ([.ag (X9.row z0)]++caps_a1.map .sc) [.sc (.v (.bool zr))]){a0}{n:W}:gi F_a1 caps_a1 a0 (IN a1 a0 n):=by
 induction n with
 | zero=>intro _ r h; cases h
 | succ n ih=>
  intro v1 r h σ hσ S hS;refine ev hS ?_;rw[IN] at h;refine AE (Ax ?_);obtain⟨h2,h⟩|⟨h2,h⟩:=ic h
  ·obtain⟨x3,h3,h⟩:=ob h;obtain⟨r4,h4,h⟩:=ob h;try simp only[hσ,h2,h3,C,E,F,G,H,J]
   refine Ly (h_a1 _ _ h4) hF_a1 X X (BD X) X (uf X) ?_;obtain⟨h5,h⟩|⟨h5,h⟩:=ic h
   ·try simp only[h2,h3,h5,C,E,F,G,H,J]
    cases h;exact t0
   ·try simp only[h2,h3,h5,C,E,F,G,H,J]
    refine ih h ?_ (by kernel_rfl);try simp only[h2,h3,h5,C,E,F,G,H,J,pL,aM,I]
  ·try simp only[hσ,h2,C,E,F,G,H,J]
   cases h;exact t0
theorem A5g{a0}{a1}{r}(F_a1:FuncId)(caps_a1:P D)(hF_a1:B4 Z F_a1=T)(h_a1:∀z0 zr,a1 z0=N zr→FC Z F_a1 ([.ag (X9.row z0)]++caps_a1.map .sc) [.sc (.v (.bool zr))])(h:QR a0 a1=N r):FC Z 233 [.sc (.sl (Y X9.row a0)),.sc (.clo F_a1 caps_a1)] [.sc (.v (.int .i64 r))]:=by
 unfold QR at h;refine A5 A4 YK [4] 19 ?_;have k0:= @A99;exact gc
theorem A5d{a0}{a1}{r}(F_a1:FuncId)(caps_a1:P D)(hF_a1:B4 Z F_a1=T)(h_a1:∀z0 zr,a1 z0=N zr→FC Z F_a1 ([.ag (X9.row z0)]++caps_a1.map .sc) [.sc (.v (.bool zr))])(h:QP a0 a1=N r):FC Z 211 [.sc (.sl (Y X9.row a0)),.sc (.clo F_a1 caps_a1)] [.sc (.v (.bool r))]:=by
 unfold QP at h;refine A5 A4 h0 [4] 9 ?_;intro S hS;refine ev hS ?_;simp only[C,E,F,G,H,J];obtain⟨r1,h1,h⟩:=ob h;try simp only[C,E,F,G,H,J]
 refine AA (A5g F_a1 caps_a1 hF_a1 h_a1 h1) ?_;try simp only[C,E,F,G,H,J]
 cases h;exact t0
theorem B0a{a0}{c0}{r}(h:Kq a0 c0=N r):FC Z 212 [.ag (X9.row a0),.sc (.pd (X3.row c0))] [.sc (.v (.bool r))]:=by
 unfold Kq at h;refine A5 A4 h0 [3] 22 ?_;exact gc
instance B4q:Ct 181 (∀{a0} {a1} {r},My a0 a1=N r→FC Z 181 [.ag (X3.row a0),.sc (.sl (Y X9.row a1))] [.sc (.v (.bool r))]):=by
 refine⟨fun{a0} {a1} {r} h=> ?_⟩;unfold My at h;refine A5 A4 h0 [4] 8 ?_;intro S hS;refine ev hS ?_;simp only[C,E,F,G,H,J];try simp only[C,E,F,G,H,J]
 refine Bg ?_;obtain⟨r1,h1,h⟩:=ob h;try simp only[C,E,F,G,H,J]
 refine BO (A5d 212 [.pd (X3.row a0)] (by kernel_rfl) (fun z0 zr zh=>B0a zh) h1) X (BD X) X (uf X) ?_;try simp only[C,E,F,G,H,J]
 cases h;exact t0
theorem B0b{a0}{c0}{r}(h:MP a0 c0=N r):FC Z 180 [.ag (X3.row a0),.sc (.pd ((rL X9.row) c0))] [.sc (.v (.bool r))]:=by
 unfold MP at h;refine A5 A4 h0 [3] 7 ?_;exact gc
instance B5a:Ct 147 (∀{a0} {a1} {r},Kx a0 a1=N r→FC Z 147 [.ag (X0.row a0),.sc (.sl (Y X9.row a1))] [.sc (.v (.bool r))]):=by
 refine⟨fun{a0} {a1} {r} h=> ?_⟩;unfold Kx at h;refine A5 A4 h0 [4] 9 ?_;intro S hS;refine ev hS ?_;simp only[C,E,F,G,H,J];try simp only[C,E,F,G,H,J]
 refine Bg ?_;try simp only[C,E,F,G,H,J]
 refine Bg ?_;obtain⟨r1,h1,h⟩:=ob h;try simp only[C,E,F,G,H,J]
 refine BO (A5e 180 [.pd ((rL X9.row) a1)] (by kernel_rfl) (fun z0 zr zh=>B0b zh) h1) X (BD X) X (uf X) ?_;try simp only[C,E,F,G,H,J]
 cases h;exact t0
theorem B0c{a0}{c0}{r}(h:Tp a0 c0=N r):FC Z 146 [.ag (X0.row a0),.sc (.pd ((rL X9.row) c0))] [.sc (.v (.bool r))]:=by
 unfold Tp at h;refine A5 A4 h0 [3] 7 ?_;exact gc
def ss:Hw:=([],[(11,3,(O,.frzb 5))])
instance A32:Ct 96 (∀{a0} {a1} {a2} {r},MG a0 a1 a2=N r→FC Z 96 [.ag (X5.row a0),.ag (zB a1),.sc (.sl (Y X9.row a2))] [.sc (.o 4 (Y X0.row r))]):=by
 refine⟨fun{a0} {a1} {a2} {r} h=> ?_⟩;unfold MG at h;refine A5 A4 ss [6] 23 ?_;intro S hS;refine ev hS ?_;simp only[C,E,F,G,H,J];try simp only[C,E,F,G,H,J]
 refine Bg ?_;try simp only[C,E,F,G,H,J]
 refine Bg ?_;try simp only[C,E,F,G,H,J]
 refine Bg ?_;obtain⟨r1,h1,h⟩:=ob h;try simp only[C,E,F,G,H,J]
 refine AA (Ae A3s h1) ?_;obtain⟨h2,h⟩|⟨h2,h⟩:=ic h
 ·obtain⟨r3,h3,h⟩:=ob h;try simp only[h2,C,E,F,G,H,J]
  refine AA (Ae A3y h3) ?_;obtain⟨h4,h⟩|⟨h4,h⟩:=ic h
  ·obtain⟨r5,h5,h⟩:=ob h;try simp only[h2,h4,C,E,F,G,H,J]
   refine AA (Ae A33 h5) ?_;try simp only[h2,h4,C,E,F,G,H,J]
   refine Rm X X ?_;obtain⟨r6,h6,h⟩:=ob h;try simp only[h2,h4,List.drop_zero,C,E,F,G,H,J]
   refine Ty (A5f 146 [.pd ((rL X9.row) a2)] (by kernel_rfl) (fun z0 zr zh=>B0c zh) h6) 1280 X X X X X ?_;rw[T5];try simp only[h2,h4,List.drop_zero,C,E,F,G,H,J]
   cases h;exact t0
  ·try simp only[h2,h4,C,E,F,G,H,J]
   cases h;exact t0
 ·try simp only[h2,C,E,F,G,H,J]
  cases h;exact t0
instance A4s:Ct 182 (∀{a0} {a1} {r},Nb a0 a1=N r→FC Z 182 [.ag (Xk.row a0),.ag (Xk.row a1)] [.sc (.v (.bool r))]):=by
 refine⟨fun h=> ?_⟩;unfold Nb at h;refine A5 A4 h0 [4] 24 ?_;exact gc
instance B4w:Ct 256 (∀{a0} {a1} {r},Ku a0 a1=N r→FC Z 256 [.ag (X3.row a0),.ag (X3.row a1)] [.sc (.v (.bool r))]):=by
 refine⟨fun h=> ?_⟩;unfold Ku at h;refine A5 A4 h0 [4] 16 ?_;exact gc
instance B5o:Ct 257 (∀{a0} {a1} {a2} {r},KI a0 a1 a2=N r→FC Z 257 [.sc (.int .i64 a0),.sc (.int .i64 a1),.sc (.int .i64 a2)] [.sc (.v (.bool r))]):=by
 refine⟨fun h=> ?_⟩;unfold KI at h;refine A5 A4 h0 [6] 19 ?_;exact gc
def OO:Hw:=([(6,[4,5,6,7,9],[4,5,6,7],[]),(12,[4,5,6,7,24],[4,5,6,7],[]),(24,[5,6,7,41],[5,6,7],[]),(36,[6,7,72],[6,7],[])],[])
def fY:=fun(a2:X3) (a3:X3) (k_:V→Q U)=>∀{v22} {zr},k_ v22=N zr→Kh Z 234 OO 36 [6,7,72] [6,7] [] ⟨[pB 6,pB 7,(72,vc (aB v22))],[(6,(dm a2.row)),(7,(dm a3.row))],[]⟩ (A8 [8] [.sc (.v (.int .i64 zr))])
def fX:=fun(a1:Xi) (a2:X3) (a3:X3) (k_:V→V→Q U)=>∀{v15 v16} {zr},k_ v15 v16=N zr→Kh Z 234 OO 24 [5,6,7,41] [5,6,7] [] ⟨[pB 5,pB 6,pB 7,(41,vc (aB v15))],[(5,[aI a1.Gap,aB v16]),(6,(dm a2.row)),(7,(dm a3.row))],[]⟩ (A8 [8] [.sc (.v (.int .i64 zr))])
def fW:=fun(a0:X1) (a1:Xi) (a2:X3) (a3:X3) (k_:V→Q U)=>∀{v7} {zr},k_ v7=N zr→Kh Z 234 OO 12 [4,5,6,7,24] [4,5,6,7] [] ⟨[pB 4,pB 5,pB 6,pB 7,(24,vc (aB v7))],[(4,[aM X7.row a0.Points,aM X2.row a0.Segments]),(5,(dm a1.row)),(6,(dm a2.row)),(7,(dm a3.row))],[]⟩ (A8 [8] [.sc (.v (.int .i64 zr))])
def fV:=fun(a0:X1) (a1:Xi) (a2:X3) (a3:X3) (k_:V→Q U)=>∀{v3} {zr},k_ v3=N zr→Kh Z 234 OO 6 [4,5,6,7,9] [4,5,6,7] [] ⟨[pB 4,pB 5,pB 6,pB 7,(9,vc (aB v3))],[(4,[aM X7.row a0.Points,aM X2.row a0.Segments]),(5,(dm a1.row)),(6,(dm a2.row)),(7,(dm a3.row))],[]⟩ (A8 [8] [.sc (.v (.int .i64 zr))])
theorem B0d{a2 a3}:fY a2 a3 (MY a2 a3):=by
 intro v22 r h σ hσ;unfold MY at h;exact gc
theorem B0e{a1 a2 a3}:fX a1 a2 a3 (Ig a1 a2 a3):=by
 intro v15 v16 r h σ hσ;unfold Ig at h;have k0:= @B0d;exact gc
theorem B0f{a0 a1 a2 a3}:fW a0 a1 a2 a3 (MX a0 a1 a2 a3):=by
 intro v7 r h σ hσ;unfold MX at h;have k0:= @B0e;exact gc
theorem B0h{a0 a1 a2 a3}:fV a0 a1 a2 a3 (MW a0 a1 a2 a3):=by
 intro v3 r h σ hσ;unfold MW at h;have k0:= @B0f;exact gc
instance B5i:Ct 234 (∀{a0} {a1} {a2} {a3} {r},MV a0 a1 a2 a3=N r→FC Z 234 [.ag (X1.row a0),.ag (Xi.row a1),.ag (X3.row a2),.ag (X3.row a3)] [.sc (.v (.int .i64 r))]):=by
 refine⟨fun h=> ?_⟩;unfold MV at h;refine A5 A4 OO [8] 116 ?_;have k0:= @B0h;exact gc
def TS:Hw:=([(6,[3,4,5,13,14,15],[4,5],[]),(20,[3,4,5,10,13,14,15,19,20,21],[4,5,10],[])],[])
def fU:=fun a3 a2 v1 (a0:X1) (a1:Xi) (x3:X3) (k_:U→Q V)=>∀{v4} {zr},k_ v4=N zr→Kh Z 213 TS 20 [3,4,5,10,13,14,15,19,20,21] [4,5,10] [] ⟨[pL 3 X3.row a3,pB 4,pB 5,pB 10,pL 13 X3.row a2,pI 14 (a2.length:U),pI 15 v1,pL 19 X3.row a3,pI 20 (a3.length:U),pI 21 v4],[(4,[aM X7.row a0.Points,aM X2.row a0.Segments]),(5,(dm a1.row)),(10,(dm x3.row))],[]⟩ (A8 [8] [.sc (.v (.bool zr))])
def VE:=fun a3 a2 (a0:X1) (a1:Xi) (k_:U→Q V)=>∀{v1} {zr},k_ v1=N zr→Kh Z 213 TS 6 [3,4,5,13,14,15] [4,5] [] ⟨[pL 3 X3.row a3,pB 4,pB 5,pL 13 X3.row a2,pI 14 (a2.length:U),pI 15 v1],[(4,[aM X7.row a0.Points,aM X2.row a0.Segments]),(5,(dm a1.row))],[]⟩ (A8 [8] [.sc (.v (.bool zr))])
theorem B0i{a3 a2 v1 a0 a1 x3}{P2}(tC:VE a3 a2 a0 a1 P2){n:W}:fU a3 a2 v1 a0 a1 x3 (If a3 a2 v1 a0 a1 x3 P2 n):=by
 induction n with
 | zero=>intro _ r h; cases h
 | succ n ih=>
  intro v4 r h σ hσ;rw[If] at h;have k0:= @tC;exact gc
theorem B0j{a3 a2 a0 a1}{n:W}:VE a3 a2 a0 a1 (Fo a3 a2 a0 a1 n):=by
 induction n with
 | zero=>intro _ r h; cases h
 | succ n ih=>
  intro v1 r h σ hσ;rw[Fo] at h;have k0:= @B0i;exact gc
instance A39:Ct 213 (∀{a0} {a1} {a2} {a3} {r},MU a0 a1 a2 a3=N r→FC Z 213 [.ag (X1.row a0),.ag (Xi.row a1),.sc (.sl (Y X3.row a2)),.sc (.sl (Y X3.row a3))] [.sc (.v (.bool r))]):=by
 refine⟨fun h=> ?_⟩;unfold MU at h;refine A5 A4 TS [8] 33 ?_;have k0:= @B0j;exact gc
instance dC:Ct 215 (∀{a0} {r},EC a0=N r→FC Z 215 [.sc (.sl (Y X0.row a0))] [.sc (.o 4 (Y X0.row r))]):=by
 refine⟨fun h=> ?_⟩;unfold EC at h;refine A5 A4 h0 [2] 8 ?_;have s0:= @Ej _ X0.row (⟨(0:U),(0:U),(0:U),([]:P X3)⟩:X0);exact gc
instance B4z:Ct 258 (∀{a0} {a1} {r},Kv a0 a1=N r→FC Z 258 [.ag (X3.row a0),.ag (X1.row a1)] [.sc (.v (.int .i64 r.1)),.sc (.v (.int .i64 r.2))]):=by
 refine⟨fun h=> ?_⟩;unfold Kv at h;refine A5 A4 h0 [4,5] 23 ?_;exact gc
instance B5k:Ct 235 (∀{a0} {a1} {a2} {r},KE a0 a1 a2=N r→FC Z 235 [.ag (X1.row a0),.ag (X3.row a1),.ag (X3.row a2)] [.ag [.v (.int .i64 r.From),.v (.int .i64 r.To),.v (.int .i64 r.A),.v (.int .i64 r.B)]]):=by
 refine⟨fun h=> ?_⟩;unfold KE at h;refine A5 A4 h0 [.c 6 T 4] 30 ?_;exact gc
instance B5q:Ct 271 (∀{a0} {a1} {a2} {r},N6 a0 a1 a2=N r→FC Z 271 [.ag (X1.row a0),.sc (.sl (Y X4.row a1)),.ag (X3.row a2)] [.sc (.v (.bool r))]):=by
 refine⟨fun h=> ?_⟩;unfold N6 at h;refine A5 A4 h0 [6] 51 ?_;exact gc
instance B4y:Ct 259 (∀{a0} {a1} {a2} {r},MI a0 a1 a2=N r→FC Z 259 [.ag (X1.row a0),.sc (.sl (Y X4.row a1)),.ag (X3.row a2)] [.sc (.v (.bool r))]):=by
 refine⟨fun h=> ?_⟩;unfold MI at h;refine A5 A4 h0 [6] 19 ?_;exact gc
end Go.Vi
