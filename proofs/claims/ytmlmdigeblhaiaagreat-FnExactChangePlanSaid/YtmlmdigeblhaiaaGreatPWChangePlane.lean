/-
Walks. No condition.
-/
import Derived.Test.YtmlmdigeblhaiaaGreatPNf
import Derived.Test.YtmlmdigeblhaiaaGreatChecked
import Derived.Test.YtmlmdigeblhaiaaGreatPVi49
import Derived.KernelRfl
import Derived.Test.YtmlmdigeblhaiaaGreatPWChangePland
namespace Go.Vi
open Go.Proofs
set_option linter.all false
set_option maxRecDepth 4000
set_option maxHeartbeats 2000000
open Nat renaming reduceBEq → C, reduceMul → E, reduceAdd → F, reduceDiv → G, le_of_ble_eq_true → uf
open Int renaming reduceBEq → I
attribute [local irreducible] go B0 Gz
open List renaming map → V, length_set → X
open Tryz renaming prog → W
open Xc renaming row → Y
open Int renaming tmod → Z
open IntKind renaming wrap → J
open Option renaming some → T
open _root_ renaming List → H, Option → L, Int → N, Bool → O, Nat → P, rfl → Q
def QI:H (H P × AItem):= [([],(none,.mv 41 (S 9))),([],(none,.load 42 (S 3) true 12)),([],(none,.load 43 (S 11) true 5)),([],(none,.load 44 (S 5) false 1)),([],(none,.mv 45 (S 10))),([3,4],(none,.iaddr 46 (S 44) (S 45) 4)),([5],(none,.load 47 (S 46) true 4)),([1,2,6],(none,.call 48 38 [(S 42),(S 43),(S 47)])),([7],(none,.bslice 49 1 [.sl []] 1 [(0,(S 48))])),([0,8,7],(none,.app 50 1 24 (S 41) (S 49))),([9,9,0,1,2,3,4,5,6,7,8,9],(none,.mv 9 (S 50)))]
abbrev A5t(a1:H X8)(a0:X3)(a2:H X0)(v5:N)(x8:X8)(x9:X0)(ws9_ wo0_:AV)(wo7_ wu10_:AV)(c0_ c1_:O)(c2_ c3_:O)(c4_ c5_:O)(c6_ c7_:O)(c8_ c9_:O)(bx_:H (P × H AC))(rs_:Rows):St:=⟨[(3,vc (.pb 3 0)),(5,vc (.pb 5 0)),(9,ws9_),(10,vc (aI v5)),(11,vc (.pb 11 0)),(27,vc (aL (V X8.row a1))),(28,vc (aI (a1.length:N))),(29,vc (aI v5)),(41,bif c0_ then wo0_ else .undef),(42,bif c1_ then va ([aI a0.Forecast.Tide.Mean,aL (V Y a0.Forecast.Tide.Parts),aL (V X9.row a0.Forecast.Surges),aL (V X7.row a0.Chart.Points),aL (V X2.row a0.Chart.Segments),aL (V X5.row a0.Fleet),aI a0.Regime.Gap,aB a0.Regime.NoMeet]++dm a0.Crew.row) else .undef),(43,bif c2_ then va (dm x8.row) else .undef),(44,bif c3_ then vc (aL (V X0.row a2)) else .undef),(45,bif c4_ then vc (aI v5) else .undef),(46,bif c5_ then vc (.dat (.pd [.int .i64 x9.Start,.int .i64 x9.Arrival,.int .i64 x9.Cost,.sl (V X1.row x9.Passages)])) else .undef),(47,bif c6_ then va [aI x9.Start,aI x9.Arrival,aI x9.Cost,aL (V X1.row x9.Passages)] else .undef),(48,bif c7_ then wo7_ else .undef),(49,bif c8_ then vc (.own 3136) else .undef),(50,bif c9_ then vc (.own 1664) else .undef),(9,wu10_)],bx_,rs_⟩
abbrev B7q(a1:H X8)(a0:X3)(a2:H X0)(v5:N)(v6:H (H X0))(x8:X8)(x9:X0)(r12:(H X0)):St:=(A5t a1 a0 a2 v5 x8 x9 (vc (.own 1664)) (vc (.undef)) (vc (aL (V X0.row r12))) (vc (.own 1664)) true true true true true true true true true true [(3,([aI a0.Forecast.Tide.Mean,aL (V Y a0.Forecast.Tide.Parts),aL (V X9.row a0.Forecast.Surges),aL (V X7.row a0.Chart.Points),aL (V X2.row a0.Chart.Segments),aL (V X5.row a0.Fleet),aI a0.Regime.Gap,aB a0.Regime.NoMeet]++dm a0.Crew.row)),(5,[aL (V X0.row a2)]),(11,(dm x8.row))] [(1664,1,V (rL X0.row) (v6++([r12]:H (H X0)))),(3136,1,V (rL X0.row) ([r12]:H (H X0)))])
instance B9h:Ct 139 (∀{a0} {a1} {r},O2 a0 a1=T r->FC W 139 [.ag (X1.row a0),.ag (X1.row a1)] [.sc (.v (.bool r))]):=by
 refine⟨fun h=> ?_⟩;unfold O2 at h;refine A3 A2 h0 [4] 30 ?_;exact gc
def aF:Hw:=([(14,[0,1,5],[],[])],[])
def jm:=fun a0 a1 (k_:N->L O)=>∀{v2} {zr},k_ v2=T zr->Kh W 90 aF 14 [0,1,5] [] [] ⟨[pL 0 X1.row a0,pL 1 X1.row a1,pI 5 v2],[],[]⟩ (A5 [4] [.sc (.v (.bool zr))])
def B4s{a0 a1}{n:P}:jm a0 a1 (J9 a0 a1 n):=by
 induction n with
 | zero=>intro _ r h; cases h
 | succ n ih=>
  intro v2 r h M hσ;rw[J9] at h;exact gc
instance B9i:Ct 90 (∀{a0} {a1} {r},O3 a0 a1=T r->FC W 90 [.sc (.sl (V X1.row a0)),.sc (.sl (V X1.row a1))] [.sc (.v (.bool r))]):=by
 refine⟨fun h=> ?_⟩;unfold O3 at h;refine A3 A2 aF [4] 27 ?_;have k0:= @B4s;exact gc
instance B9e:Ct 43 (∀{a0} {a1} {r},NZ a0 a1=T r->FC W 43 [.ag (X0.row a0),.ag (X0.row a1)] [.sc (.v (.bool r))]):=by
 refine⟨fun h=> ?_⟩;unfold NZ at h;refine A3 A2 h0 [4] 26 ?_;exact gc
def aG:Hw:=([(14,[0,1,5],[],[])],[])
def jk:=fun a0 a1 (k_:N->L O)=>∀{v2} {zr},k_ v2=T zr->Kh W 12 aG 14 [0,1,5] [] [] ⟨[pL 0 X0.row a0,pL 1 X0.row a1,pI 5 v2],[],[]⟩ (A5 [4] [.sc (.v (.bool zr))])
def B4t{a0 a1}{n:P}:jk a0 a1 (J7 a0 a1 n):=by
 induction n with
 | zero=>intro _ r h; cases h
 | succ n ih=>
  intro v2 r h M hσ;rw[J7] at h;exact gc
def Tc{a0}{a1}{r}(h:ET a0 a1=T r):FC W 12 [.sc (.sl (V X0.row a0)),.sc (.sl (V X0.row a1))] [.sc (.v (.bool r))]:=by
 unfold ET at h;refine A3 A2 aG [4] 27 ?_;have k0:= @B4t;exact gc
instance B9f:Ct 187 (∀{a0} {a1} {r},O0 a0 a1=T r->FC W 187 [.ag (Y a0),.ag (Y a1)] [.sc (.v (.bool r))]):=by
 refine⟨fun h=> ?_⟩;unfold O0 at h;refine A3 A2 h0 [4] 20 ?_;exact gc
def aH:Hw:=([(14,[0,1,5],[],[])],[])
def jl:=fun a0 a1 (k_:N->L O)=>∀{v2} {zr},k_ v2=T zr->Kh W 140 aH 14 [0,1,5] [] [] ⟨[pL 0 Y a0,pL 1 Y a1,pI 5 v2],[],[]⟩ (A5 [4] [.sc (.v (.bool zr))])
def B4u{a0 a1}{n:P}:jl a0 a1 (J8 a0 a1 n):=by
 induction n with
 | zero=>intro _ r h; cases h
 | succ n ih=>
  intro v2 r h M hσ;rw[J8] at h;exact gc
instance B9g:Ct 140 (∀{a0} {a1} {r},O1 a0 a1=T r->FC W 140 [.sc (.sl (V Y a0)),.sc (.sl (V Y a1))] [.sc (.v (.bool r))]):=by
 refine⟨fun h=> ?_⟩;unfold O1 at h;refine A3 A2 aH [4] 27 ?_;have k0:= @B4u;exact gc
instance B9s:Ct 91 (∀{a0} {a1} {r},Ru a0 a1=T r->FC W 91 [.ag (Xm.row a0),.ag (Xm.row a1)] [.sc (.v (.bool r))]):=by
 refine⟨fun h=> ?_⟩;unfold Ru at h;refine A3 A2 h0 [4] 16 ?_;exact gc
instance B9q:Ct 141 (∀{a0} {a1} {r},Oa a0 a1=T r->FC W 141 [.ag (X9.row a0),.ag (X9.row a1)] [.sc (.v (.bool r))]):=by
 refine⟨fun h=> ?_⟩;unfold Oa at h;refine A3 A2 h0 [4] 20 ?_;exact gc
def aJ:Hw:=([(14,[0,1,5],[],[])],[])
def jr:=fun a0 a1 (k_:N->L O)=>∀{v2} {zr},k_ v2=T zr->Kh W 92 aJ 14 [0,1,5] [] [] ⟨[pL 0 X9.row a0,pL 1 X9.row a1,pI 5 v2],[],[]⟩ (A5 [4] [.sc (.v (.bool zr))])
def B4v{a0 a1}{n:P}:jr a0 a1 (Jd a0 a1 n):=by
 induction n with
 | zero=>intro _ r h; cases h
 | succ n ih=>
  intro v2 r h M hσ;rw[Jd] at h;exact gc
instance B9r:Ct 92 (∀{a0} {a1} {r},Ob a0 a1=T r->FC W 92 [.sc (.sl (V X9.row a0)),.sc (.sl (V X9.row a1))] [.sc (.v (.bool r))]):=by
 refine⟨fun h=> ?_⟩;unfold Ob at h;refine A3 A2 aJ [4] 27 ?_;have k0:= @B4v;exact gc
instance B9c:Ct 44 (∀{a0} {a1} {r},NW a0 a1=T r->FC W 44 [.ag (Xd.row a0),.ag (Xd.row a1)] [.sc (.v (.bool r))]):=by
 refine⟨fun h=> ?_⟩;unfold NW at h;refine A3 A2 h0 [4] 17 ?_;exact gc
instance B9j:Ct 142 (∀{a0} {a1} {r},O4 a0 a1=T r->FC W 142 [.ag (X7.row a0),.ag (X7.row a1)] [.sc (.v (.bool r))]):=by
 refine⟨fun h=> ?_⟩;unfold O4 at h;refine A3 A2 h0 [4] 15 ?_;exact gc
def aK:Hw:=([(14,[0,1,5],[],[])],[])
def jo:=fun a0 a1 (k_:N->L O)=>∀{v2} {zr},k_ v2=T zr->Kh W 93 aK 14 [0,1,5] [] [] ⟨[pL 0 X7.row a0,pL 1 X7.row a1,pI 5 v2],[],[]⟩ (A5 [4] [.sc (.v (.bool zr))])
def B4x{a0 a1}{n:P}:jo a0 a1 (Ja a0 a1 n):=by
 induction n with
 | zero=>intro _ r h; cases h
 | succ n ih=>
  intro v2 r h M hσ;rw[Ja] at h;exact gc
instance B9k:Ct 93 (∀{a0} {a1} {r},O5 a0 a1=T r->FC W 93 [.sc (.sl (V X7.row a0)),.sc (.sl (V X7.row a1))] [.sc (.v (.bool r))]):=by
 refine⟨fun h=> ?_⟩;unfold O5 at h;refine A3 A2 aK [4] 27 ?_;have k0:= @B4x;exact gc
instance B9m:Ct 143 (∀{a0} {a1} {r},O6 a0 a1=T r->FC W 143 [.ag (X2.row a0),.ag (X2.row a1)] [.sc (.v (.bool r))]):=by
 refine⟨fun h=> ?_⟩;unfold O6 at h;refine A3 A2 h0 [4] 30 ?_;exact gc
def aN:Hw:=([(14,[0,1,5],[],[])],[])
def jp:=fun a0 a1 (k_:N->L O)=>∀{v2} {zr},k_ v2=T zr->Kh W 94 aN 14 [0,1,5] [] [] ⟨[pL 0 X2.row a0,pL 1 X2.row a1,pI 5 v2],[],[]⟩ (A5 [4] [.sc (.v (.bool zr))])
def B4y{a0 a1}{n:P}:jp a0 a1 (Jb a0 a1 n):=by
 induction n with
 | zero=>intro _ r h; cases h
 | succ n ih=>
  intro v2 r h M hσ;rw[Jb] at h;exact gc
instance B9n:Ct 94 (∀{a0} {a1} {r},O7 a0 a1=T r->FC W 94 [.sc (.sl (V X2.row a0)),.sc (.sl (V X2.row a1))] [.sc (.v (.bool r))]):=by
 refine⟨fun h=> ?_⟩;unfold O7 at h;refine A3 A2 aN [4] 27 ?_;have k0:= @B4y;exact gc
instance B9a:Ct 45 (∀{a0} {a1} {r},NV a0 a1=T r->FC W 45 [.ag (X4.row a0),.ag (X4.row a1)] [.sc (.v (.bool r))]):=by
 refine⟨fun h=> ?_⟩;unfold NV at h;refine A3 A2 h0 [4] 17 ?_;exact gc
instance B9o:Ct 95 (∀{a0} {a1} {r},O8 a0 a1=T r->FC W 95 [.ag (X5.row a0),.ag (X5.row a1)] [.sc (.v (.bool r))]):=by
 refine⟨fun h=> ?_⟩;unfold O8 at h;refine A3 A2 h0 [4] 35 ?_;exact gc
def aO:Hw:=([(14,[0,1,5],[],[])],[])
def jq:=fun a0 a1 (k_:N->L O)=>∀{v2} {zr},k_ v2=T zr->Kh W 46 aO 14 [0,1,5] [] [] ⟨[pL 0 X5.row a0,pL 1 X5.row a1,pI 5 v2],[],[]⟩ (A5 [4] [.sc (.v (.bool zr))])
def B4z{a0 a1}{n:P}:jq a0 a1 (Jc a0 a1 n):=by
 induction n with
 | zero=>intro _ r h; cases h
 | succ n ih=>
  intro v2 r h M hσ;rw[Jc] at h;exact gc
instance B9p:Ct 46 (∀{a0} {a1} {r},O9 a0 a1=T r->FC W 46 [.sc (.sl (V X5.row a0)),.sc (.sl (V X5.row a1))] [.sc (.v (.bool r))]):=by
 refine⟨fun h=> ?_⟩;unfold O9 at h;refine A3 A2 aO [4] 27 ?_;have k0:= @B4z;exact gc
instance B9l:Ct 47 (∀{a0} {a1} {r},Rt a0 a1=T r->FC W 47 [.ag (Xi.row a0),.ag (Xi.row a1)] [.sc (.v (.bool r))]):=by
 refine⟨fun h=> ?_⟩;unfold Rt at h;refine A3 A2 h0 [4] 15 ?_;exact gc
def aP:Hw:=([(14,[0,1,5],[],[])],[])
def jj:=fun a0 a1 (k_:N->L O)=>∀{v2} {zr},k_ v2=T zr->Kh W 96 aP 14 [0,1,5] [] [] ⟨[pL 0 rI a0,pL 1 rI a1,pI 5 v2],[],[]⟩ (A5 [4] [.sc (.v (.bool zr))])
def B40{a0 a1}{n:P}:jj a0 a1 (J6 a0 a1 n):=by
 induction n with
 | zero=>intro _ r h; cases h
 | succ n ih=>
  intro v2 r h M hσ;rw[J6] at h;exact gc
instance B9d:Ct 96 (∀{a0} {a1} {r},NY a0 a1=T r->FC W 96 [.sc (.sl (V rI a0)),.sc (.sl (V rI a1))] [.sc (.v (.bool r))]):=by
 refine⟨fun h=> ?_⟩;unfold NY at h;refine A3 A2 aP [4] 26 ?_;have k0:= @B40;exact gc
instance B9b:Ct 48 (∀{a0} {a1} {r},Rr a0 a1=T r->FC W 48 [.ag (Xn.row a0),.ag (Xn.row a1)] [.sc (.v (.bool r))]):=by
 refine⟨fun h=> ?_⟩;unfold Rr at h;refine A3 A2 h0 [4] 26 ?_;exact gc
def A79{a0}{a1}{r}(h:NX a0 a1=T r):FC W 13 [.ag (X3.row a0),.ag (X3.row a1)] [.sc (.v (.bool r))]:=by
 unfold NX at h;refine A3 A2 h0 [4] 35 ?_;exact gc
instance B89:Ct 49 (∀{a0} {a1} {r},Rq a0 a1=T r->FC W 49 [.ag (X8.row a0),.ag (X8.row a1)] [.sc (.v (.bool r))]):=by
 refine⟨fun h=> ?_⟩;unfold Rq at h;refine A3 A2 h0 [4] 30 ?_;exact gc
def aQ:Hw:=([(14,[0,1,5],[],[])],[])
def ji:=fun a0 a1 (k_:N->L O)=>∀{v2} {zr},k_ v2=T zr->Kh W 14 aQ 14 [0,1,5] [] [] ⟨[pL 0 X8.row a0,pL 1 X8.row a1,pI 5 v2],[],[]⟩ (A5 [4] [.sc (.v (.bool zr))])
def B41{a0 a1}{n:P}:ji a0 a1 (J5 a0 a1 n):=by
 induction n with
 | zero=>intro _ r h; cases h
 | succ n ih=>
  intro v2 r h M hσ;rw[J5] at h;exact gc
def A78{a0}{a1}{r}(h:NU a0 a1=T r):FC W 14 [.sc (.sl (V X8.row a0)),.sc (.sl (V X8.row a1))] [.sc (.v (.bool r))]:=by
 unfold NU at h;refine A3 A2 aQ [4] 27 ?_;have k0:= @B41;exact gc
def UH:Hw:=([(6,[0,1,5],[],[99999999999])],[])
def jy:=fun(k_:N->N->(H Xc)->L (N × H Xc))=>∀{v1 v2 v3} {zr},k_ v1 v2 v3=T zr->Kh W 144 UH 6 [0,1,5] [] [99999999999] ⟨[pW 0 99999999999,pI 1 v1,pI 5 v2],[],[(99999999999,3,V Y v3)]⟩ (CZ [4] (.int .i64 zr.1) [(3,V Y zr.2)] [(0,0)])
def B42{n:P}:jy (G0 n):=by
 induction n with
 | zero=>intro _ _ _ r h; cases h
 | succ n ih=>
  intro v1 v2 v3 r h M hσ S hS;refine ev hS ?_;rw[G0] at h;refine AA (Av ?_);obtain⟨h4,h⟩|⟨h4,h⟩:=ic h
  .obtain⟨x5,h5,h⟩:=ob h;have h5n:=Ah h5;refine sg ?_;refine AM (row:=Y) (y:=(⟨v1,x5.Period,x5.Phase⟩:Xc)) Q Q h5n Q Q (by rfl) ?_;obtain⟨x6,h6,h⟩:=ob h;have h6n:=Ah h6;refine sg ?_;refine AM (row:=Y) (y:=(⟨x6.Amp,(J .i64 (v1+(1:N))),x6.Phase⟩:Xc)) Q Q h6n Q Q (by rfl) ?_;obtain⟨x7,h7,h⟩:=ob h;have h7n:=Ah h7;refine sg ?_;refine AM (row:=Y) (y:=(⟨x7.Amp,x7.Period,(J .i64 ((J .i64 (v1+(1:N)))+(1:N)))⟩:Xc)) Q Q h7n Q Q (by rfl) ?_;refine sg ?_;exact ih h sq kr
  .refine sg ?_;cases h;exact⟨⟨Q,⟨⟩⟩,⟨⟨⟨_,Q,Q⟩,Q⟩,⟨⟩⟩⟩
def rq:AF W 144=T ((By W 144 UH).strip,[4],34):=by kernel_rfl
def zb:∀(n:P) (v1 v2:N) (v3:H Xc) (r:N × H Xc),G0 n v1 v2 v3=T r->r.2.length=v3.length:=by
 intro n
 induction n with
 | zero=>intro _ _ _ r h; cases h
 | succ n ih=>
  intro v1 v2 v3 r h;rw[G0] at h;obtain⟨h4,h⟩|⟨h4,h⟩:=ic h
  .obtain⟨x5,h5,h⟩:=ob h;obtain⟨x6,h6,h⟩:=ob h;obtain⟨x7,h7,h⟩:=ob h;have hl:=ih _ _ _ _ h;try simp only[X] at hl
   omega
  .cases h;all_goals (try dsimp only); first | done | omega | (simp only[X] at *; omega) | simp_all
def V5{a0}{a1}{r}(h:Lz a0 a1=T r):r.2.length=a0.length:=by
 unfold Lz at h;have hl:=zb _ _ _ _ _ h;try simp only[X] at hl
 omega
def A8g{a0}{a1}{r}(h:Lz a0 a1=T r):FCx W 144 [.sc (.r 0),.sc (.d (.int .i64 a1))] [(3,V Y a0)] [(3,V Y r.2)] (.int .i64 r.1):=by
 unfold Lz at h;refine Dj (ps:= [(0,0)]) (M:=⟨[(0,vc (.own 99999999999)),(1,vc (aI a1))],[],[(99999999999,3,V Y a0)]⟩) A2 rq Q Q Q (AW BF) Q ?_;refine BC UH ?_;have k0:= @B42;exact gc
def rr:AF W 97=T ((By W 97 h0).strip,[4],10):=by kernel_rfl
def Vb{a0}{a1}{r}(h:LH a0 a1=T r):r.2.length=a0.Parts.length:=by
 unfold LH at h;obtain⟨r1,h1,h⟩:=ob h;have lrr1:=(V5 h1);cases h;all_goals (try dsimp only); first | done | omega | (simp only[X] at *; omega) | simp_all
def A8m{a0}{a1}{r}(h:LH a0 a1=T r):FCx W 97 [.ag [.d (.int .i64 a0.Mean),.r 0],.sc (.d (.int .i64 a1))] [(3,V Y a0.Parts)] [(3,V Y r.2)] (.int .i64 r.1):=by
 unfold LH at h;refine Dj (ps:= [(0,1)]) (M:=⟨[(0,va [aI a0.Mean,.own 99999999999]),(1,vc (aI a1))],[],[(99999999999,3,V Y a0.Parts)]⟩) A2 rr Q Q Q (AW BF) Q ?_;refine BC h0 ?_;intro S hS;refine ev hS ?_;obtain⟨r1,hr1,h⟩:=ob h;refine sg ?_;have lrr1:=(V5 hr1);refine DM (ids:= [99999999999]) (A8g hr1) Q Q Q (AW BF) (Cl (V5 hr1) E0) ?_;refine sg ?_;cases h;exact⟨⟨Q,⟨⟩⟩,⟨⟨⟨_,Q,Q⟩,Q⟩,⟨⟩⟩⟩
def UI:Hw:=([(6,[0,1,5],[],[99999999999])],[])
def kf:=fun(k_:N->N->(H X9)->L (N × H X9))=>∀{v1 v2 v3} {zr},k_ v1 v2 v3=T zr->Kh W 98 UI 6 [0,1,5] [] [99999999999] ⟨[pW 0 99999999999,pI 1 v1,pI 5 v2],[],[(99999999999,3,V X9.row v3)]⟩ (CZ [4] (.int .i64 zr.1) [(3,V X9.row zr.2)] [(0,0)])
def B43{n:P}:kf (G5 n):=by
 induction n with
 | zero=>intro _ _ _ r h; cases h
 | succ n ih=>
  intro v1 v2 v3 r h M hσ S hS;refine ev hS ?_;rw[G5] at h;refine AA (Av ?_);obtain⟨h4,h⟩|⟨h4,h⟩:=ic h
  .obtain⟨x5,h5,h⟩:=ob h;have h5n:=Ah h5;refine sg ?_;refine AM (row:=X9.row) (y:=(⟨v1,x5.Low,x5.High⟩:X9)) Q Q h5n Q Q (by rfl) ?_;obtain⟨x6,h6,h⟩:=ob h;have h6n:=Ah h6;refine sg ?_;refine AM (row:=X9.row) (y:=(⟨x6.From,(J .i64 (v1+(1:N))),x6.High⟩:X9)) Q Q h6n Q Q (by rfl) ?_;obtain⟨x7,h7,h⟩:=ob h;have h7n:=Ah h7;refine sg ?_;refine AM (row:=X9.row) (y:=(⟨x7.From,x7.Low,(J .i64 ((J .i64 (v1+(1:N)))+(1:N)))⟩:X9)) Q Q h7n Q Q (by rfl) ?_;refine sg ?_;exact ih h sq kr
  .refine sg ?_;cases h;exact⟨⟨Q,⟨⟩⟩,⟨⟨⟨_,Q,Q⟩,Q⟩,⟨⟩⟩⟩
def ru:AF W 98=T ((By W 98 UI).strip,[4],34):=by kernel_rfl
def zi:∀(n:P) (v1 v2:N) (v3:H X9) (r:N × H X9),G5 n v1 v2 v3=T r->r.2.length=v3.length:=by
 intro n
 induction n with
 | zero=>intro _ _ _ r h; cases h
 | succ n ih=>
  intro v1 v2 v3 r h;rw[G5] at h;obtain⟨h4,h⟩|⟨h4,h⟩:=ic h
  .obtain⟨x5,h5,h⟩:=ob h;obtain⟨x6,h6,h⟩:=ob h;obtain⟨x7,h7,h⟩:=ob h;have hl:=ih _ _ _ _ h;try simp only[X] at hl
   omega
  .cases h;all_goals (try dsimp only); first | done | omega | (simp only[X] at *; omega) | simp_all
def Va{a0}{a1}{r}(h:LF a0 a1=T r):r.2.length=a0.length:=by
 unfold LF at h;have hl:=zi _ _ _ _ _ h;try simp only[X] at hl
 omega
def A8l{a0}{a1}{r}(h:LF a0 a1=T r):FCx W 98 [.sc (.r 0),.sc (.d (.int .i64 a1))] [(3,V X9.row a0)] [(3,V X9.row r.2)] (.int .i64 r.1):=by
 unfold LF at h;refine Dj (ps:= [(0,0)]) (M:=⟨[(0,vc (.own 99999999999)),(1,vc (aI a1))],[],[(99999999999,3,V X9.row a0)]⟩) A2 ru Q Q Q (AW BF) Q ?_;refine BC UI ?_;have k0:= @B43;exact gc
def rv:AF W 50=T ((By W 50 h0).strip,[4],14):=by kernel_rfl
def SL{a0}{a1}{r}(h:Lx a0 a1=T r):r.2.1.length=a0.Tide.Parts.length/\r.2.2.length=a0.Surges.length:=by
 unfold Lx at h;obtain⟨r1,h1,h⟩:=ob h;have lrr1:=(Vb h1);obtain⟨r2,h2,h⟩:=ob h;have lrr2:=(Va h2);cases h;all_goals (try dsimp only); first | done | omega | (simp only[X] at *; omega) | simp_all
def A8d{a0}{a1}{r}(h:Lx a0 a1=T r):FCx W 50 [.ag [.d (.int .i64 a0.Tide.Mean),.r 0,.r 1],.sc (.d (.int .i64 a1))] [(3,V Y a0.Tide.Parts),(3,V X9.row a0.Surges)] [(3,V Y r.2.1),(3,V X9.row r.2.2)] (.int .i64 r.1):=by
 unfold Lx at h;refine Dj (ps:= [(0,1),(0,2)]) (M:=⟨[(0,va [aI a0.Tide.Mean,.own 99999999999,.own 100000000000]),(1,vc (aI a1))],[],[(99999999999,3,V Y a0.Tide.Parts),(100000000000,3,V X9.row a0.Surges)]⟩) A2 rv Q Q Q (AW (AW BF)) Q ?_;refine BC h0 ?_;intro S hS;refine ev hS ?_;obtain⟨r1,hr1,h⟩:=ob h;refine sg ?_;have lrr1:=(Vb hr1);refine DM (ids:= [99999999999]) (A8m hr1) Q Q Q (AW BF) (Cl (Vb hr1) E0) ?_;obtain⟨r2,hr2,h⟩:=ob h;refine sg ?_;have lrr2:=(Va hr2);refine DM (ids:= [100000000000]) (A8l hr2) Q Q Q (AW BF) (Cl (Va hr2) E0) ?_;refine sg ?_;cases h;exact⟨⟨Q,⟨⟩⟩,⟨⟨⟨_,Q,Q⟩,Q⟩,⟨⟨⟨_,Q,Q⟩,Q⟩,⟨⟩⟩⟩⟩
def aU:Hw:=([(14,[0,3],[],[])],[])
def kg:=fun(k_:N->(H UInt8)->L (H UInt8))=>∀{v2 v3} {zr},k_ v2 v3=T zr->Kh W 101 aU 14 [0,3] [] [] ⟨[pI 0 v2,(3,vc (aS v3))],[],[]⟩ (A5 [2] [.sc (.v (.str zr))])
def B44{n:P}:kg (Jh n):=by
 induction n with
 | zero=>intro _ _ r h; cases h
 | succ n ih=>
  intro v2 v3 r h M hσ;rw[Jh] at h;have s0:= @Aq (V r8 ([(IntKind.u8.wrap (J .i64 ((48:N)+(J .i64 (Z v2 (10:N))))))]:H N));exact gc
instance fq:Ct 101 (∀{a0} {r},LG a0=T r->FC W 101 [.sc (.int .i64 a0)] [.sc (.v (.str r))]):=by
 refine⟨fun h=> ?_⟩;unfold LG at h;refine A3 A2 aU [2] 20 ?_;have k0:= @B44;exact gc
def UJ:Hw:=([(6,[0,1,5],[],[99999999999])],[])
def ka:=fun(k_:N->N->(H X7)->L (N × H X7))=>∀{v1 v2 v3} {zr},k_ v1 v2 v3=T zr->Kh W 99 UJ 6 [0,1,5] [] [99999999999] ⟨[pW 0 99999999999,pI 1 v1,pI 5 v2],[],[(99999999999,2,V X7.row v3)]⟩ (CZ [4] (.int .i64 zr.1) [(2,V X7.row zr.2)] [(0,0)])
def B46{n:P}:ka (G2 n):=by
 induction n with
 | zero=>intro _ _ _ r h; cases h
 | succ n ih=>
  intro v1 v2 v3 r h M hσ S hS;refine ev hS ?_;rw[G2] at h;refine AA (Av ?_);obtain⟨h4,h⟩|⟨h4,h⟩:=ic h
  .obtain⟨r5,h5,h⟩:=ob h;refine sg ?_;refine AD (Ag fq h5) ?_;obtain⟨x6,h6,h⟩:=ob h;have h6n:=Ah h6;refine sg ?_;refine AM (row:=X7.row) (y:=(⟨r5,x6.Wait⟩:X7)) Q Q h6n Q Q (by rfl) ?_;obtain⟨x7,h7,h⟩:=ob h;have h7n:=Ah h7;refine sg ?_;refine AM (row:=X7.row) (y:=(⟨x7.Name,((J .i64 (Z (J .i64 (v1+(1:N))) (3:N)))==(0:N))⟩:X7)) Q Q h7n Q Q (by rfl) ?_;refine sg ?_;exact ih h sq kr
  .refine sg ?_;cases h;exact⟨⟨Q,⟨⟩⟩,⟨⟨⟨_,Q,Q⟩,Q⟩,⟨⟩⟩⟩
def rx:AF W 99=T ((By W 99 UJ).strip,[4],30):=by kernel_rfl
def ze:∀(n:P) (v1 v2:N) (v3:H X7) (r:N × H X7),G2 n v1 v2 v3=T r->r.2.length=v3.length:=by
 intro n
 induction n with
 | zero=>intro _ _ _ r h; cases h
 | succ n ih=>
  intro v1 v2 v3 r h;rw[G2] at h;obtain⟨h4,h⟩|⟨h4,h⟩:=ic h
  .obtain⟨r5,h5,h⟩:=ob h;obtain⟨x6,h6,h⟩:=ob h;obtain⟨x7,h7,h⟩:=ob h;have hl:=ih _ _ _ _ h;try simp only[X] at hl
   omega
  .cases h;all_goals (try dsimp only); first | done | omega | (simp only[X] at *; omega) | simp_all
def V7{a0}{a1}{r}(h:LA a0 a1=T r):r.2.length=a0.length:=by
 unfold LA at h;have hl:=ze _ _ _ _ _ h;try simp only[X] at hl
 omega
def A8i{a0}{a1}{r}(h:LA a0 a1=T r):FCx W 99 [.sc (.r 0),.sc (.d (.int .i64 a1))] [(2,V X7.row a0)] [(2,V X7.row r.2)] (.int .i64 r.1):=by
 unfold LA at h;refine Dj (ps:= [(0,0)]) (M:=⟨[(0,vc (.own 99999999999)),(1,vc (aI a1))],[],[(99999999999,2,V X7.row a0)]⟩) A2 rx Q Q Q (AW BF) Q ?_;refine BC UJ ?_;have k0:= @B46;exact gc
def UK:Hw:=([(6,[0,1,5],[],[99999999999])],[])
def kb:=fun(k_:N->N->(H X2)->L (N × H X2))=>∀{v1 v2 v3} {zr},k_ v1 v2 v3=T zr->Kh W 100 UK 6 [0,1,5] [] [99999999999] ⟨[pW 0 99999999999,pI 1 v1,pI 5 v2],[],[(99999999999,5,V X2.row v3)]⟩ (CZ [4] (.int .i64 zr.1) [(5,V X2.row zr.2)] [(0,0)])
def B47{n:P}:kb (G3 n):=by
 induction n with
 | zero=>intro _ _ _ r h; cases h
 | succ n ih=>
  intro v1 v2 v3 r h M hσ S hS;refine ev hS ?_;rw[G3] at h;refine AA (Av ?_);obtain⟨h4,h⟩|⟨h4,h⟩:=ic h
  .obtain⟨x5,h5,h⟩:=ob h;have h5n:=Ah h5;refine sg ?_;refine AM (row:=X2.row) (y:=(⟨v1,x5.B,x5.Depth,x5.Minutes,x5.Meet⟩:X2)) Q Q h5n Q Q (by rfl) ?_;obtain⟨x6,h6,h⟩:=ob h;have h6n:=Ah h6;refine sg ?_;refine AM (row:=X2.row) (y:=(⟨x6.A,(J .i64 (v1+(1:N))),x6.Depth,x6.Minutes,x6.Meet⟩:X2)) Q Q h6n Q Q (by rfl) ?_;obtain⟨x7,h7,h⟩:=ob h;have h7n:=Ah h7;refine sg ?_;refine AM (row:=X2.row) (y:=(⟨x7.A,x7.B,(J .i64 ((J .i64 (v1+(1:N)))+(1:N))),x7.Minutes,x7.Meet⟩:X2)) Q Q h7n Q Q (by rfl) ?_;obtain⟨x8,h8,h⟩:=ob h;have h8n:=Ah h8;refine sg ?_;refine AM (row:=X2.row) (y:=(⟨x8.A,x8.B,x8.Depth,(J .i64 ((J .i64 ((J .i64 (v1+(1:N)))+(1:N)))+(1:N))),x8.Meet⟩:X2)) Q Q h8n Q Q (by rfl) ?_;obtain⟨x9,h9,h⟩:=ob h;have h9n:=Ah h9;refine sg ?_;refine AM (row:=X2.row) (y:=(⟨x9.A,x9.B,x9.Depth,x9.Minutes,((J .i64 (Z (J .i64 ((J .i64 ((J .i64 ((J .i64 (v1+(1:N)))+(1:N)))+(1:N)))+(1:N))) (3:N)))==(0:N))⟩:X2)) Q Q h9n Q Q (by rfl) ?_;refine sg ?_;exact ih h sq kr
  .refine sg ?_;cases h;exact⟨⟨Q,⟨⟩⟩,⟨⟨⟨_,Q,Q⟩,Q⟩,⟨⟩⟩⟩
def ry:AF W 100=T ((By W 100 UK).strip,[4],50):=by kernel_rfl
def zf:∀(n:P) (v1 v2:N) (v3:H X2) (r:N × H X2),G3 n v1 v2 v3=T r->r.2.length=v3.length:=by
 intro n
 induction n with
 | zero=>intro _ _ _ r h; cases h
 | succ n ih=>
  intro v1 v2 v3 r h;rw[G3] at h;obtain⟨h4,h⟩|⟨h4,h⟩:=ic h
  .obtain⟨x5,h5,h⟩:=ob h;obtain⟨x6,h6,h⟩:=ob h;obtain⟨x7,h7,h⟩:=ob h;obtain⟨x8,h8,h⟩:=ob h;obtain⟨x9,h9,h⟩:=ob h;have hl:=ih _ _ _ _ h;try simp only[X] at hl
   omega
  .cases h;all_goals (try dsimp only); first | done | omega | (simp only[X] at *; omega) | simp_all
def V8{a0}{a1}{r}(h:LC a0 a1=T r):r.2.length=a0.length:=by
 unfold LC at h;have hl:=zf _ _ _ _ _ h;try simp only[X] at hl
 omega
def A8j{a0}{a1}{r}(h:LC a0 a1=T r):FCx W 100 [.sc (.r 0),.sc (.d (.int .i64 a1))] [(5,V X2.row a0)] [(5,V X2.row r.2)] (.int .i64 r.1):=by
 unfold LC at h;refine Dj (ps:= [(0,0)]) (M:=⟨[(0,vc (.own 99999999999)),(1,vc (aI a1))],[],[(99999999999,5,V X2.row a0)]⟩) A2 ry Q Q Q (AW BF) Q ?_;refine BC UK ?_;have k0:= @B47;exact gc
def rz:AF W 51=T ((By W 51 h0).strip,[4],14):=by kernel_rfl
def SK{a0}{a1}{r}(h:Lv a0 a1=T r):r.2.1.length=a0.Points.length/\r.2.2.length=a0.Segments.length:=by
 unfold Lv at h;obtain⟨r1,h1,h⟩:=ob h;have lrr1:=(V7 h1);obtain⟨r2,h2,h⟩:=ob h;have lrr2:=(V8 h2);cases h;all_goals (try dsimp only); first | done | omega | (simp only[X] at *; omega) | simp_all
def A8b{a0}{a1}{r}(h:Lv a0 a1=T r):FCx W 51 [.ag [.r 0,.r 1],.sc (.d (.int .i64 a1))] [(2,V X7.row a0.Points),(5,V X2.row a0.Segments)] [(2,V X7.row r.2.1),(5,V X2.row r.2.2)] (.int .i64 r.1):=by
 unfold Lv at h;refine Dj (ps:= [(0,0),(0,1)]) (M:=⟨[(0,va [.own 99999999999,.own 100000000000]),(1,vc (aI a1))],[],[(99999999999,2,V X7.row a0.Points),(100000000000,5,V X2.row a0.Segments)]⟩) A2 rz Q Q Q (AW (AW BF)) Q ?_;refine BC h0 ?_;intro S hS;refine ev hS ?_;obtain⟨r1,hr1,h⟩:=ob h;refine sg ?_;have lrr1:=(V7 hr1);refine DM (ids:= [99999999999]) (A8i hr1) Q Q Q (AW BF) (Cl (V7 hr1) E0) ?_;obtain⟨r2,hr2,h⟩:=ob h;refine sg ?_;have lrr2:=(V8 hr2);refine DM (ids:= [100000000000]) (A8j hr2) Q Q Q (AW BF) (Cl (V8 hr2) E0) ?_;refine sg ?_;cases h;exact⟨⟨Q,⟨⟩⟩,⟨⟨⟨_,Q,Q⟩,Q⟩,⟨⟨⟨_,Q,Q⟩,Q⟩,⟨⟩⟩⟩⟩
def UL:Hw:=([(6,[0,1,5],[],[99999999999])],[])
def ke:=fun(k_:N->N->(H X5)->L (N × H X5))=>∀{v1 v2 v3} {zr},k_ v1 v2 v3=T zr->Kh W 52 UL 6 [0,1,5] [] [99999999999] ⟨[pW 0 99999999999,pI 1 v1,pI 5 v2],[],[(99999999999,6,V X5.row v3)]⟩ (CZ [4] (.int .i64 zr.1) [(6,V X5.row zr.2)] [(0,0)])
def B48{n:P}:ke (G4 n):=by
 induction n with
 | zero=>intro _ _ _ r h; cases h
 | succ n ih=>
  intro v1 v2 v3 r h M hσ S hS;refine ev hS ?_;rw[G4] at h;refine AA (Av ?_);obtain⟨h4,h⟩|⟨h4,h⟩:=ic h
  .obtain⟨r5,h5,h⟩:=ob h;refine sg ?_;refine AD (Ag fq h5) ?_;obtain⟨x6,h6,h⟩:=ob h;have h6n:=Ah h6;refine sg ?_;refine AM (row:=X5.row) (y:=(⟨r5,x6.Length,x6.Draught,x6.Line,x6.Tugs,x6.Slow⟩:X5)) Q Q h6n Q Q (by rfl) ?_;obtain⟨x7,h7,h⟩:=ob h;have h7n:=Ah h7;refine sg ?_;refine AM (row:=X5.row) (y:=(⟨x7.Name,(J .i64 (v1+(1:N))),x7.Draught,x7.Line,x7.Tugs,x7.Slow⟩:X5)) Q Q h7n Q Q (by rfl) ?_;obtain⟨x8,h8,h⟩:=ob h;have h8n:=Ah h8;refine sg ?_;refine AM (row:=X5.row) (y:=(⟨x8.Name,x8.Length,(J .i64 ((J .i64 (v1+(1:N)))+(1:N))),x8.Line,x8.Tugs,x8.Slow⟩:X5)) Q Q h8n Q Q (by rfl) ?_;obtain⟨x9,h9,h⟩:=ob h;have h9n:=Ah h9;refine sg ?_;refine AM (row:=X5.row) (y:=(⟨x9.Name,x9.Length,x9.Draught,(J .i64 ((J .i64 ((J .i64 (v1+(1:N)))+(1:N)))+(1:N))),x9.Tugs,x9.Slow⟩:X5)) Q Q h9n Q Q (by rfl) ?_;obtain⟨x10,h10,h⟩:=ob h;have h10n:=Ah h10;refine sg ?_;refine AM (row:=X5.row) (y:=(⟨x10.Name,x10.Length,x10.Draught,x10.Line,(J .i64 ((J .i64 ((J .i64 ((J .i64 (v1+(1:N)))+(1:N)))+(1:N)))+(1:N))),x10.Slow⟩:X5)) Q Q h10n Q Q (by rfl) ?_;obtain⟨x11,h11,h⟩:=ob h;have h11n:=Ah h11;refine sg ?_;refine AM (row:=X5.row) (y:=(⟨x11.Name,x11.Length,x11.Draught,x11.Line,x11.Tugs,((J .i64 (Z (J .i64 ((J .i64 ((J .i64 ((J .i64 ((J .i64 (v1+(1:N)))+(1:N)))+(1:N)))+(1:N)))+(1:N))) (3:N)))==(0:N))⟩:X5)) Q Q h11n Q Q (by rfl) ?_;refine sg ?_;exact ih h sq kr
  .refine sg ?_;cases h;exact⟨⟨Q,⟨⟩⟩,⟨⟨⟨_,Q,Q⟩,Q⟩,⟨⟩⟩⟩
def sA:AF W 52=T ((By W 52 UL).strip,[4],58):=by kernel_rfl
def zg:∀(n:P) (v1 v2:N) (v3:H X5) (r:N × H X5),G4 n v1 v2 v3=T r->r.2.length=v3.length:=by
 intro n
 induction n with
 | zero=>intro _ _ _ r h; cases h
 | succ n ih=>
  intro v1 v2 v3 r h;rw[G4] at h;obtain⟨h4,h⟩|⟨h4,h⟩:=ic h
  .obtain⟨r5,h5,h⟩:=ob h;obtain⟨x6,h6,h⟩:=ob h;obtain⟨x7,h7,h⟩:=ob h;obtain⟨x8,h8,h⟩:=ob h;obtain⟨x9,h9,h⟩:=ob h;obtain⟨x10,h10,h⟩:=ob h;obtain⟨x11,h11,h⟩:=ob h;have hl:=ih _ _ _ _ h;try simp only[X] at hl
   omega
  .cases h;all_goals (try dsimp only); first | done | omega | (simp only[X] at *; omega) | simp_all
def V9{a0}{a1}{r}(h:LD a0 a1=T r):r.2.length=a0.length:=by
 unfold LD at h;have hl:=zg _ _ _ _ _ h;try simp only[X] at hl
 omega
def A8k{a0}{a1}{r}(h:LD a0 a1=T r):FCx W 52 [.sc (.r 0),.sc (.d (.int .i64 a1))] [(6,V X5.row a0)] [(6,V X5.row r.2)] (.int .i64 r.1):=by
 unfold LD at h;refine Dj (ps:= [(0,0)]) (M:=⟨[(0,vc (.own 99999999999)),(1,vc (aI a1))],[],[(99999999999,6,V X5.row a0)]⟩) A2 sA Q Q Q (AW BF) Q ?_;refine BC UL ?_;have k0:= @B48;exact gc
def UM:Hw:=([(6,[0,1,5],[],[99999999999])],[])
def jx:=fun(k_:N->N->(H N)->L (N × H N))=>∀{v1 v2 v3} {zr},k_ v1 v2 v3=T zr->Kh W 102 UM 6 [0,1,5] [] [99999999999] ⟨[pW 0 99999999999,pI 1 v1,pI 5 v2],[],[(99999999999,1,V rI v3)]⟩ (CZ [4] (.int .i64 zr.1) [(1,V rI zr.2)] [(0,0)])
def B49{n:P}:jx (FZ n):=by
 induction n with
 | zero=>intro _ _ _ r h; cases h
 | succ n ih=>
  intro v1 v2 v3 r h M hσ S hS;refine ev hS ?_;rw[FZ] at h;refine AA (Av ?_);obtain⟨h4,h⟩|⟨h4,h⟩:=ic h
  .obtain⟨x5,h5,h⟩:=ob h;have h5n:=Ah h5;refine sg ?_;refine AM (row:=rI) (y:=v1) Q Q h5n Q Q (by rfl) ?_;refine sg ?_;exact ih h sq kr
  .refine sg ?_;cases h;exact⟨⟨Q,⟨⟩⟩,⟨⟨⟨_,Q,Q⟩,Q⟩,⟨⟩⟩⟩
def sB:AF W 102=T ((By W 102 UM).strip,[4],19):=by kernel_rfl
def za:∀(n:P) (v1 v2:N) (v3:H N) (r:N × H N),FZ n v1 v2 v3=T r->r.2.length=v3.length:=by
 intro n
 induction n with
 | zero=>intro _ _ _ r h; cases h
 | succ n ih=>
  intro v1 v2 v3 r h;rw[FZ] at h;obtain⟨h4,h⟩|⟨h4,h⟩:=ic h
  .obtain⟨x5,h5,h⟩:=ob h;have hl:=ih _ _ _ _ h;try simp only[X] at hl
   omega
  .cases h;all_goals (try dsimp only); first | done | omega | (simp only[X] at *; omega) | simp_all
def V4{a0}{a1}{r}(h:Ly a0 a1=T r):r.2.length=a0.length:=by
 unfold Ly at h;have hl:=za _ _ _ _ _ h;try simp only[X] at hl
 omega
def A8f{a0}{a1}{r}(h:Ly a0 a1=T r):FCx W 102 [.sc (.r 0),.sc (.d (.int .i64 a1))] [(1,V rI a0)] [(1,V rI r.2)] (.int .i64 r.1):=by
 unfold Ly at h;refine Dj (ps:= [(0,0)]) (M:=⟨[(0,vc (.own 99999999999)),(1,vc (aI a1))],[],[(99999999999,1,V rI a0)]⟩) A2 sB Q Q Q (AW BF) Q ?_;refine BC UM ?_;have k0:= @B49;exact gc
def sC:AF W 53=T ((By W 53 h0).strip,[4],10):=by kernel_rfl
def V3{a0}{a1}{r}(h:Lw a0 a1=T r):r.2.length=a0.Moves.length:=by
 unfold Lw at h;obtain⟨r1,h1,h⟩:=ob h;have lrr1:=(V4 h1);cases h;all_goals (try dsimp only); first | done | omega | (simp only[X] at *; omega) | simp_all
def A8c{a0}{a1}{r}(h:Lw a0 a1=T r):FCx W 53 [.ag [.d (.int .i64 a0.Tugs),.d (.int .i64 a0.Pilots),.d (.int .i64 a0.Rest),.r 0],.sc (.d (.int .i64 a1))] [(1,V rI a0.Moves)] [(1,V rI r.2)] (.int .i64 r.1):=by
 unfold Lw at h;refine Dj (ps:= [(0,3)]) (M:=⟨[(0,va [aI a0.Tugs,aI a0.Pilots,aI a0.Rest,.own 99999999999]),(1,vc (aI a1))],[],[(99999999999,1,V rI a0.Moves)]⟩) A2 sC Q Q Q (AW BF) Q ?_;refine BC h0 ?_;intro S hS;refine ev hS ?_;obtain⟨r1,hr1,h⟩:=ob h;refine sg ?_;have lrr1:=(V4 hr1);refine DM (ids:= [99999999999]) (A8f hr1) Q Q Q (AW BF) (Cl (V4 hr1) E0) ?_;refine sg ?_;cases h;exact⟨⟨Q,⟨⟩⟩,⟨⟨⟨_,Q,Q⟩,Q⟩,⟨⟩⟩⟩
def sD:AF W 15=T ((By W 15 h0).strip,[4],22):=by kernel_rfl
def Mr{a0}{a1}{r}(h:Jg a0 a1=T r):r.2.1.length=a0.Forecast.Tide.Parts.length/\r.2.2.1.length=a0.Forecast.Surges.length/\r.2.2.2.1.length=a0.Chart.Points.length/\r.2.2.2.2.1.length=a0.Chart.Segments.length/\r.2.2.2.2.2.1.length=a0.Fleet.length/\r.2.2.2.2.2.2.length=a0.Crew.Moves.length:=by
 unfold Jg at h;obtain⟨r1,h1,h⟩:=ob h;have lrr1:=(SL h1);obtain⟨r2,h2,h⟩:=ob h;have lrr2:=(SK h2);obtain⟨r3,h3,h⟩:=ob h;have lrr3:=(V9 h3);obtain⟨r4,h4,h⟩:=ob h;have lrr4:=(V3 h4);cases h;all_goals (try dsimp only); first | done | omega | (simp only[X] at *; omega) | simp_all
def A8e{a0}{a1}{r}(h:Jg a0 a1=T r):FCx W 15 [.ag [.d (.int .i64 a0.Forecast.Tide.Mean),.r 0,.r 1,.r 2,.r 3,.r 4,.d (.int .i64 a0.Regime.Gap),.d (.bool a0.Regime.NoMeet),.d (.int .i64 a0.Crew.Tugs),.d (.int .i64 a0.Crew.Pilots),.d (.int .i64 a0.Crew.Rest),.r 5],.sc (.d (.int .i64 a1))] [(3,V Y a0.Forecast.Tide.Parts),(3,V X9.row a0.Forecast.Surges),(2,V X7.row a0.Chart.Points),(5,V X2.row a0.Chart.Segments),(6,V X5.row a0.Fleet),(1,V rI a0.Crew.Moves)] [(3,V Y r.2.1),(3,V X9.row r.2.2.1),(2,V X7.row r.2.2.2.1),(5,V X2.row r.2.2.2.2.1),(6,V X5.row r.2.2.2.2.2.1),(1,V rI r.2.2.2.2.2.2)] (.int .i64 r.1):=by
 unfold Jg at h;refine Dj (ps:= [(0,1),(0,2),(0,3),(0,4),(0,5),(0,11)]) (M:=⟨[(0,va [aI a0.Forecast.Tide.Mean,.own 99999999999,.own 100000000000,.own 100000000001,.own 100000000002,.own 100000000003,aI a0.Regime.Gap,aB a0.Regime.NoMeet,aI a0.Crew.Tugs,aI a0.Crew.Pilots,aI a0.Crew.Rest,.own 100000000004]),(1,vc (aI a1))],[],[(99999999999,3,V Y a0.Forecast.Tide.Parts),(100000000000,3,V X9.row a0.Forecast.Surges),(100000000001,2,V X7.row a0.Chart.Points),(100000000002,5,V X2.row a0.Chart.Segments),(100000000003,6,V X5.row a0.Fleet),(100000000004,1,V rI a0.Crew.Moves)]⟩) A2 sD Q Q Q (AW (AW (AW (AW (AW (AW BF)))))) Q ?_;refine BC h0 ?_;intro S hS;refine ev hS ?_;obtain⟨r1,hr1,h⟩:=ob h;refine sg ?_;have lrr1:=(SL hr1);refine DM (ids:= [99999999999,100000000000]) (A8d hr1) Q Q Q (AW (AW BF)) (Cl (SL hr1).1 (Cl (SL hr1).2 E0)) ?_;obtain⟨r2,hr2,h⟩:=ob h;refine sg ?_;have lrr2:=(SK hr2);refine DM (ids:= [100000000001,100000000002]) (A8b hr2) Q Q Q (AW (AW BF)) (Cl (SK hr2).1 (Cl (SK hr2).2 E0)) ?_;obtain⟨r3,hr3,h⟩:=ob h;refine sg ?_;have lrr3:=(V9 hr3);refine DM (ids:= [100000000003]) (A8k hr3) Q Q Q (AW BF) (Cl (V9 hr3) E0) ?_;obtain⟨r4,hr4,h⟩:=ob h;refine sg ?_;have lrr4:=(V3 hr4);refine DM (ids:= [100000000004]) (A8c hr4) Q Q Q (AW BF) (Cl (V3 hr4) E0) ?_;refine sg ?_;cases h;exact⟨⟨Q,⟨⟩⟩,⟨⟨⟨_,Q,Q⟩,Q⟩,⟨⟨⟨_,Q,Q⟩,Q⟩,⟨⟨⟨_,Q,Q⟩,Q⟩,⟨⟨⟨_,Q,Q⟩,Q⟩,⟨⟨⟨_,Q,Q⟩,Q⟩,⟨⟨⟨_,Q,Q⟩,Q⟩,⟨⟩⟩⟩⟩⟩⟩⟩⟩
def UN:Hw:=([(6,[0,1,5],[],[99999999999])],[])
def jw:=fun(k_:N->N->(H X8)->L (N × H X8))=>∀{v1 v2 v3} {zr},k_ v1 v2 v3=T zr->Kh W 16 UN 6 [0,1,5] [] [99999999999] ⟨[pW 0 99999999999,pI 1 v1,pI 5 v2],[],[(99999999999,5,V X8.row v3)]⟩ (CZ [4] (.int .i64 zr.1) [(5,V X8.row zr.2)] [(0,0)])
def B5a{n:P}:jw (FY n):=by
 induction n with
 | zero=>intro _ _ _ r h; cases h
 | succ n ih=>
  intro v1 v2 v3 r h M hσ S hS;refine ev hS ?_;rw[FY] at h;refine AA (Av ?_);obtain⟨h4,h⟩|⟨h4,h⟩:=ic h
  .obtain⟨x5,h5,h⟩:=ob h;have h5n:=Ah h5;refine sg ?_;refine AM (row:=X8.row) (y:=(⟨v1,x5.From,x5.To,x5.Ready,x5.Due⟩:X8)) Q Q h5n Q Q (by rfl) ?_;obtain⟨x6,h6,h⟩:=ob h;have h6n:=Ah h6;refine sg ?_;refine AM (row:=X8.row) (y:=(⟨x6.Ship,(J .i64 (v1+(1:N))),x6.To,x6.Ready,x6.Due⟩:X8)) Q Q h6n Q Q (by rfl) ?_;obtain⟨x7,h7,h⟩:=ob h;have h7n:=Ah h7;refine sg ?_;refine AM (row:=X8.row) (y:=(⟨x7.Ship,x7.From,(J .i64 ((J .i64 (v1+(1:N)))+(1:N))),x7.Ready,x7.Due⟩:X8)) Q Q h7n Q Q (by rfl) ?_;obtain⟨x8,h8,h⟩:=ob h;have h8n:=Ah h8;refine sg ?_;refine AM (row:=X8.row) (y:=(⟨x8.Ship,x8.From,x8.To,(J .i64 ((J .i64 ((J .i64 (v1+(1:N)))+(1:N)))+(1:N))),x8.Due⟩:X8)) Q Q h8n Q Q (by rfl) ?_;obtain⟨x9,h9,h⟩:=ob h;have h9n:=Ah h9;refine sg ?_;refine AM (row:=X8.row) (y:=(⟨x9.Ship,x9.From,x9.To,x9.Ready,(J .i64 ((J .i64 ((J .i64 ((J .i64 (v1+(1:N)))+(1:N)))+(1:N)))+(1:N)))⟩:X8)) Q Q h9n Q Q (by rfl) ?_;refine sg ?_;exact ih h sq kr
  .refine sg ?_;cases h;exact⟨⟨Q,⟨⟩⟩,⟨⟨⟨_,Q,Q⟩,Q⟩,⟨⟩⟩⟩
def sE:AF W 16=T ((By W 16 UN).strip,[4],48):=by kernel_rfl
def yz:∀(n:P) (v1 v2:N) (v3:H X8) (r:N × H X8),FY n v1 v2 v3=T r->r.2.length=v3.length:=by
 intro n
 induction n with
 | zero=>intro _ _ _ r h; cases h
 | succ n ih=>
  intro v1 v2 v3 r h;rw[FY] at h;obtain⟨h4,h⟩|⟨h4,h⟩:=ic h
  .obtain⟨x5,h5,h⟩:=ob h;obtain⟨x6,h6,h⟩:=ob h;obtain⟨x7,h7,h⟩:=ob h;obtain⟨x8,h8,h⟩:=ob h;obtain⟨x9,h9,h⟩:=ob h;have hl:=ih _ _ _ _ h;try simp only[X] at hl
   omega
  .cases h;all_goals (try dsimp only); first | done | omega | (simp only[X] at *; omega) | simp_all
def yy(a0:H X8)(a1:N)(r:N × H X8)(h:Lu a0 a1=T r):r.2.length=a0.length:=by
 unfold Lu at h;have hl:=yz _ _ _ _ _ h;try simp only[X] at hl
 omega
def A8a(a0:H X8)(a1:N)(r:N × H X8)(h:Lu a0 a1=T r):FCx W 16 [.sc (.r 0),.sc (.d (.int .i64 a1))] [(5,V X8.row a0)] [(5,V X8.row r.2)] (.int .i64 r.1):=by
 unfold Lu at h;refine Dj (ps:= [(0,0)]) (M:=⟨[(0,vc (.own 99999999999)),(1,vc (aI a1))],[],[(99999999999,5,V X8.row a0)]⟩) A2 sE Q Q Q (AW BF) Q ?_;refine BC UN ?_;have k0:= @B5a;exact gc
def UO:Hw:=([(6,[0,1,5],[],[99999999999])],[])
def jz:=fun(k_:N->N->(H X1)->L (N × H X1))=>∀{v1 v2 v3} {zr},k_ v1 v2 v3=T zr->Kh W 54 UO 6 [0,1,5] [] [99999999999] ⟨[pW 0 99999999999,pI 1 v1,pI 5 v2],[],[(99999999999,5,V X1.row v3)]⟩ (CZ [4] (.int .i64 zr.1) [(5,V X1.row zr.2)] [(0,0)])
def B5b{n:P}:jz (G1 n):=by
 induction n with
 | zero=>intro _ _ _ r h; cases h
 | succ n ih=>
  intro v1 v2 v3 r h M hσ S hS;refine ev hS ?_;rw[G1] at h;refine AA (Av ?_);obtain⟨h4,h⟩|⟨h4,h⟩:=ic h
  .obtain⟨x5,h5,h⟩:=ob h;have h5n:=Ah h5;refine sg ?_;refine AM (row:=X1.row) (y:=(⟨v1,x5.Segment,x5.Toward,x5.Start,x5.End⟩:X1)) Q Q h5n Q Q (by rfl) ?_;obtain⟨x6,h6,h⟩:=ob h;have h6n:=Ah h6;refine sg ?_;refine AM (row:=X1.row) (y:=(⟨x6.Ship,(J .i64 (v1+(1:N))),x6.Toward,x6.Start,x6.End⟩:X1)) Q Q h6n Q Q (by rfl) ?_;obtain⟨x7,h7,h⟩:=ob h;have h7n:=Ah h7;refine sg ?_;refine AM (row:=X1.row) (y:=(⟨x7.Ship,x7.Segment,((J .i64 (Z (J .i64 ((J .i64 (v1+(1:N)))+(1:N))) (3:N)))==(0:N)),x7.Start,x7.End⟩:X1)) Q Q h7n Q Q (by rfl) ?_;obtain⟨x8,h8,h⟩:=ob h;have h8n:=Ah h8;refine sg ?_;refine AM (row:=X1.row) (y:=(⟨x8.Ship,x8.Segment,x8.Toward,(J .i64 ((J .i64 ((J .i64 (v1+(1:N)))+(1:N)))+(1:N))),x8.End⟩:X1)) Q Q h8n Q Q (by rfl) ?_;obtain⟨x9,h9,h⟩:=ob h;have h9n:=Ah h9;refine sg ?_;refine AM (row:=X1.row) (y:=(⟨x9.Ship,x9.Segment,x9.Toward,x9.Start,(J .i64 ((J .i64 ((J .i64 ((J .i64 (v1+(1:N)))+(1:N)))+(1:N)))+(1:N)))⟩:X1)) Q Q h9n Q Q (by rfl) ?_;refine sg ?_;exact ih h sq kr
  .refine sg ?_;cases h;exact⟨⟨Q,⟨⟩⟩,⟨⟨⟨_,Q,Q⟩,Q⟩,⟨⟩⟩⟩
def sF:AF W 54=T ((By W 54 UO).strip,[4],50):=by kernel_rfl
def zd:∀(n:P) (v1 v2:N) (v3:H X1) (r:N × H X1),G1 n v1 v2 v3=T r->r.2.length=v3.length:=by
 intro n
 induction n with
 | zero=>intro _ _ _ r h; cases h
 | succ n ih=>
  intro v1 v2 v3 r h;rw[G1] at h;obtain⟨h4,h⟩|⟨h4,h⟩:=ic h
  .obtain⟨x5,h5,h⟩:=ob h;obtain⟨x6,h6,h⟩:=ob h;obtain⟨x7,h7,h⟩:=ob h;obtain⟨x8,h8,h⟩:=ob h;obtain⟨x9,h9,h⟩:=ob h;have hl:=ih _ _ _ _ h;try simp only[X] at hl
   omega
  .cases h;all_goals (try dsimp only); first | done | omega | (simp only[X] at *; omega) | simp_all
def V6(a0:H X1)(a1:N)(r:N × H X1)(h:He a0 a1=T r):r.2.length=a0.length:=by
 unfold He at h;have hl:=zd _ _ _ _ _ h;try simp only[X] at hl
 omega
def A8h(a0:H X1)(a1:N)(r:N × H X1)(h:He a0 a1=T r):FCx W 54 [.sc (.r 0),.sc (.d (.int .i64 a1))] [(5,V X1.row a0)] [(5,V X1.row r.2)] (.int .i64 r.1):=by
 unfold He at h;refine Dj (ps:= [(0,0)]) (M:=⟨[(0,vc (.own 99999999999)),(1,vc (aI a1))],[],[(99999999999,5,V X1.row a0)]⟩) A2 sF Q Q Q (AW BF) Q ?_;refine BC UO ?_;have k0:= @B5b;exact gc
def aW:Hw:=([(6,[0,1,5],[],[])],[])
def jv:=fun a0 (k_:N->N->L N)=>∀{v1 v2} {zr},k_ v1 v2=T zr->Kh W 55 aW 6 [0,1,5] [] [] ⟨[pL 0 X1.row a0,pI 1 v1,pI 5 v2],[],[]⟩ (A5 [4] [.sc (.v (.int .i64 zr))])
def B5d{a0}{n:P}:jv a0 (Jf a0 n):=by
 induction n with
 | zero=>intro _ _ r h; cases h
 | succ n ih=>
  intro v1 v2 r h M hσ;rw[Jf] at h;exact gc
instance B9t:Ct 55 (∀{a0} {a1} {r},Oc a0 a1=T r->FC W 55 [.sc (.sl (V X1.row a0)),.sc (.int .i64 a1)] [.sc (.v (.int .i64 r))]):=by
 refine⟨fun h=> ?_⟩;unfold Oc at h;refine A3 A2 aW [4] 60 ?_;have k0:= @B5d;exact gc
def aX:Hw:=([(6,[0,1,5],[],[])],[])
def ju:=fun a0 (k_:N->N->L N)=>∀{v1 v2} {zr},k_ v1 v2=T zr->Kh W 18 aX 6 [0,1,5] [] [] ⟨[pL 0 X0.row a0,pI 1 v1,pI 5 v2],[],[]⟩ (A5 [4] [.sc (.v (.int .i64 zr))])
def B5e{a0}{n:P}:ju a0 (Je a0 n):=by
 induction n with
 | zero=>intro _ _ r h; cases h
 | succ n ih=>
  intro v1 v2 r h M hσ;rw[Je] at h;exact gc
def fp(a0:H X0)(a1 r:N)(h:Lt a0 a1=T r):FC W 18 [.sc (.sl (V X0.row a0)),.sc (.int .i64 a1)] [.sc (.v (.int .i64 r))]:=by
 unfold Lt at h;refine A3 A2 aX [4] 49 ?_;have k0:= @B5e;exact gc
end Go.Vi
