/-
Walks. No condition.
-/
import Derived.Test.YtfoohbeloilepaaGreatRNf
import Derived.Test.YtfoohbeloilepaaGreatChecked
import Derived.Test.YtfoohbeloilepaaGreatRSh
import Derived.Test.YtfoohbeloilepaaGreatRVi41
import Derived.KernelRfl
import Derived.Test.YtfoohbeloilepaaGreatRWRefusalLinea
namespace Go.Vi
open Go.Proofs
set_option linter.all false
set_option maxRecDepth 4000
set_option maxHeartbeats 2000000
open Nat renaming reduceBEq → C, reduceMul → E, reduceAdd → F, reduceDiv → G, le_of_ble_eq_true → uf
open Int renaming reduceBEq → H
attribute [local irreducible] go Bd IR
open List renaming map → Y, map_nil → I, all_eq_true → zE, all_cons → zF, all_nil → zG
open Tryz renaming prog → Z
open Int renaming reduceNegSucc → zA, reduceOfNat → zB
open Xc renaming row → zC
open Xa renaming row → zD
open Xb renaming row → zH
open IntKind renaming wrap → zI
open Bool renaming true → T, false → L
open Option renaming some → N, none → O
open _root_ renaming List → P, Option → Q, Int → U, Bool → V, Nat → W, rfl → X
/- 242:spec_MinutesOn -/
instance B0n:Ct 242 (∀{a0} {a1} {a2} {r},K7 a0 a1 a2=N r→FC Z 242 [.ag (X1.row a0),.sc (.int .i64 a1),.ag (X6.row a2)] [.sc (.v (.int .i64 r))]):=by
 refine⟨fun h=> ?_⟩;unfold K7 at h;refine A4 mixed h0 [6] 31 ?_;exact gc
/- 220:spec_WindowsOk -/
def WA:Hw:=([(6,[0,5,6,7],[],[])],[])
def dl:=fun a0 (k_:U→Q V)=>∀{v1} {zr},k_ v1=N zr→Kh Z 220 WA 6 [0,5,6,7] [] [] ⟨[pL 0 X5.row a0,pL 5 X5.row a0,pI 6 (a0.length:U),pI 7 v1],[],[]⟩ (A7 [2] [.sc (.v (.bool zr))])
theorem A5r{a0}{n:W}:dl a0 (F7 a0 n):=by
 induction n with
 | zero=>intro _ r h; cases h
 | succ n ih=>
  intro v1 r h σ hσ;rw[F7] at h;exact gc
instance B1b:Ct 220 (∀{a0} {r},Kd a0=N r→FC Z 220 [.sc (.sl (Y X5.row a0))] [.sc (.v (.bool r))]):=by
 refine⟨fun h=> ?_⟩;unfold Kd at h;refine A4 mixed WA [2] 41 ?_;have k0:= @A5r;exact gc
/- 239:spec_ShrinkWindows -/
def Vs:Hw:=([(16,[1,5,17,18,19],[],[1024])],[])
def di:=fun a1 a0 (k_:U→(P X5)→Q (P X5))=>∀{v5 v6} {zr},k_ v5 v6=N zr→Kh Z 239 Vs 16 [1,5,17,18,19] [] [1024] ⟨[pI 1 a1,pW 5 1024,pL 17 X5.row a0,pI 18 (a0.length:U),pI 19 v5],[],[(1024,2,Y X5.row v6)]⟩ (A7 [4] [.sc (.o 2 (Y X5.row zr))])
theorem zn{a1 a0}{n:W}:di a1 a0 (F6 a1 a0 n):=by
 induction n with
 | zero=>intro _ _ r h; cases h
 | succ n ih=>
  intro v5 v6 r h σ hσ;rw[F6] at h;have s0:=fun(x8:X5)=> @Ai (Y X5.row ([(⟨x8.From,(zI .i64 (x8.To - a1))⟩:X5)]:P X5))
  exact gc
instance B04:Ct 239 (∀{a0} {a1} {r},PG a0 a1=N r→FC Z 239 [.sc (.sl (Y X5.row a0)),.sc (.int .i64 a1)] [.sc (.o 2 (Y X5.row r))]):=by
 refine⟨fun h=> ?_⟩;unfold PG at h;refine A4 mixed Vs [4] 42 ?_;have s0:= @Ai (Y X5.row ([]:P X5));have k0:= @zn;exact gc
/- 218:spec_l07Starts -/
instance B1j:Ct 218 (∀{a0} {a1} {a2} {a3} {a4} {r},PJ a0 a1 a2 a3 a4=N r→FC Z 218 [.ag (Xd.row a0),.ag (X1.row a1),.sc (.int .i64 a2),.ag (X6.row a3),.sc (.bool a4)] [.sc (.o 2 (Y X5.row r))]):=by
 refine⟨fun h=> ?_⟩;unfold PJ at h;refine A4 mixed h0 [10] 33 ?_;exact gc
/- 192:spec_SureStarts -/
instance B06:Ct 192 (∀{a0} {a1} {a2} {a3} {r},N2 a0 a1 a2 a3=N r→FC Z 192 [.ag (Xd.row a0),.ag (X1.row a1),.sc (.int .i64 a2),.ag (X6.row a3)] [.sc (.o 2 (Y X5.row r))]):=by
 refine⟨fun h=> ?_⟩;unfold N2 at h;refine A4 mixed h0 [8] 14 ?_;exact gc
/- 167:spec_l08Starts -/
def Vt:Hw:=([(8,[4,5,6,9,13,14,15],[4,5,6],[768])],[(19,6,(O,.frz 1536))])
def dx:=fun a3 (a0:Xd) (a1:X1) (a2:X6) (k_:U→(P (P X5))→Q (P (P X5)))=>∀{v1 v2} {zr},k_ v1 v2=N zr→Kh Z 167 Vt 8 [4,5,6,9,13,14,15] [4,5,6] [768] ⟨[pB 4,pB 5,pB 6,pW 9 768,pL 13 rI a3,pI 14 (a3.length:U),pI 15 v1],[(4,[aI a0.Tide.Mean,aM zC a0.Tide.Parts,aM zD a0.Surges]),(5,[aM X7.row a1.Points,aM X2.row a1.Segments]),(6,(dm a2.row))],[(768,1,Y (rL X5.row) v2)]⟩ (A7 [8] [.sc (.o 1 (Y (rL X5.row) zr))])
theorem zo{a3 a0 a1 a2}{n:W}:dx a3 a0 a1 a2 (Gm a3 a0 a1 a2 n):=by
 induction n with
 | zero=>intro _ _ r h; cases h
 | succ n ih=>
  intro v1 v2 r h σ hσ;rw[Gm] at h;have s0:=fun(r5:(P X5))=> @Ai (Y (rL X5.row) ([r5]:P (P X5)))
  exact gc
instance B1l:Ct 167 (∀{a0} {a1} {a2} {a3} {r},PK a0 a1 a2 a3=N r→FC Z 167 [.ag (Xd.row a0),.ag (X1.row a1),.ag (X6.row a2),.sc (.sl (Y rI a3))] [.sc (.o 1 (Y (rL X5.row) r))]):=by
 refine⟨fun h=> ?_⟩;unfold PK at h;refine A4 mixed Vt [8] 29 ?_;have s0:= @Ai (Y (rL X5.row) ([]:P (P X5)));have k0:= @zo;exact gc
/- 194:spec_l05Points -/
def S3:Hw:=([(8,[3,8,14,15,16],[3],[832]),(32,[3,8,11,14,15,16,45],[3],[832])],[])
def du:=fun r9 a2 v1 (a0:X1) v2 (k_:V→Q ((P U) × V))=>∀{v12} {zr},k_ v12=N zr→Kh Z 194 S3 32 [3,8,11,14,15,16,45] [3] [832] ⟨[pB 3,pW 8 832,pI 11 r9,pL 14 rI a2,pI 15 (a2.length:U),pI 16 v1,(45,vc (aB v12))],[(3,[aM X7.row a0.Points,aM X2.row a0.Segments])],[(832,1,Y rI v2)]⟩ (A7 [6,7] [.sc (.o 1 (Y rI zr.1)),.sc (.v (.bool zr.2))])
def TW:=fun a2 (a0:X1) (k_:U→(P U)→Q ((P U) × V))=>∀{v1 v2} {zr},k_ v1 v2=N zr→Kh Z 194 S3 8 [3,8,14,15,16] [3] [832] ⟨[pB 3,pW 8 832,pL 14 rI a2,pI 15 (a2.length:U),pI 16 v1],[(3,[aM X7.row a0.Points,aM X2.row a0.Segments])],[(832,1,Y rI v2)]⟩ (A7 [6,7] [.sc (.o 1 (Y rI zr.1)),.sc (.v (.bool zr.2))])
theorem aC{r9 a2 v1 a0 v2}{Qt}(pF:TW a2 a0 Qt):du r9 a2 v1 a0 v2 (Gj r9 a2 v1 a0 v2 Qt):=by
 intro v12 r h σ hσ;unfold Gj at h;have s0:= @Ai (Y rI ([r9]:P U));have k0:= @pF;exact gc
theorem zp{a2 a0}{n:W}:TW a2 a0 (DP a2 a0 n):=by
 induction n with
 | zero=>intro _ _ r h; cases h
 | succ n ih=>
  intro v1 v2 r h σ hσ S hS
  conv at hS=>rhs; reduce
  try simp only[zB,zA,Au,UInt8.reduceOfNat] at hS
  subst hS;rw[DP] at h;refine AZ (AF ?_);obtain⟨h3,h⟩|⟨h3,h⟩:=ic h
  ·obtain⟨x4,h4,h⟩:=ob h;obtain⟨r5,h5,h⟩:=ob h;try simp only[hσ,h3,h4,C,E,F,G,H,J]
   refine AY (Aq QV h5) ?_;obtain⟨h6,h⟩|⟨h6,h⟩:=ic h
   ·try simp only[h3,h4,h6,C,E,F,G,H,J]
    refine At ?_;obtain⟨x7,h7,h⟩:=ob h;obtain⟨x8,h8,h⟩:=ob h;have h8n:=B7 h8;obtain⟨r9,h9,h⟩:=ob h;try simp only[h3,h4,h6,h7,h8,h8n,C,E,F,G,H,J]
    refine Cg (Aq ZW h9) ?_;obtain⟨h10,h⟩|⟨h10,h⟩:=ic h
    ·try simp only[h3,h4,h6,h7,h8,h8n,h10,C,E,F,G,H,J]
     refine aC ih h ?_ (by kernel_rfl);try simp only[h3,h4,h6,h7,h8,h8n,h10,C,E,F,G,H,J,pL,aM,I]
    ·obtain⟨r11,h11,h⟩:=ob h;try simp only[h3,h4,h6,h7,h8,h8n,h10,C,E,F,G,H,J]
     refine Fh (Aq ZV h11) X (Fg X) X (uf X) ?_;try simp only[h3,h4,h6,h7,h8,h8n,h10,C,E,F,G,H,J]
     refine aC ih h ?_ (by kernel_rfl);try simp only[h3,h4,h6,h7,h8,h8n,h10,C,E,F,G,H,J,pL,aM,I]
   ·try simp only[h3,h4,h6,C,E,F,G,H,J]
    cases h;trivial
  ·try simp only[hσ,h3,C,E,F,G,H,J]
   cases h;trivial
instance B1h:Ct 194 (∀{a0} {a1} {a2} {r},Gi a0 a1 a2=N r→FC Z 194 [.ag (X1.row a0),.sc (.int .i64 a1),.sc (.sl (Y rI a2))] [.sc (.o 1 (Y rI r.1)),.sc (.v (.bool r.2))]):=by
 refine⟨fun{a0} {a1} {a2} {r} h=> ?_⟩;unfold Gi at h;refine A4 mixed S3 [6,7] 52 ?_;have s0:= @Ai (Y rI ([a1]:P U));have k0:= @zp;exact gc
/- 193:spec_RouteOk -/
instance B0z:Ct 193 (∀{a0} {a1} {a2} {r},Ei a0 a1 a2=N r→FC Z 193 [.ag (X1.row a0),.sc (.int .i64 a1),.sc (.sl (Y rI a2))] [.sc (.v (.bool r))]):=by
 refine⟨fun h=> ?_⟩;unfold Ei at h;refine A4 mixed h0 [6] 29 ?_;exact gc
/- 168:spec_RoutePoints -/
instance B00:Ct 168 (∀{a0} {a1} {a2} {r},F5 a0 a1 a2=N r→FC Z 168 [.ag (X1.row a0),.sc (.int .i64 a1),.sc (.sl (Y rI a2))] [.sc (.o 1 (Y rI r))]):=by
 refine⟨fun h=> ?_⟩;unfold F5 at h;refine A4 mixed h0 [6] 22 ?_;exact gc
/- 195:spec_HasMinute -/
def Vu:Hw:=([(6,[1,7,8,9],[],[])],[])
def dP:=fun a1 a0 (k_:U→Q V)=>∀{v1} {zr},k_ v1=N zr→Kh Z 195 Vu 6 [1,7,8,9] [] [] ⟨[pI 1 a1,pL 7 X5.row a0,pI 8 (a0.length:U),pI 9 v1],[],[]⟩ (A7 [4] [.sc (.v (.bool zr))])
theorem zq{a1 a0}{n:W}:dP a1 a0 (Ih a1 a0 n):=by
 induction n with
 | zero=>intro _ r h; cases h
 | succ n ih=>
  intro v1 r h σ hσ;rw[Ih] at h;exact gc
instance B0h:Ct 195 (∀{a0} {a1} {r},MK a0 a1=N r→FC Z 195 [.sc (.sl (Y X5.row a0)),.sc (.int .i64 a1)] [.sc (.v (.bool r))]):=by
 refine⟨fun h=> ?_⟩;unfold MK at h;refine A4 mixed Vu [4] 20 ?_;have k0:= @zq;exact gc
/- 197:spec_NextMinute -/
def Vv:Hw:=([(14,[1,10,11,12],[],[])],[])
def dW:=fun a1 a0 (k_:U→Q U)=>∀{v3} {zr},k_ v3=N zr→Kh Z 197 Vv 14 [1,10,11,12] [] [] ⟨[pI 1 a1,pL 10 X5.row a0,pI 11 (a0.length:U),pI 12 v3],[],[]⟩ (A7 [4] [.sc (.v (.int .i64 zr))])
theorem zu{a1 a0}{n:W}:dW a1 a0 (Ik a1 a0 n):=by
 induction n with
 | zero=>intro _ r h; cases h
 | succ n ih=>
  intro v3 r h σ hσ;rw[Ik] at h;exact gc
instance yd:Ct 197 (∀{a0} {a1} {r},MR a0 a1=N r→FC Z 197 [.sc (.sl (Y X5.row a0)),.sc (.int .i64 a1)] [.sc (.v (.int .i64 r))]):=by
 refine⟨fun h=> ?_⟩;unfold MR at h;refine A4 mixed Vv [4] 25 ?_;have k0:= @zu;exact gc
/- 169:spec_l08Sail -/
def S4:Hw:=([(16,[2,3,4,6,7,14,15],[6,7],[1600]),(32,[2,3,4,6,7,14,15,17,73],[6,7],[1600])],[])
def dw:=fun a2 a3 a4 v4 r12 (a0:X1) (a1:X6) v5 (k_:V→Q ((P U) × V))=>∀{v17} {zr},k_ v17=N zr→Kh Z 169 S4 32 [2,3,4,6,7,14,15,17,73] [6,7] [1600] ⟨[pL 2 rI a2,pL 3 rI a3,pL 4 (rL X5.row) a4,pB 6,pB 7,pW 14 1600,pI 15 v4,pI 17 r12,(73,vc (aB v17))],[(6,[aM X7.row a0.Points,aM X2.row a0.Segments]),(7,(dm a1.row))],[(1600,1,Y rI v5)]⟩ (A7 [12,13] [.sc (.o 1 (Y rI zr.1)),.sc (.v (.bool zr.2))])
def TY:=fun a2 a3 a4 (a0:X1) (a1:X6) (k_:U→(P U)→Q ((P U) × V))=>∀{v4 v5} {zr},k_ v4 v5=N zr→Kh Z 169 S4 16 [2,3,4,6,7,14,15] [6,7] [1600] ⟨[pL 2 rI a2,pL 3 rI a3,pL 4 (rL X5.row) a4,pB 6,pB 7,pW 14 1600,pI 15 v4],[(6,[aM X7.row a0.Points,aM X2.row a0.Segments]),(7,(dm a1.row))],[(1600,1,Y rI v5)]⟩ (A7 [12,13] [.sc (.o 1 (Y rI zr.1)),.sc (.v (.bool zr.2))])
theorem Th{a2 a3 a4 v4 r12 a0 a1 v5}{Qu}(pG:TY a2 a3 a4 a0 a1 Qu):dw a2 a3 a4 v4 r12 a0 a1 v5 (IA a2 a3 a4 v4 r12 a0 a1 v5 Qu):=by
 intro v17 r h σ hσ;unfold IA at h;have s0:= @Ai (Y rI ([r12]:P U));have k0:= @pG;exact gc
theorem zv{a2 a3 a4 a0 a1}{n:W}:TY a2 a3 a4 a0 a1 (Ek a2 a3 a4 a0 a1 n):=by
 induction n with
 | zero=>intro _ _ r h; cases h
 | succ n ih=>
  intro v4 v5 r h σ hσ S hS
  conv at hS=>rhs; reduce
  try simp only[zB,zA,Au,UInt8.reduceOfNat] at hS
  subst hS;rw[Ek] at h;refine AZ (AF ?_);obtain⟨h6,h⟩|⟨h6,h⟩:=ic h
  ·try simp only[hσ,h6,C,E,F,G,H,J]
   refine At ?_;obtain⟨x7,h7,h⟩:=ob h;have h7n:=B7 h7;obtain⟨x8,h8,h⟩:=ob h;obtain⟨x9,h9,h⟩:=ob h;obtain⟨r10,h10,h⟩:=ob h;try simp only[h6,h7,h7n,h8,h9,C,E,F,G,H,J]
   refine Cg (Aq Td h10) ?_;obtain⟨x11,h11,h⟩:=ob h;obtain⟨r12,h12,h⟩:=ob h;try simp only[h6,h7,h7n,h8,h9,h11,C,E,F,G,H,J]
   refine AY (Aq yd h12) ?_;try simp only[h6,h7,h7n,h8,h9,h11,C,E,F,G,H,J]
   refine At ?_;obtain⟨h13,h⟩|⟨h13,h⟩:=ic h
   ·try simp only[h6,h7,h7n,h8,h9,h11,h13,C,E,F,G,H,J]
    refine Th ih h ?_ (by kernel_rfl);try simp only[h6,h7,h7n,h8,h9,h11,h13,C,E,F,G,H,J,pL,aM,I]
   ·obtain⟨h14,h⟩|⟨h14,h⟩:=ic h
    ·obtain⟨x15,h15,h⟩:=ob h;obtain⟨x16,h16,h⟩:=ob h;try simp only[h6,h7,h7n,h8,h9,h11,h13,h14,h15,h16,C,E,F,G,H,J]
     refine Th ih h ?_ (by kernel_rfl);try simp only[h6,h7,h7n,h8,h9,h11,h13,h14,h15,h16,C,E,F,G,H,J,pL,aM,I]
    ·try simp only[h6,h7,h7n,h8,h9,h11,h13,h14,C,E,F,G,H,J]
     refine Th ih h ?_ (by kernel_rfl);try simp only[h6,h7,h7n,h8,h9,h11,h13,h14,C,E,F,G,H,J,pL,aM,I]
  ·try simp only[hσ,h6,C,E,F,G,H,J]
   cases h;trivial
instance yi:Ct 169 (∀{a0} {a1} {a2} {a3} {a4} {a5} {r},Kg a0 a1 a2 a3 a4 a5=N r→FC Z 169 [.ag (X1.row a0),.ag (X6.row a1),.sc (.sl (Y rI a2)),.sc (.sl (Y rI a3)),.sc (.sl (Y (rL X5.row) a4)),.sc (.int .i64 a5)] [.sc (.o 1 (Y rI r.1)),.sc (.v (.bool r.2))]):=by
 refine⟨fun{a0} {a1} {a2} {a3} {a4} {a5} {r} h=> ?_⟩;unfold Kg at h;refine A4 mixed S4 [12,13] 79 ?_;have s0:= @Ai (Y rI ([a5]:P U));have k0:= @zv;exact gc
/- 198:spec_ArrivalOf -/
instance xy:Ct 198 (∀{a0} {a1} {a2} {a3} {r},ME a0 a1 a2 a3=N r→FC Z 198 [.ag (X1.row a0),.ag (X6.row a1),.sc (.sl (Y rI a2)),.sc (.sl (Y rI a3))] [.sc (.v (.int .i64 r))]):=by
 refine⟨fun h=> ?_⟩;unfold ME at h;refine A4 mixed h0 [8] 54 ?_;exact gc
/- 199:spec_PassagesOf -/
def Vw:Hw:=([(18,[1,5,6,8,13,14,39,40,41],[6,8],[2176,2432])],[])
def dY:=fun a1 a5 a4 (a0:X1) (a2:X6) r6 (k_:U→(P X3)→Q (P X3))=>∀{v7 v8} {zr},k_ v7 v8=N zr→Kh Z 199 Vw 18 [1,5,6,8,13,14,39,40,41] [6,8] [2176,2432] ⟨[pI 1 a1,pL 5 rI a5,pB 6,pB 8,pW 13 2176,pW 14 2432,pL 39 rI a4,pI 40 (a4.length:U),pI 41 v7],[(6,[aM X7.row a0.Points,aM X2.row a0.Segments]),(8,(dm a2.row))],[(2176,5,Y X3.row v8),(2432,1,Y rI r6)]⟩ (A7 [12] [.sc (.o 5 (Y X3.row zr))])
theorem zw{a1 a5 a4 a0 a2 r6}{n:W}:dY a1 a5 a4 a0 a2 r6 (Im a1 a5 a4 a0 a2 r6 n):=by
 induction n with
 | zero=>intro _ _ r h; cases h
 | succ n ih=>
  intro v7 v8 r h σ hσ S hS
  conv at hS=>rhs; reduce
  try simp only[zB,zA,Au,UInt8.reduceOfNat] at hS
  subst hS;rw[Im] at h;refine AZ (AF ?_);obtain⟨h9,h⟩|⟨h9,h⟩:=ic h
  ·obtain⟨x10,h10,h⟩:=ob h;obtain⟨x11,h11,h⟩:=ob h;obtain⟨r12,h12,h⟩:=ob h;try simp only[hσ,h9,h10,h11,C,E,F,G,H,J]
   refine AY (Aq QV h12) ?_;obtain⟨h13,h⟩|⟨h13,h⟩:=ic h
   ·try simp only[h9,h10,h11,h13,C,E,F,G,H,J]
    refine At ?_;obtain⟨x14,h14,h⟩:=ob h;obtain⟨x15,h15,h⟩:=ob h;have h15n:=B7 h15;obtain⟨r16,h16,h⟩:=ob h;try simp only[h9,h10,h11,h13,h14,h15,h15n,C,E,F,G,H,J]
    refine Cg (Aq Td h16) ?_;try simp only[h9,h10,h11,h13,h14,h15,h15n,C,E,F,G,H,J]
    refine Bn (es:=Y X3.row ([(⟨a1,x10,(x14.A==x15),x11,(zI .i64 (x11+r16))⟩:X3)]:P X3)) ?_;obtain⟨h17,h⟩:=B5 h;try simp only[h9,h10,h11,h13,h14,h15,h15n,h17,C,E,F,G,H,J]
    refine At ?_;try simp only[h9,h10,h11,h13,h14,h15,h15n,h17,C,E,F,G,H,J]
    refine ih h ?_ (by kernel_rfl);try simp only[h9,h10,h11,h13,h14,h15,h15n,h17,C,E,F,G,H,J,pL,aM,I]
   ·try simp only[h9,h10,h11,h13,C,E,F,G,H,J]
    cases h;exact t0
  ·try simp only[hσ,h9,C,E,F,G,H,J]
   cases h;exact t0
instance ye:Ct 199 (∀{a0} {a1} {a2} {a3} {a4} {a5} {r},MT a0 a1 a2 a3 a4 a5=N r→FC Z 199 [.ag (X1.row a0),.sc (.int .i64 a1),.ag (X6.row a2),.sc (.int .i64 a3),.sc (.sl (Y rI a4)),.sc (.sl (Y rI a5))] [.sc (.o 5 (Y X3.row r))]):=by
 refine⟨fun h=> ?_⟩;unfold MT at h;refine A4 mixed Vw [12] 87 ?_;have s0:= @Ai (Y X3.row ([]:P X3));have k0:= @zw;exact gc
/- 170:spec_l15Make -/
def bF:P (P W × AItem):= [([],(O,.load 65 (S 11) T 4)),([],(O,.faddr 66 (S 11) 1)),([1],(O,.load 67 (S 66) L 1)),([2],(O,.bin 68 .leq (S 67) (K 2880))),([0,0],(O,.store (S 8) (S 65) 4)),([3,4,0,1,2,3,4],(O,.mv 9 (S 68)))]
def Vx:Hw:=([(12,[4,8,10,11,46,47,48],[4,8,10,11],[2432])],[])
abbrev J5(x2 r3 v6:U)(c0_ c1_:V)(c2_ c3_ c5_:V)(bx_:P (W × P AC))(rs_:Rows):St:=⟨[(8,vc (.pb 8 0)),(11,vc (.pb 11 0)),(65,bif c0_ then va [aI x2,aI r3,aI v6,.own 2432] else .undef),(66,bif c1_ then vc (.pb 11 1) else .undef),(67,bif c2_ then vc (aI r3) else .undef),(68,bif c3_ then vc (aB (decide (r3≤(2880:U)))) else .undef),(9,bif c5_ then vc (aB (decide (r3≤(2880:U)))) else .undef)],bx_,rs_⟩
abbrev QS(x2 r3:U)(r4:(P X3))(v6:U):St:=(J5 x2 r3 v6 T T T T T [(8,[aI x2,aI r3,aI v6,.own 2432]),(11,[aI x2,aI r3,aI v6,.own 2432])] [(2432,5,Y X3.row r4)])
theorem zx(x2 r3 r4 v6):∀(f:W) (b1 b2:V) (b3 b5:V),Ab Z bF (QS x2 r3 r4 v6) f [T,b1,b2,b3,T,b5] (J5 x2 r3 v6 T b1 b2 b3 b5 [(8,[aI x2,aI r3,aI v6,.own 2432]),(11,[aI x2,aI r3,aI v6,.own 2432])] [(2432,5,Y X3.row r4)]):=by
 intro f
 induction f with
 | zero=>
  intro b1 b2 b3 b5 h;obtain rfl:b1=T:=zE.1 h b1 (by simp);obtain rfl:b2=T:=zE.1 h b2 (by simp);obtain rfl:b3=T:=zE.1 h b3 (by simp);obtain rfl:b5=T:=zE.1 h b5 (by simp);rfl
 | succ f ih=>
  intro b1 b2 b3 b5;refine Ad ⟨?_,?_,?_,?_,?_,?_,⟨⟩⟩<;>try first | (intro h; cases h; done) | (intro h0 hw; obtain rfl:=hz h0 rfl; (try obtain rfl:=hq hw 1 rfl rfl); (try obtain rfl:=hq hw 2 rfl rfl); (try obtain rfl:=hq hw 3 rfl rfl); refine np ?_; simp only[J5,A5,A6,A1,C,E,F,G,H,J]; exact ih _ _ _ _)
theorem zy(x2 r3 r4 v6):∀(f:W) (b0 b1:V) (b2 b3:V),Ab Z bF (QS x2 r3 r4 v6) f [b0,b1,b2,b3,L,L] (J5 x2 r3 v6 b0 b1 b2 b3 L [(8,[aI (0:U),aI (0:U),aI (0:U),.nil]),(11,[aI x2,aI r3,aI v6,.own 2432])] [(2432,5,Y X3.row r4)]):=by
 intro f
 induction f with
 | zero=>intro b0 b1 b2 b3 h; simp at h
 | succ f ih=>
  intro b0 b1 b2 b3;refine Ad ⟨?_,?_,?_,?_,?_,?_,⟨⟩⟩<;>try first | (intro _ hw; simp at hw; done) | (intro h0 hw; obtain rfl:=hz h0 rfl; (try obtain rfl:=hq hw 1 rfl rfl); (try obtain rfl:=hq hw 2 rfl rfl); refine np ?_; simp only[J5,A5,A6,A1,C,E,F,G,H,J]; exact ih _ _ _ _)
  ·intro h0 hw;obtain rfl:=hq hw 0 rfl rfl;refine np ?_;try simp only[J5,A5,A6,A1,C,E,F,G,H,J]
   exact zx x2 r3 r4 v6 _ b1 b2 b3 L
def eH:=fun a2 (a0:X4) (x1:X6) x2 r3 r4 (k_:U→U→Q (X0 × V))=>∀{v5 v6} {zr},k_ v5 v6=N zr→Kh Z 170 Vx 12 [4,8,10,11,46,47,48] [4,8,10,11] [2432] ⟨[pB 4,pB 8,pB 10,pB 11,pL 46 rI a2,pI 47 (a2.length:U),pI 48 v5],[(4,([aI a0.Forecast.Tide.Mean,aM zC a0.Forecast.Tide.Parts,aM zD a0.Forecast.Surges,aM X7.row a0.Chart.Points,aM X2.row a0.Chart.Segments,aM X6.row a0.Fleet,aI a0.Regime.Gap,aB a0.Regime.NoMeet]++dm a0.Crew.row)),(8,[aI (0:U),aI (0:U),aI (0:U),.nil]),(10,(dm x1.row)),(11,[aI x2,aI r3,aI v6,.own 2432])],[(2432,5,Y X3.row r4)]⟩ (A7 [.c 8 T 4,9] [.ag [.v (.int .i64 zr.1.Start),.v (.int .i64 zr.1.Arrival),.v (.int .i64 zr.1.Cost),.o 5 (Y X3.row zr.1.Passages)],.sc (.v (.bool zr.2))])
theorem zz{a2 a0 x1 x2 r3 r4}{n:W}:eH a2 a0 x1 x2 r3 r4 (Gt a2 a0 x1 x2 r3 r4 n):=by
 induction n with
 | zero=>intro _ _ r h; cases h
 | succ n ih=>
  intro v5 v6 r h σ hσ S hS
  conv at hS=>rhs; reduce
  try simp only[zB,zA,Au,UInt8.reduceOfNat] at hS
  subst hS;rw[Gt] at h;refine AZ (AF ?_);obtain⟨h7,h⟩|⟨h7,h⟩:=ic h
  ·obtain⟨x8,h8,h⟩:=ob h;try simp only[hσ,h7,h8,C,E,F,G,H,J]
   refine At ?_;obtain⟨x9,h9,h⟩:=ob h;obtain⟨r10,h10,h⟩:=ob h;try simp only[h7,h8,h9,C,E,F,G,H,J]
   refine Cg (Aq Td h10) ?_;try simp only[h7,h8,h9,C,E,F,G,H,J]
   refine At ?_;try simp only[h7,h8,h9,C,E,F,G,H,J]
   refine ih h ?_ (by kernel_rfl);try simp only[h7,h8,h9,C,E,F,G,H,J,pL,aM,I]
  ·try simp only[hσ,h7,C,E,F,G,H,J]
   refine DS (ks:= [8,11]) (bs:= [8,11]) (rs:= [2432]) (τ:=(QS x2 r3 r4 v6)) X (zy x2 r3 r4 v6 _ L L L L) ?_;simp only[QS,J5,A5];try simp only[h7,C,E,F,G,H,J]
   cases h;try simp only[Ol,C,E,F,G,H,J]
   trivial
instance ym:Ct 170 (∀{a0} {a1} {a2} {a3} {r},Ng a0 a1 a2 a3=N r→FC Z 170 [.ag (X4.row a0),.ag (zH a1),.sc (.sl (Y rI a2)),.sc (.sl (Y rI a3))] [.ag [.v (.int .i64 r.1.Start),.v (.int .i64 r.1.Arrival),.v (.int .i64 r.1.Cost),.o 5 (Y X3.row r.1.Passages)],.sc (.v (.bool r.2))]):=by
 refine⟨fun{a0} {a1} {a2} {a3} {r} h=> ?_⟩;unfold Ng at h;refine A4 mixed Vx [.c 8 T 4,9] 69 ?_;intro S hS
 conv at hS=>rhs; reduce
 try simp only[zB,zA,Au,UInt8.reduceOfNat] at hS
 subst hS;simp only[C,E,F,G,H,J];try simp only[C,E,F,G,H,J]
 refine C5 ?_;try simp only[C,E,F,G,H,J]
 refine C5 ?_;try simp only[C,E,F,G,H,J]
 refine Cd ?_;obtain⟨x1,h1,h⟩:=ob h;try simp only[h1,C,E,F,G,H,J]
 refine Cd ?_;try simp only[h1,C,E,F,G,H,J]
 refine At ?_;obtain⟨x2,h2,h⟩:=ob h;obtain⟨r3,h3,h⟩:=ob h;try simp only[h1,h2,C,E,F,G,H,J]
 refine Cg (Aq xy h3) ?_;obtain⟨r4,h4,h⟩:=ob h;try simp only[h1,h2,C,E,F,G,H,J]
 refine Cg (Aq ye h4) ?_;try simp only[h1,h2,C,E,F,G,H,J]
 refine Q0 (m:= .box 11 [aI (0:U),aI (0:U),aI (0:U),.nil]) X X (O5 X X) ?_;try simp only[h1,h2,C,E,F,G,H,J]
 refine At ?_;try simp only[h1,h2,C,E,F,G,H,J]
 refine zz h ?_ (by kernel_rfl);try simp only[h1,h2,C,E,F,G,H,J,pL,aM,I]
/- 135:spec_OptionsOf -/
def S5:Hw:=([(32,[2,3,5,7,8,9,10,11],[2,3,7],[2816,3200,3264]),(56,[2,3,5,7,8,9,10,11],[2,3,7],[2816,3200,3264])],[(54,2,(O,.frz 5315))])
def dX:=fun(r3:(P U) × V) v8 (a0:X4) (a1:Xb) (x5:X6) r6 r7 (k_:(P X0)→Q (P X0))=>∀{v17} {zr},k_ v17=N zr→Kh Z 135 S5 56 [2,3,5,7,8,9,10,11] [2,3,7] [2816,3200,3264] ⟨[pB 2,pB 3,pL 5 rI r3.1,pB 7,pW 8 2816,pW 9 3200,pW 10 3264,pI 11 v8],[(2,([aI a0.Forecast.Tide.Mean,aM zC a0.Forecast.Tide.Parts,aM zD a0.Forecast.Surges,aM X7.row a0.Chart.Points,aM X2.row a0.Chart.Segments,aM X6.row a0.Fleet,aI a0.Regime.Gap,aB a0.Regime.NoMeet]++dm a0.Crew.row)),(3,(dm a1.row)),(7,(dm x5.row))],[(2816,1,Y (rL X5.row) r6),(3200,1,Y rI r7),(3264,4,Y X0.row v17)]⟩ (A7 [4] [.sc (.o 4 (Y X0.row zr))])
def TS:=fun(r3:(P U) × V) (a0:X4) (a1:Xb) (x5:X6) r6 r7 (k_:U→(P X0)→Q (P X0))=>∀{v8 v9} {zr},k_ v8 v9=N zr→Kh Z 135 S5 32 [2,3,5,7,8,9,10,11] [2,3,7] [2816,3200,3264] ⟨[pB 2,pB 3,pL 5 rI r3.1,pB 7,pW 8 2816,pW 9 3200,pW 10 3264,pI 11 v8],[(2,([aI a0.Forecast.Tide.Mean,aM zC a0.Forecast.Tide.Parts,aM zD a0.Forecast.Surges,aM X7.row a0.Chart.Points,aM X2.row a0.Chart.Segments,aM X6.row a0.Fleet,aI a0.Regime.Gap,aB a0.Regime.NoMeet]++dm a0.Crew.row)),(3,(dm a1.row)),(7,(dm x5.row))],[(2816,1,Y (rL X5.row) r6),(3200,1,Y rI r7),(3264,4,Y X0.row v9)]⟩ (A7 [4] [.sc (.o 4 (Y X0.row zr))])
theorem Ti{r3 v8 a0 a1 x5 r6 r7}{Qr}(pC:TS r3 a0 a1 x5 r6 r7 Qr):dX r3 v8 a0 a1 x5 r6 r7 (Il r3 v8 a0 a1 x5 r6 r7 Qr):=by
 intro v17 r h σ hσ;unfold Il at h;have k0:= @pC;exact gc
theorem A0a{r3 a0 a1 x5 r6 r7}{n:W}:TS r3 a0 a1 x5 r6 r7 (F4 r3 a0 a1 x5 r6 r7 n):=by
 induction n with
 | zero=>intro _ _ r h; cases h
 | succ n ih=>
  intro v8 v9 r h σ hσ S hS
  conv at hS=>rhs; reduce
  try simp only[zB,zA,Au,UInt8.reduceOfNat] at hS
  subst hS;rw[F4] at h;refine AZ (AF ?_);obtain⟨h10,h⟩|⟨h10,h⟩:=ic h
  ·obtain⟨h11,h⟩|⟨h11,h⟩:=ic h
   ·obtain⟨r12,h12,h⟩:=ob h;try simp only[hσ,h10,h11,C,E,F,G,H,J]
    refine Fh (Aq yi h12) X (Dr X ⟨Ds,X,⟨⟩⟩) X (uf X) ?_;obtain⟨h13,h⟩|⟨h13,h⟩:=ic h
    ·obtain⟨r14,h14,h⟩:=ob h;try simp only[h10,h11,h13,C,E,F,G,H,J]
     refine Fh (Aq ym h14) X (Dr X ⟨X,X,X,Ds,X,⟨⟩⟩) X (uf X) ?_;try simp only[h10,h11,h13,C,E,F,G,H,J]
     refine Cd ?_;obtain⟨h15,h⟩|⟨h15,h⟩:=ic h
     ·try simp only[h10,h11,h13,h15,C,E,F,G,H,J]
      refine CF ?_;try simp only[h10,h11,h13,h15,C,E,F,G,H,J]
      refine Bn (es:=Y X0.row ([r14.1]:P X0)) ?_;obtain⟨h16,h⟩:=B5 h;try simp only[h10,h11,h13,h15,h16,C,E,F,G,H,J]
      refine Ti ih h ?_ (by kernel_rfl);try simp only[h10,h11,h13,h15,h16,C,E,F,G,H,J,pL,aM,I]
     ·try simp only[h10,h11,h13,h15,C,E,F,G,H,J]
      refine Ti ih h ?_ (by kernel_rfl);try simp only[h10,h11,h13,h15,C,E,F,G,H,J,pL,aM,I]
    ·try simp only[h10,h11,h13,C,E,F,G,H,J]
     refine Ti ih h ?_ (by kernel_rfl);try simp only[h10,h11,h13,C,E,F,G,H,J,pL,aM,I]
   ·try simp only[hσ,h10,h11,C,E,F,G,H,J]
    cases h;exact t0
  ·try simp only[hσ,h10,C,E,F,G,H,J]
   cases h;exact t0
instance B0p:Ct 135 (∀{a0} {a1} {r},K9 a0 a1=N r→FC Z 135 [.ag (X4.row a0),.ag (zH a1)] [.sc (.o 4 (Y X0.row r))]):=by
 refine⟨fun h=> ?_⟩;unfold K9 at h;refine A4 mixed S5 [4] 92 ?_;have s0:= @Ai (Y X0.row ([]:P X0));have k0:= @A0a;exact gc
/- 113:spec_l16Options -/
def Vz:Hw:=([(8,[2,5,9,10,11],[2],[512])],[(19,4,(O,.frz 1152))])
def eK:=fun a1 (a0:X4) (k_:U→(P (P X0))→Q (P (P X0)))=>∀{v1 v2} {zr},k_ v1 v2=N zr→Kh Z 113 Vz 8 [2,5,9,10,11] [2] [512] ⟨[pB 2,pW 5 512,pL 9 zH a1,pI 10 (a1.length:U),pI 11 v1],[(2,([aI a0.Forecast.Tide.Mean,aM zC a0.Forecast.Tide.Parts,aM zD a0.Forecast.Surges,aM X7.row a0.Chart.Points,aM X2.row a0.Chart.Segments,aM X6.row a0.Fleet,aI a0.Regime.Gap,aB a0.Regime.NoMeet]++dm a0.Crew.row))],[(512,1,Y (rL X0.row) v2)]⟩ (A7 [4] [.sc (.o 1 (Y (rL X0.row) zr))])
theorem A0b{a1 a0}{n:W}:eK a1 a0 (IE a1 a0 n):=by
 induction n with
 | zero=>intro _ _ r h; cases h
 | succ n ih=>
  intro v1 v2 r h σ hσ;rw[IE] at h;have s0:=fun(r5:(P X0))=> @Ai (Y (rL X0.row) ([r5]:P (P X0)))
  exact gc
instance B1t:Ct 113 (∀{a0} {a1} {r},PP a0 a1=N r→FC Z 113 [.ag (X4.row a0),.sc (.sl (Y zH a1))] [.sc (.o 1 (Y (rL X0.row) r))]):=by
 refine⟨fun h=> ?_⟩;unfold PP at h;refine A4 mixed Vz [4] 23 ?_;have s0:= @Ai (Y (rL X0.row) ([]:P (P X0)));have k0:= @A0b;exact gc
/- 49:spec_l18Bits -/
def S6:Hw:=([(8,[0,1,5,6],[],[448]),(22,[0,1,5,6],[],[448])],[])
def eO:=fun a0 a1 v1 (k_:(P U)→Q (P U))=>∀{v7} {zr},k_ v7=N zr→Kh Z 49 S6 22 [0,1,5,6] [] [448] ⟨[pI 0 a0,pI 1 a1,pW 5 448,pI 6 v1],[],[(448,1,Y rI v7)]⟩ (A7 [4] [.sc (.o 1 (Y rI zr))])
def U5:=fun a0 a1 (k_:U→(P U)→Q (P U))=>∀{v1 v2} {zr},k_ v1 v2=N zr→Kh Z 49 S6 8 [0,1,5,6] [] [448] ⟨[pI 0 a0,pI 1 a1,pW 5 448,pI 6 v1],[],[(448,1,Y rI v2)]⟩ (A7 [4] [.sc (.o 1 (Y rI zr))])
theorem aD{a0 a1 v1}{Qv}(pO:U5 a0 a1 Qv):eO a0 a1 v1 (PR a0 a1 v1 Qv):=by
 intro v7 r h σ hσ;unfold PR at h;have k0:= @pO;exact gc
theorem A0c{a0 a1}{n:W}:U5 a0 a1 (Nk a0 a1 n):=by
 induction n with
 | zero=>intro _ _ r h; cases h
 | succ n ih=>
  intro v1 v2 r h σ hσ S hS
  conv at hS=>rhs; reduce
  try simp only[zB,zA,Au,UInt8.reduceOfNat] at hS
  subst hS;rw[Nk] at h;refine AZ (AF ?_);obtain⟨h3,h⟩|⟨h3,h⟩:=ic h
  ·obtain⟨h4,h⟩:=GL h;obtain⟨h5,h⟩|⟨h5,h⟩:=ic h
   ·try simp only[hσ,h3,h4,h5,C,E,F,G,H,J]
    refine Bn (es:=Y rI ([v1]:P U)) ?_;obtain⟨h6,h⟩:=B5 h;try simp only[h3,h4,h5,h6,C,E,F,G,H,J]
    refine aD ih h ?_ (by kernel_rfl);try simp only[h3,h4,h5,h6,C,E,F,G,H,J,pL,aM,I]
   ·try simp only[hσ,h3,h4,h5,C,E,F,G,H,J]
    refine aD ih h ?_ (by kernel_rfl);try simp only[h3,h4,h5,C,E,F,G,H,J,pL,aM,I]
  ·try simp only[hσ,h3,C,E,F,G,H,J]
   cases h;exact t0
instance B1u:Ct 49 (∀{a0} {a1} {r},Nj a0 a1=N r→FC Z 49 [.sc (.int .i64 a0),.sc (.int .i64 a1)] [.sc (.o 1 (Y rI r))]):=by
 refine⟨fun h=> ?_⟩;unfold Nj at h;refine A4 mixed S6 [4] 23 ?_;have s0:= @Ai (Y rI ([]:P U));have k0:= @A0c;exact gc
/- 221:spec_Overlaps -/
instance B0q:Ct 221 (∀{a0} {a1} {r},Ka a0 a1=N r→FC Z 221 [.ag (X3.row a0),.ag (X3.row a1)] [.sc (.v (.bool r))]):=by
 refine⟨fun h=> ?_⟩;unfold Ka at h;refine A4 mixed h0 [4] 16 ?_;exact gc
/- 222:spec_l09Near -/
def VA:Hw:=([(14,[2,7,8],[],[])],[])
def dy:=fun a2 (k_:U→U→Q V)=>∀{v3 v4} {zr},k_ v3 v4=N zr→Kh Z 222 VA 14 [2,7,8] [] [] ⟨[pI 2 a2,pI 7 v3,pI 8 v4],[],[]⟩ (A7 [6] [.sc (.v (.bool zr))])
theorem A0d{a2}:dy a2 (Nc a2):=by
 intro v3 v4 r h σ hσ;unfold Nc at h;exact gc
instance B1m:Ct 222 (∀{a0} {a1} {a2} {r},Ki a0 a1 a2=N r→FC Z 222 [.sc (.int .i64 a0),.sc (.int .i64 a1),.sc (.int .i64 a2)] [.sc (.v (.bool r))]):=by
 refine⟨fun h=> ?_⟩;unfold Ki at h;refine A4 mixed VA [6] 28 ?_;have k0:= @A0d;exact gc
/- 200:spec_ConflictOf -/
instance B0a:Ct 200 (∀{a0} {a1} {a2} {a3} {r},MH a0 a1 a2 a3=N r→FC Z 200 [.ag (X1.row a0),.ag (Xh.row a1),.ag (X3.row a2),.ag (X3.row a3)] [.sc (.v (.int .i64 r))]):=by
 refine⟨fun h=> ?_⟩;unfold MH at h;refine A4 mixed h0 [8] 108 ?_;exact gc
/- 172:spec_Clashes -/
def S7:Hw:=([(6,[3,4,5,13,14,15],[4,5],[]),(20,[3,4,5,10,13,14,15,19,20,21],[4,5,10],[])],[])
def dJ:=fun a3 a2 v1 (a0:X1) (a1:Xh) (x3:X3) (k_:U→Q V)=>∀{v4} {zr},k_ v4=N zr→Kh Z 172 S7 20 [3,4,5,10,13,14,15,19,20,21] [4,5,10] [] ⟨[pL 3 X3.row a3,pB 4,pB 5,pB 10,pL 13 X3.row a2,pI 14 (a2.length:U),pI 15 v1,pL 19 X3.row a3,pI 20 (a3.length:U),pI 21 v4],[(4,[aM X7.row a0.Points,aM X2.row a0.Segments]),(5,(dm a1.row)),(10,(dm x3.row))],[]⟩ (A7 [8] [.sc (.v (.bool zr))])
def TQ:=fun a3 a2 (a0:X1) (a1:Xh) (k_:U→Q V)=>∀{v1} {zr},k_ v1=N zr→Kh Z 172 S7 6 [3,4,5,13,14,15] [4,5] [] ⟨[pL 3 X3.row a3,pB 4,pB 5,pL 13 X3.row a2,pI 14 (a2.length:U),pI 15 v1],[(4,[aM X7.row a0.Points,aM X2.row a0.Segments]),(5,(dm a1.row))],[]⟩ (A7 [8] [.sc (.v (.bool zr))])
theorem A0f{a3 a2 v1 a0 a1 x3}{NU}(oz:TQ a3 a2 a0 a1 NU){n:W}:dJ a3 a2 v1 a0 a1 x3 (Ib a3 a2 v1 a0 a1 x3 NU n):=by
 induction n with
 | zero=>intro _ r h; cases h
 | succ n ih=>
  intro v4 r h σ hσ;rw[Ib] at h;have k0:= @oz;exact gc
theorem A0g{a3 a2 a0 a1}{n:W}:TQ a3 a2 a0 a1 (F3 a3 a2 a0 a1 n):=by
 induction n with
 | zero=>intro _ r h; cases h
 | succ n ih=>
  intro v1 r h σ hσ;rw[F3] at h;have k0:= @A0f;exact gc
instance A99:Ct 172 (∀{a0} {a1} {a2} {a3} {r},MG a0 a1 a2 a3=N r→FC Z 172 [.ag (X1.row a0),.ag (Xh.row a1),.sc (.sl (Y X3.row a2)),.sc (.sl (Y X3.row a3))] [.sc (.v (.bool r))]):=by
 refine⟨fun h=> ?_⟩;unfold MG at h;refine A4 mixed S7 [8] 33 ?_;have k0:= @A0g;exact gc
/- 137:spec_l16Clash -/
def Nw:Hw:=([(8,[1,2,5,18,19,20],[2],[1088]),(25,[1,2,5,7,8,18,19,20,25,26,27],[2],[1088,1536]),(42,[1,2,5,7,8,10,11,18,19,20,25,26,27,32,33,34],[2],[1088,1536,1984]),(59,[1,2,5,7,8,10,11,13,14,18,19,20,25,26,27,32,33,34,39,40,41],[2,13],[1088,1536,1984,2432])],[(72,2,(O,.frz 2432)),(74,2,(O,.frz 1984)),(76,2,(O,.frz 1536))])
def eJ:=fun a1 x4 x8 v1 v5 v9 (a0:X4) (x12:X0) v2 v6 v10 (k_:U→(P V)→Q (P (P (P (P V)))))=>∀{v13 v14} {zr},k_ v13 v14=N zr→Kh Z 137 Nw 59 [1,2,5,7,8,10,11,13,14,18,19,20,25,26,27,32,33,34,39,40,41] [2,13] [1088,1536,1984,2432] ⟨[pL 1 (rL X0.row) a1,pB 2,pW 5 1088,pL 7 X0.row x4,pW 8 1536,pL 10 X0.row x8,pW 11 1984,pB 13,pW 14 2432,pL 18 (rL X0.row) a1,pI 19 (a1.length:U),pI 20 v1,pL 25 (rL X0.row) a1,pI 26 (a1.length:U),pI 27 v5,pL 32 X0.row x4,pI 33 (x4.length:U),pI 34 v9,pL 39 X0.row x8,pI 40 (x8.length:U),pI 41 v13],[(2,([aI a0.Forecast.Tide.Mean,aM zC a0.Forecast.Tide.Parts,aM zD a0.Forecast.Surges,aM X7.row a0.Chart.Points,aM X2.row a0.Chart.Segments,aM X6.row a0.Fleet,aI a0.Regime.Gap,aB a0.Regime.NoMeet]++dm a0.Crew.row)),(13,(dm x12.row))],[(1088,1,Y (rL (rL (rL rB))) v2),(1536,1,Y (rL (rL rB)) v6),(1984,1,Y (rL rB) v10),(2432,1,Y rB v14)]⟩ (A7 [4] [.sc (.o 1 (Y (rL (rL (rL rB))) zr))])
def U3:=fun a1 x4 x8 v1 v5 (a0:X4) v2 v6 (k_:U→(P (P V))→Q (P (P (P (P V)))))=>∀{v9 v10} {zr},k_ v9 v10=N zr→Kh Z 137 Nw 42 [1,2,5,7,8,10,11,18,19,20,25,26,27,32,33,34] [2] [1088,1536,1984] ⟨[pL 1 (rL X0.row) a1,pB 2,pW 5 1088,pL 7 X0.row x4,pW 8 1536,pL 10 X0.row x8,pW 11 1984,pL 18 (rL X0.row) a1,pI 19 (a1.length:U),pI 20 v1,pL 25 (rL X0.row) a1,pI 26 (a1.length:U),pI 27 v5,pL 32 X0.row x4,pI 33 (x4.length:U),pI 34 v9],[(2,([aI a0.Forecast.Tide.Mean,aM zC a0.Forecast.Tide.Parts,aM zD a0.Forecast.Surges,aM X7.row a0.Chart.Points,aM X2.row a0.Chart.Segments,aM X6.row a0.Fleet,aI a0.Regime.Gap,aB a0.Regime.NoMeet]++dm a0.Crew.row))],[(1088,1,Y (rL (rL (rL rB))) v2),(1536,1,Y (rL (rL rB)) v6),(1984,1,Y (rL rB) v10)]⟩ (A7 [4] [.sc (.o 1 (Y (rL (rL (rL rB))) zr))])
def U2:=fun a1 x4 v1 (a0:X4) v2 (k_:U→(P (P (P V)))→Q (P (P (P (P V)))))=>∀{v5 v6} {zr},k_ v5 v6=N zr→Kh Z 137 Nw 25 [1,2,5,7,8,18,19,20,25,26,27] [2] [1088,1536] ⟨[pL 1 (rL X0.row) a1,pB 2,pW 5 1088,pL 7 X0.row x4,pW 8 1536,pL 18 (rL X0.row) a1,pI 19 (a1.length:U),pI 20 v1,pL 25 (rL X0.row) a1,pI 26 (a1.length:U),pI 27 v5],[(2,([aI a0.Forecast.Tide.Mean,aM zC a0.Forecast.Tide.Parts,aM zD a0.Forecast.Surges,aM X7.row a0.Chart.Points,aM X2.row a0.Chart.Segments,aM X6.row a0.Fleet,aI a0.Regime.Gap,aB a0.Regime.NoMeet]++dm a0.Crew.row))],[(1088,1,Y (rL (rL (rL rB))) v2),(1536,1,Y (rL (rL rB)) v6)]⟩ (A7 [4] [.sc (.o 1 (Y (rL (rL (rL rB))) zr))])
def U1:=fun a1 (a0:X4) (k_:U→(P (P (P (P V))))→Q (P (P (P (P V)))))=>∀{v1 v2} {zr},k_ v1 v2=N zr→Kh Z 137 Nw 8 [1,2,5,18,19,20] [2] [1088] ⟨[pL 1 (rL X0.row) a1,pB 2,pW 5 1088,pL 18 (rL X0.row) a1,pI 19 (a1.length:U),pI 20 v1],[(2,([aI a0.Forecast.Tide.Mean,aM zC a0.Forecast.Tide.Parts,aM zD a0.Forecast.Surges,aM X7.row a0.Chart.Points,aM X2.row a0.Chart.Segments,aM X6.row a0.Fleet,aI a0.Regime.Gap,aB a0.Regime.NoMeet]++dm a0.Crew.row))],[(1088,1,Y (rL (rL (rL rB))) v2)]⟩ (A7 [4] [.sc (.o 1 (Y (rL (rL (rL rB))) zr))])
theorem A0h{a1 x4 x8 v1 v5 v9 a0 x12 v2 v6 v10}{O0}(pN:U3 a1 x4 x8 v1 v5 a0 v2 v6 O0){n:W}:eJ a1 x4 x8 v1 v5 v9 a0 x12 v2 v6 v10 (ID a1 x4 x8 v1 v5 v9 a0 x12 v2 v6 v10 O0 n):=by
 induction n with
 | zero=>intro _ _ r h; cases h
 | succ n ih=>
  intro v13 v14 r h σ hσ;rw[ID] at h;have s0:=fun(r17:V)=> @Ai (Y rB ([r17]:P V))
  have s1:= @Ai (Y (rL rB) ([v14]:P (P V)));have k0:= @pN;exact gc
theorem A0i{a1 x4 x8 v1 v5 a0 v2 v6}{NZ}(pM:U2 a1 x4 v1 a0 v2 NZ){n:W}:U3 a1 x4 x8 v1 v5 a0 v2 v6 (Fe a1 x4 x8 v1 v5 a0 v2 v6 NZ n):=by
 induction n with
 | zero=>intro _ _ r h; cases h
 | succ n ih=>
  intro v9 v10 r h σ hσ;rw[Fe] at h;have s0:= @Ai (Y rB ([]:P V));have s1:= @Ai (Y (rL (rL rB)) ([v10]:P (P (P V))));have k0:= @A0h; have k1:= @pM;exact gc
theorem A0j{a1 x4 v1 a0 v2}{NY}(pK:U1 a1 a0 NY){n:W}:U2 a1 x4 v1 a0 v2 (DR a1 x4 v1 a0 v2 NY n):=by
 induction n with
 | zero=>intro _ _ r h; cases h
 | succ n ih=>
  intro v5 v6 r h σ hσ;rw[DR] at h;have s0:= @Ai (Y (rL rB) ([]:P (P V)));have s1:= @Ai (Y (rL (rL (rL rB))) ([v6]:P (P (P (P V)))));have k0:= @A0i; have k1:= @pK;exact gc
theorem A0k{a1 a0}{n:W}:U1 a1 a0 (D5 a1 a0 n):=by
 induction n with
 | zero=>intro _ _ r h; cases h
 | succ n ih=>
  intro v1 v2 r h σ hσ;rw[D5] at h;have s0:= @Ai (Y (rL (rL rB)) ([]:P (P (P V))));have k0:= @A0j;exact gc
instance yn:Ct 137 (∀{a0} {a1} {r},Ni a0 a1=N r→FC Z 137 [.ag (X4.row a0),.sc (.sl (Y (rL X0.row) a1))] [.sc (.o 1 (Y (rL (rL (rL rB))) r))]):=by
 refine⟨fun h=> ?_⟩;unfold Ni at h;refine A4 mixed Nw [4] 74 ?_;have s0:= @Ai (Y (rL (rL (rL rB))) ([]:P (P (P (P V)))));have k0:= @A0k;exact gc
/- 138:spec_CheapestOption -/
def S8:Hw:=([(8,[0,3,6,7,8],[],[]),(21,[0,3,4,6,7,8,24],[],[])],[])
def dI:=fun a0 v1 v2 (k_:V→Q U)=>∀{v7} {zr},k_ v7=N zr→Kh Z 138 S8 21 [0,3,4,6,7,8,24] [] [] ⟨[pL 0 X0.row a0,pI 3 v1,pI 4 v2,pL 6 X0.row a0,pI 7 (a0.length:U),pI 8 v2,(24,vc (aB v7))],[],[]⟩ (A7 [2] [.sc (.v (.int .i64 zr))])
def TP:=fun a0 (k_:U→U→Q U)=>∀{v1 v2} {zr},k_ v1 v2=N zr→Kh Z 138 S8 8 [0,3,6,7,8] [] [] ⟨[pL 0 X0.row a0,pI 3 v1,pL 6 X0.row a0,pI 7 (a0.length:U),pI 8 v2],[],[]⟩ (A7 [2] [.sc (.v (.int .i64 zr))])
theorem aE{a0 v1 v2}{NT}(oy:TP a0 NT):dI a0 v1 v2 (K0 a0 v1 v2 NT):=by
 intro v7 r h σ hσ;unfold K0 at h;have k0:= @oy;exact gc
theorem A0l{a0}{n:W}:TP a0 (G9 a0 n):=by
 induction n with
 | zero=>intro _ _ r h; cases h
 | succ n ih=>
  intro v1 v2 r h σ hσ S hS
  conv at hS=>rhs; reduce
  try simp only[zB,zA,Au,UInt8.reduceOfNat] at hS
  subst hS;rw[G9] at h;refine AZ (AF ?_);obtain⟨h3,h⟩|⟨h3,h⟩:=ic h
  ·obtain⟨x4,h4,h⟩:=ob h;try simp only[hσ,h3,h4,C,E,F,G,H,J]
   refine Cd ?_;try simp only[h3,h4,C,E,F,G,H,J]
   refine At ?_;obtain⟨h5,h⟩|⟨h5,h⟩:=ic h
   ·try simp only[h3,h4,h5,C,E,F,G,H,J]
    refine aE ih h ?_ (by kernel_rfl);try simp only[h3,h4,h5,C,E,F,G,H,J,pL,aM,I]
   ·obtain⟨x6,h6,h⟩:=ob h;try simp only[h3,h4,h5,h6,C,E,F,G,H,J]
    refine aE ih h ?_ (by kernel_rfl);try simp only[h3,h4,h5,h6,C,E,F,G,H,J,pL,aM,I]
  ·try simp only[hσ,h3,C,E,F,G,H,J]
   cases h;exact t0
instance yb:Ct 138 (∀{a0} {r},PD a0=N r→FC Z 138 [.sc (.sl (Y X0.row a0))] [.sc (.v (.int .i64 r))]):=by
 refine⟨fun h=> ?_⟩;unfold PD at h;refine A4 mixed S8 [2] 28 ?_;have k0:= @A0l;exact gc
/- 174:spec_ChainsOf -/
def VC:Hw:=([(8,[3,7,8,9],[],[384])],[(19,5,(O,.frz 896))])
def dF:=fun a0 (k_:U→(P (P X3))→Q (P (P X3)))=>∀{v1 v2} {zr},k_ v1 v2=N zr→Kh Z 174 VC 8 [3,7,8,9] [] [384] ⟨[pW 3 384,pL 7 X0.row a0,pI 8 (a0.length:U),pI 9 v1],[],[(384,1,Y (rL X3.row) v2)]⟩ (A7 [2] [.sc (.o 1 (Y (rL X3.row) zr))])
theorem A0m{a0}{n:W}:dF a0 (I8 a0 n):=by
 induction n with
 | zero=>intro _ _ r h; cases h
 | succ n ih=>
  intro v1 v2 r h σ hσ;rw[I8] at h;have s0:= @Ai (Y X3.row ([]:P X3));have s1:=fun(x4:X0)=> @Ai (Y (rL X3.row) ([x4.Passages]:P (P X3)))
  exact gc
instance xz:Ct 174 (∀{a0} {r},JZ a0=N r→FC Z 174 [.sc (.sl (Y X0.row a0))] [.sc (.o 1 (Y (rL X3.row) r))]):=by
 refine⟨fun h=> ?_⟩;unfold JZ at h;refine A4 mixed VC [2] 22 ?_;have s0:= @Ai (Y (rL X3.row) ([]:P (P X3)));have k0:= @A0m;exact gc
/- 243:spec_PassageOk -/
instance B0s:Ct 243 (∀{a0} {a1} {a2} {r},Kb a0 a1 a2=N r→FC Z 243 [.ag (X1.row a0),.sc (.sl (Y X6.row a1)),.ag (X3.row a2)] [.sc (.v (.bool r))]):=by
 refine⟨fun h=> ?_⟩;unfold Kb at h;refine A4 mixed h0 [6] 60 ?_;exact gc
/- 244:spec_l08Ends -/
instance B1k:Ct 244 (∀{a0} {a1} {r},Fa a0 a1=N r→FC Z 244 [.ag (X1.row a0),.ag (X3.row a1)] [.sc (.v (.int .i64 r.1)),.sc (.v (.int .i64 r.2))]):=by
 refine⟨fun h=> ?_⟩;unfold Fa at h;refine A4 mixed h0 [4,5] 23 ?_;exact gc
/- 223:spec_l14Tugs -/
def S9:Hw:=([(8,[1,3,8,15,16,17],[3],[896]),(33,[1,3,8,10,11,12,13,15,16,17],[3,10],[896])],[])
def eG:=fun a1 (r7:U × U) a2 v1 (a0:X1) (x4:X3) (k_:U→(P X9)→Q ((P X9) × V))=>∀{v8 v9} {zr},k_ v8 v9=N zr→Kh Z 223 S9 33 [1,3,8,10,11,12,13,15,16,17] [3,10] [896] ⟨[pL 1 X6.row a1,pB 3,pW 8 896,pB 10,pI 11 r7.1,pI 12 r7.2,pI 13 v8,pL 15 X3.row a2,pI 16 (a2.length:U),pI 17 v1],[(3,[aM X7.row a0.Points,aM X2.row a0.Segments]),(10,(dm x4.row))],[(896,4,Y X9.row v9)]⟩ (A7 [6,7] [.sc (.o 4 (Y X9.row zr.1)),.sc (.v (.bool zr.2))])
def U0:=fun a1 a2 (a0:X1) (k_:U→(P X9)→Q ((P X9) × V))=>∀{v1 v2} {zr},k_ v1 v2=N zr→Kh Z 223 S9 8 [1,3,8,15,16,17] [3] [896] ⟨[pL 1 X6.row a1,pB 3,pW 8 896,pL 15 X3.row a2,pI 16 (a2.length:U),pI 17 v1],[(3,[aM X7.row a0.Points,aM X2.row a0.Segments])],[(896,4,Y X9.row v2)]⟩ (A7 [6,7] [.sc (.o 4 (Y X9.row zr.1)),.sc (.v (.bool zr.2))])
theorem A0n{a1 r7 a2 v1 a0 x4}{NX}(pJ:U0 a1 a2 a0 NX){n:W}:eG a1 r7 a2 v1 a0 x4 (Gs a1 r7 a2 v1 a0 x4 NX n):=by
 induction n with
 | zero=>intro _ _ r h; cases h
 | succ n ih=>
  intro v8 v9 r h σ hσ;rw[Gs] at h;have s0:= @Ai (Y X9.row ([(⟨x4.Start,x4.End,r7.1,r7.2⟩:X9)]:P X9));have k0:= @pJ;exact gc
theorem A0o{a1 a2 a0}{n:W}:U0 a1 a2 a0 (Fc a1 a2 a0 n):=by
 induction n with
 | zero=>intro _ _ r h; cases h
 | succ n ih=>
  intro v1 v2 r h σ hσ;rw[Fc] at h;have k0:= @A0n;exact gc
instance B1r:Ct 223 (∀{a0} {a1} {a2} {r},PO a0 a1 a2=N r→FC Z 223 [.ag (X1.row a0),.sc (.sl (Y X6.row a1)),.sc (.sl (Y X3.row a2))] [.sc (.o 4 (Y X9.row r.1)),.sc (.v (.bool r.2))]):=by
 refine⟨fun h=> ?_⟩;unfold PO at h;refine A4 mixed S9 [6,7] 57 ?_;have s0:= @Ai (Y X9.row ([]:P X9));have k0:= @A0o;exact gc
/- 265:spec_l13Duty -/
instance B1o:Ct 265 (∀{a0} {r},IB a0=N r→FC Z 265 [.ag (X9.row a0)] [.sc (.v (.bool r))]):=by
 refine⟨fun h=> ?_⟩;unfold IB at h;refine A4 mixed h0 [2] 28 ?_;exact gc
/- 245:spec_DutiesOk -/
def VD:Hw:=([(14,[8,9,10],[],[])],[])
def dL:=fun a0 (k_:U→Q V)=>∀{v2} {zr},k_ v2=N zr→Kh Z 245 VD 14 [8,9,10] [] [] ⟨[pL 8 X9.row a0,pI 9 (a0.length:U),pI 10 v2],[],[]⟩ (A7 [2] [.sc (.v (.bool zr))])
theorem A0p{a0}{n:W}:dL a0 (If a0 n):=by
 induction n with
 | zero=>intro _ r h; cases h
 | succ n ih=>
  intro v2 r h σ hσ;rw[If] at h;exact gc
instance B0c:Ct 245 (∀{a0} {r},MJ a0=N r→FC Z 245 [.sc (.sl (Y X9.row a0))] [.sc (.v (.bool r))]):=by
 refine⟨fun h=> ?_⟩;unfold MJ at h;refine A4 mixed VD [2] 18 ?_;have k0:= @A0p;exact gc
/- 278:spec_Gap -/
def VE:Hw:=([(5,[0,1,6,7,25],[6,7],[])],[])
def dO:=fun a0 a1 (a2:X9) (a3:X9) (k_:V→Q (U × V))=>∀{v6} {zr},k_ v6=N zr→Kh Z 278 VE 5 [0,1,6,7,25] [6,7] [] ⟨[pI 0 a0,pL 1 rI a1,pB 6,pB 7,(25,vc (aB v6))],[(6,(dm a2.row)),(7,(dm a3.row))],[]⟩ (A7 [8,9] [.sc (.v (.int .i64 zr.1)),.sc (.v (.bool zr.2))])
theorem A0q{a0 a1 a2 a3}:dO a0 a1 a2 a3 (K3 a0 a1 a2 a3):=by
 intro v6 r h σ hσ;unfold K3 at h;exact gc
instance B0f:Ct 278 (∀{a0} {a1} {a2} {a3} {r},PE a0 a1 a2 a3=N r→FC Z 278 [.sc (.int .i64 a0),.sc (.sl (Y rI a1)),.ag (X9.row a2),.ag (X9.row a3)] [.sc (.v (.int .i64 r.1)),.sc (.v (.bool r.2))]):=by
 refine⟨fun h=> ?_⟩;unfold PE at h;refine A4 mixed VE [8,9] 37 ?_;have k0:= @A0q;exact gc
/- 266:spec_CanFollow -/
instance A98:Ct 266 (∀{a0} {a1} {a2} {a3} {r},JY a0 a1 a2 a3=N r→FC Z 266 [.sc (.int .i64 a0),.sc (.sl (Y rI a1)),.ag (X9.row a2),.ag (X9.row a3)] [.sc (.v (.bool r))]):=by
 refine⟨fun h=> ?_⟩;unfold JY at h;refine A4 mixed h0 [8] 37 ?_;exact gc
/- 246:spec_l13Both -/
def Sa:Hw:=([(8,[0,1,2,7,14,15,16],[],[832]),(25,[0,1,2,7,9,10,14,15,16,21,22,23],[9],[832,1280])],[(38,2,(O,.frz 1280))])
def dz:=fun a0 a1 a2 v1 (x4:X9) v2 (k_:U→(P V)→Q (P (P V)))=>∀{v5 v6} {zr},k_ v5 v6=N zr→Kh Z 246 Sa 25 [0,1,2,7,9,10,14,15,16,21,22,23] [9] [832,1280] ⟨[pI 0 a0,pL 1 rI a1,pL 2 X9.row a2,pW 7 832,pB 9,pW 10 1280,pL 14 X9.row a2,pI 15 (a2.length:U),pI 16 v1,pL 21 X9.row a2,pI 22 (a2.length:U),pI 23 v5],[(9,(dm x4.row))],[(832,1,Y (rL rB) v2),(1280,1,Y rB v6)]⟩ (A7 [6] [.sc (.o 1 (Y (rL rB) zr))])
def TZ:=fun a0 a1 a2 (k_:U→(P (P V))→Q (P (P V)))=>∀{v1 v2} {zr},k_ v1 v2=N zr→Kh Z 246 Sa 8 [0,1,2,7,14,15,16] [] [832] ⟨[pI 0 a0,pL 1 rI a1,pL 2 X9.row a2,pW 7 832,pL 14 X9.row a2,pI 15 (a2.length:U),pI 16 v1],[],[(832,1,Y (rL rB) v2)]⟩ (A7 [6] [.sc (.o 1 (Y (rL rB) zr))])
theorem A0s{a0 a1 a2 v1 x4 v2}{KA}(pH:TZ a0 a1 a2 KA){n:W}:dz a0 a1 a2 v1 x4 v2 (Gn a0 a1 a2 v1 x4 v2 KA n):=by
 induction n with
 | zero=>intro _ _ r h; cases h
 | succ n ih=>
  intro v5 v6 r h σ hσ;rw[Gn] at h;have s0:= @Ai (Y rB ([T]:P V));have s1:=fun(r12:V)=> @Ai (Y rB ([r12]:P V))
  have s2:= @Ai (Y (rL rB) ([v6]:P (P V)));have k0:= @pH;exact gc
theorem A0t{a0 a1 a2}{n:W}:TZ a0 a1 a2 (Fb a0 a1 a2 n):=by
 induction n with
 | zero=>intro _ _ r h; cases h
 | succ n ih=>
  intro v1 v2 r h σ hσ;rw[Fb] at h;have s0:= @Ai (Y rB ([]:P V));have k0:= @A0s;exact gc
instance B1n:Ct 246 (∀{a0} {a1} {a2} {r},Nd a0 a1 a2=N r→FC Z 246 [.sc (.int .i64 a0),.sc (.sl (Y rI a1)),.sc (.sl (Y X9.row a2))] [.sc (.o 1 (Y (rL rB) r))]):=by
 refine⟨fun h=> ?_⟩;unfold Nd at h;refine A4 mixed Sa [6] 49 ?_;have s0:= @Ai (Y (rL rB) ([]:P (P V)));have k0:= @A0t;exact gc
/- 247:spec_l13Search -/
def Nx:Hw:=([(16,[0,1,2,8,23,24,25],[],[]),(33,[0,1,2,8,11],[],[]),(48,[0,1,2,8,11,12,44,45,46],[],[]),(80,[0,1,2,8,11],[],[])],[(72,8,(O,.frz 4480))])
def eD:=fun a0 a1 a2 v2 v6 (k_:Q ((P U) × V))=>∀{zr},k_=N zr→Kh Z 247 Nx 80 [0,1,2,8,11] [] [] ⟨[pL 0 (rL rB) a0,pL 1 rI a1,pI 2 a2,pI 8 v2,pI 11 v6],[],[]⟩ (A7 [6,7] [.sc (.v (.sl (Y rI zr.1))),.sc (.v (.bool zr.2))])
def eC:=fun a0 a1 a2 v2 v6 (k_:V→U→Q ((P U) × V))=>∀{v9 v10} {zr},k_ v9 v10=N zr→Kh Z 247 Nx 48 [0,1,2,8,11,12,44,45,46] [] [] ⟨[pL 0 (rL rB) a0,pL 1 rI a1,pI 2 a2,pI 8 v2,pI 11 v6,(12,vc (aB v9)),pL 44 rI a1,pI 45 (a1.length:U),pI 46 v10],[],[]⟩ (A7 [6,7] [.sc (.v (.sl (Y rI zr.1))),.sc (.v (.bool zr.2))])
def R8:=fun a0 a1 a2 v2 (k_:U→Q ((P U) × V))=>∀{v6} {zr},k_ v6=N zr→Kh Z 247 Nx 33 [0,1,2,8,11] [] [] ⟨[pL 0 (rL rB) a0,pL 1 rI a1,pI 2 a2,pI 8 v2,pI 11 v6],[],[]⟩ (A7 [6,7] [.sc (.v (.sl (Y rI zr.1))),.sc (.v (.bool zr.2))])
def eB:=fun a0 a1 a2 (k_:U→U→Q ((P U) × V))=>∀{v2 v3} {zr},k_ v2 v3=N zr→Kh Z 247 Nx 16 [0,1,2,8,23,24,25] [] [] ⟨[pL 0 (rL rB) a0,pL 1 rI a1,pI 2 a2,pI 8 v2,pL 23 rI a1,pI 24 (a1.length:U),pI 25 v3],[],[]⟩ (A7 [6,7] [.sc (.v (.sl (Y rI zr.1))),.sc (.v (.bool zr.2))])
theorem A0u{rec_:(P (P V))→(P U)→U→Q ((P U) × V)}(h_rec:∀(a0:P (P V)) (a1:P U) (a2:U) zr,rec_ a0 a1 a2=N zr→FC Z 247 [.sc (.sl (Y (rL rB) a0)),.sc (.sl (Y rI a1)),.sc (.int .i64 a2)] [.sc (.v (.sl (Y rI zr.1))),.sc (.v (.bool zr.2))]){a0 a1 a2 v2 v6}{Da}(WH:R8 a0 a1 a2 v2 Da):eD a0 a1 a2 v2 v6 (Kj rec_ a0 a1 a2 v2 v6 Da):=by
 intro r h σ hσ;unfold Kj at h;have:Ct 247 _:=⟨h_rec⟩;have k0:= @WH;exact gc
theorem A0v{rec_:(P (P V))→(P U)→U→Q ((P U) × V)}(h_rec:∀(a0:P (P V)) (a1:P U) (a2:U) zr,rec_ a0 a1 a2=N zr→FC Z 247 [.sc (.sl (Y (rL rB) a0)),.sc (.sl (Y rI a1)),.sc (.int .i64 a2)] [.sc (.v (.sl (Y rI zr.1))),.sc (.v (.bool zr.2))]){a0 a1 a2 v2 v6}{Da}(WH:R8 a0 a1 a2 v2 Da){n:W}:eC a0 a1 a2 v2 v6 (Dp rec_ a0 a1 a2 v2 v6 Da n):=by
 induction n with
 | zero=>intro _ _ r h; cases h
 | succ n ih=>
  intro v9 v10 r h σ hσ;rw[Dp] at h;have:Ct 247 _:=⟨h_rec⟩;have s0:= @Ai (Y rI ([]:P U));have s1:= @Ai (Y rI ([v6]:P U));have k0:= @A0u;exact gc
theorem A0w{rec_:(P (P V))→(P U)→U→Q ((P U) × V)}(h_rec:∀(a0:P (P V)) (a1:P U) (a2:U) zr,rec_ a0 a1 a2=N zr→FC Z 247 [.sc (.sl (Y (rL rB) a0)),.sc (.sl (Y rI a1)),.sc (.int .i64 a2)] [.sc (.v (.sl (Y rI zr.1))),.sc (.v (.bool zr.2))]){a0 a1 a2 v2}{n:W}:R8 a0 a1 a2 v2 (DQ rec_ a0 a1 a2 v2 n):=by
 induction n with
 | zero=>intro _ r h; cases h
 | succ n ih=>
  intro v6 r h σ hσ;rw[DQ] at h;have:Ct 247 _:=⟨h_rec⟩;have k0:= @A0v;exact gc
theorem A0x{rec_:(P (P V))→(P U)→U→Q ((P U) × V)}(h_rec:∀(a0:P (P V)) (a1:P U) (a2:U) zr,rec_ a0 a1 a2=N zr→FC Z 247 [.sc (.sl (Y (rL rB) a0)),.sc (.sl (Y rI a1)),.sc (.int .i64 a2)] [.sc (.v (.sl (Y rI zr.1))),.sc (.v (.bool zr.2))]){a0 a1 a2}{n:W}:eB a0 a1 a2 (Gp rec_ a0 a1 a2 n):=by
 induction n with
 | zero=>intro _ _ r h; cases h
 | succ n ih=>
  intro v2 v3 r h σ hσ;rw[Gp] at h;have:Ct 247 _:=⟨h_rec⟩;have k0:= @A0w;exact gc
theorem yk(rec_:(P (P V))→(P U)→U→Q ((P U) × V))(a0:P (P V))(a1:P U)(a2:U)(r:(P U) × V)(h_rec:∀(a0:P (P V)) (a1:P U) (a2:U) zr,rec_ a0 a1 a2=N zr→FC Z 247 [.sc (.sl (Y (rL rB) a0)),.sc (.sl (Y rI a1)),.sc (.int .i64 a2)] [.sc (.v (.sl (Y rI zr.1))),.sc (.v (.bool zr.2))])(h:Nf rec_ a0 a1 a2=N r):FC Z 247 [.sc (.sl (Y (rL rB) a0)),.sc (.sl (Y rI a1)),.sc (.int .i64 a2)] [.sc (.v (.sl (Y rI r.1))),.sc (.v (.bool r.2))]:=by
 unfold Nf at h;refine A4 mixed Nx [6,7] 82 ?_;have:Ct 247 _:=⟨h_rec⟩;have k0:= @A0x;exact gc
theorem yl:∀(n:W) (a0:P (P V)) (a1:P U) (a2:U) (r:(P U) × V),Co n a0 a1 a2=N r→FC Z 247 [.sc (.sl (Y (rL rB) a0)),.sc (.sl (Y rI a1)),.sc (.int .i64 a2)] [.sc (.v (.sl (Y rI r.1))),.sc (.v (.bool r.2))]:=by
 intro n
 induction n with
 | zero=>intro _ _ _ r h; cases h
 | succ n ih=>intro a0 a1 a2 r h; rw[Co] at h; exact yk (Co n) a0 a1 a2 r ih h
theorem yj{a0}{a1}{a2}{r}(h:PN a0 a1 a2=N r):FC Z 247 [.sc (.sl (Y (rL rB) a0)),.sc (.sl (Y rI a1)),.sc (.int .i64 a2)] [.sc (.v (.sl (Y rI r.1))),.sc (.v (.bool r.2))]:=yl bigN a0 a1 a2 r h
/- 224:spec_LeastCover -/
def Sb:Hw:=([(5,[0,1,2,21],[],[]),(16,[2,9,10],[],[])],[(11,4,(O,.frz 1600)),(26,3,(O,.frz 2176))])
def dV:=fun a2 r6 (k_:U→Q ((P U) × U × V))=>∀{v7} {zr},k_ v7=N zr→Kh Z 224 Sb 16 [2,9,10] [] [] ⟨[pL 2 X9.row a2,pL 9 (rL rB) r6,pI 10 v7],[],[]⟩ (A7 [6,7,8] [.sc (.v (.sl (Y rI zr.1))),.sc (.v (.int .i64 zr.2.1)),.sc (.v (.bool zr.2.2))])
def dU:=fun a0 a1 a2 (k_:V→Q ((P U) × U × V))=>∀{v4} {zr},k_ v4=N zr→Kh Z 224 Sb 5 [0,1,2,21] [] [] ⟨[pI 0 a0,pL 1 rI a1,pL 2 X9.row a2,(21,vc (aB v4))],[],[]⟩ (A7 [6,7,8] [.sc (.v (.sl (Y rI zr.1))),.sc (.v (.int .i64 zr.2.1)),.sc (.v (.bool zr.2.2))])
theorem A0y{a2 r6}{n:W}:dV a2 r6 (Ij a2 r6 n):=by
 induction n with
 | zero=>intro _ r h; cases h
 | succ n ih=>
  intro v7 r h σ hσ S hS
  conv at hS=>rhs; reduce
  try simp only[zB,zA,Au,UInt8.reduceOfNat] at hS
  subst hS;rw[Ij] at h;refine AZ (AF ?_);obtain⟨h8,h⟩|⟨h8,h⟩:=ic h
  ·try simp only[hσ,h8,C,E,F,G,H,J]
   refine Bn (es:=Y rI ([]:P U)) ?_;try simp only[h8,C,E,F,G,H,J]
   refine CF ?_;obtain⟨r9,h9,h⟩:=ob h;try simp only[h8,C,E,F,G,H,J]
   refine AY (yj h9) ?_;obtain⟨h10,h⟩|⟨h10,h⟩:=ic h
   ·try simp only[h8,h10,C,E,F,G,H,J]
    cases h;trivial
   ·try simp only[h8,h10,C,E,F,G,H,J]
    refine ih h ?_ (by kernel_rfl);try simp only[h8,h10,C,E,F,G,H,J,pL,aM,I]
  ·try simp only[hσ,h8,C,E,F,G,H,J]
   cases h;trivial
theorem A0z{a0 a1 a2}:dU a0 a1 a2 (MP a0 a1 a2):=by
 intro v4 r h σ hσ;unfold MP at h;have k0:= @A0y;exact gc
instance B0l:Ct 224 (∀{a0} {a1} {a2} {r},Ii a0 a1 a2=N r→FC Z 224 [.sc (.int .i64 a0),.sc (.sl (Y rI a1)),.sc (.sl (Y X9.row a2))] [.sc (.v (.sl (Y rI r.1))),.sc (.v (.int .i64 r.2.1)),.sc (.v (.bool r.2.2))]):=by
 refine⟨fun h=> ?_⟩;unfold Ii at h;refine A4 mixed Sb [6,7,8] 42 ?_;have k0:= @A0z;exact gc
/- 201:spec_TugsNeeded -/
def oV:Hw:=([],[(13,3,(O,.frz 1152))])
instance B09:Ct 201 (∀{a0} {a1} {a2} {a3} {r},Kc a0 a1 a2 a3=N r→FC Z 201 [.ag (Xm.row a0),.ag (X1.row a1),.sc (.sl (Y X6.row a2)),.sc (.sl (Y X3.row a3))] [.sc (.v (.int .i64 r))]):=by
 refine⟨fun h=> ?_⟩;unfold Kc at h;refine A4 mixed oV [8] 39 ?_;exact gc
/- 248:spec_IsChain -/
def VG:Hw:=([(14,[1,2,14,15,16],[2],[])],[])
def dQ:=fun a1 (a0:X1) (k_:U→Q V)=>∀{v3} {zr},k_ v3=N zr→Kh Z 248 VG 14 [1,2,14,15,16] [2] [] ⟨[pL 1 X3.row a1,pB 2,pL 14 X3.row a1,pI 15 (a1.length:U),pI 16 v3],[(2,[aM X7.row a0.Points,aM X2.row a0.Segments])],[]⟩ (A7 [4] [.sc (.v (.bool zr))])
theorem A00{a1 a0}{n:W}:dQ a1 a0 (Gb a1 a0 n):=by
 induction n with
 | zero=>intro _ r h; cases h
 | succ n ih=>
  intro v3 r h σ hσ;rw[Gb] at h;exact gc
instance B0i:Ct 248 (∀{a0} {a1} {r},ML a0 a1=N r→FC Z 248 [.ag (X1.row a0),.sc (.sl (Y X3.row a1))] [.sc (.v (.bool r))]):=by
 refine⟨fun h=> ?_⟩;unfold ML at h;refine A4 mixed VG [4] 71 ?_;have k0:= @A00;exact gc
/- 225:spec_PilotDuty -/
def Sc:Hw:=([(5,[1,2,3,6,23],[3,6],[]),(14,[1,2,3,6,25,26,27],[3,6],[])],[])
def da:=fun a1 a2 (a0:X1) (k_:U→Q (X9 × V))=>∀{v5} {zr},k_ v5=N zr→Kh Z 225 Sc 14 [1,2,3,6,25,26,27] [3,6] [] ⟨[pL 1 X6.row a1,pL 2 X3.row a2,pB 3,pB 6,pL 25 X3.row a2,pI 26 (a2.length:U),pI 27 v5],[(3,[aM X7.row a0.Points,aM X2.row a0.Segments]),(6,[aI (0:U),aI (0:U),aI (0:U),aI (0:U)])],[]⟩ (A7 [.c 6 T 4,7] [.ag [.v (.int .i64 zr.1.From),.v (.int .i64 zr.1.To),.v (.int .i64 zr.1.A),.v (.int .i64 zr.1.B)],.sc (.v (.bool zr.2))])
def dZ:=fun a1 a2 (a0:X1) (k_:V→Q (X9 × V))=>∀{v3} {zr},k_ v3=N zr→Kh Z 225 Sc 5 [1,2,3,6,23] [3,6] [] ⟨[pL 1 X6.row a1,pL 2 X3.row a2,pB 3,pB 6,(23,vc (aB v3))],[(3,[aM X7.row a0.Points,aM X2.row a0.Segments]),(6,[aI (0:U),aI (0:U),aI (0:U),aI (0:U)])],[]⟩ (A7 [.c 6 T 4,7] [.ag [.v (.int .i64 zr.1.From),.v (.int .i64 zr.1.To),.v (.int .i64 zr.1.A),.v (.int .i64 zr.1.B)],.sc (.v (.bool zr.2))])
theorem A01{a1 a2 a0}{n:W}:da a1 a2 a0 (In a1 a2 a0 n):=by
 induction n with
 | zero=>intro _ r h; cases h
 | succ n ih=>
  intro v5 r h σ hσ;rw[In] at h;exact gc
theorem A02{a1 a2 a0}:dZ a1 a2 a0 (MV a1 a2 a0):=by
 intro v3 r h σ hσ;unfold MV at h;have k0:= @A01;exact gc
instance B0t:Ct 225 (∀{a0} {a1} {a2} {r},MU a0 a1 a2=N r→FC Z 225 [.ag (X1.row a0),.sc (.sl (Y X6.row a1)),.sc (.sl (Y X3.row a2))] [.ag [.v (.int .i64 r.1.From),.v (.int .i64 r.1.To),.v (.int .i64 r.1.A),.v (.int .i64 r.1.B)],.sc (.v (.bool r.2))]):=by
 refine⟨fun h=> ?_⟩;unfold MU at h;refine A4 mixed Sc [.c 6 T 4,7] 67 ?_;have k0:= @A02;exact gc
/- 202:spec_PilotsNeeded -/
def VH:Hw:=([(16,[2,4,5,9,21,22,23],[4,5],[1280])],[(46,5,(O,.frz 1280))])
def db:=fun a2 a3 (a0:Xm) (a1:X1) (k_:U→(P X9)→Q U)=>∀{v3 v4} {zr},k_ v3 v4=N zr→Kh Z 202 VH 16 [2,4,5,9,21,22,23] [4,5] [1280] ⟨[pL 2 X6.row a2,pB 4,pB 5,pW 9 1280,pL 21 (rL X3.row) a3,pI 22 (a3.length:U),pI 23 v3],[(4,(dm a0.row)),(5,[aM X7.row a1.Points,aM X2.row a1.Segments])],[(1280,4,Y X9.row v4)]⟩ (A7 [8] [.sc (.v (.int .i64 zr))])
theorem A03{a2 a3 a0 a1}{n:W}:db a2 a3 a0 a1 (Ge a2 a3 a0 a1 n):=by
 induction n with
 | zero=>intro _ _ r h; cases h
 | succ n ih=>
  intro v3 v4 r h σ hσ;rw[Ge] at h;have s0:=fun(r9:X9 × V)=> @Ai (Y X9.row ([r9.1]:P X9))
  exact gc
instance B0u:Ct 202 (∀{a0} {a1} {a2} {a3} {r},MW a0 a1 a2 a3=N r→FC Z 202 [.ag (Xm.row a0),.ag (X1.row a1),.sc (.sl (Y X6.row a2)),.sc (.sl (Y (rL X3.row) a3))] [.sc (.v (.int .i64 r))]):=by
 refine⟨fun h=> ?_⟩;unfold MW at h;refine A4 mixed VH [8] 57 ?_;have s0:= @Ai (Y X9.row ([]:P X9));have k0:= @A03;exact gc
/- 173:spec_CrewSuffices -/
def VI:Hw:=([(8,[2,3,4,5,9,13,14,15],[4,5],[768])],[])
def dK:=fun a2 a3 (a0:Xm) (a1:X1) (k_:U→(P X3)→Q V)=>∀{v1 v2} {zr},k_ v1 v2=N zr→Kh Z 173 VI 8 [2,3,4,5,9,13,14,15] [4,5] [768] ⟨[pL 2 X6.row a2,pL 3 (rL X3.row) a3,pB 4,pB 5,pW 9 768,pL 13 (rL X3.row) a3,pI 14 (a3.length:U),pI 15 v1],[(4,(dm a0.row)),(5,[aM X7.row a1.Points,aM X2.row a1.Segments])],[(768,5,Y X3.row v2)]⟩ (A7 [8] [.sc (.v (.bool zr))])
theorem A05{a2 a3 a0 a1}{n:W}:dK a2 a3 a0 a1 (Ie a2 a3 a0 a1 n):=by
 induction n with
 | zero=>intro _ _ r h; cases h
 | succ n ih=>
  intro v1 v2 r h σ hσ;rw[Ie] at h;exact gc
instance yc:Ct 173 (∀{a0} {a1} {a2} {a3} {r},MI a0 a1 a2 a3=N r→FC Z 173 [.ag (Xm.row a0),.ag (X1.row a1),.sc (.sl (Y X6.row a2)),.sc (.sl (Y (rL X3.row) a3))] [.sc (.v (.bool r))]):=by
 refine⟨fun h=> ?_⟩;unfold MI at h;refine A4 mixed VI [8] 41 ?_;have s0:= @Ai (Y X3.row ([]:P X3));have k0:= @A05;exact gc
/- 139:spec_l16Search -/
def GY:P (P W × AItem):= [([],(O,.mv 135 (S 0))),([],(O,.bslice 136 1 [.int .i64 0] 0 [])),([],(O,.mv 137 (S 1))),([1,2],(O,.app 138 1 8 (S 136) (S 137))),([],(O,.mv 139 (S 10))),([4],(O,.bslice 140 1 [.int .i64 0] 1 [(0,(S 139))])),([3,5,3],(O,.app 141 1 8 (S 138) (S 140))),([],(O,.mv 142 (S 2))),([],(O,.faddr 143 (S 11) 2)),([8],(O,.load 144 (S 143) L 1)),([7,9],(O,.bin 145 .add (S 142) (S 144))),([0,6,10,6],(O,.call 146 139 [(S 135),(S 141),(S 145)]))]
def Kt:Hw:=([(8,[0,1,2,6],[99999999999],[90000]),(18,[0,1,2,7,45,46,47],[99999999999],[90000,2816]),(46,[0,1,2,6,103,104,105],[99999999999],[90000]),(63,[0,1,2,6,10,11,12,103,104,105,110,111,112],[99999999999,11],[90000])],[(33,0,(O,.frz 2816))])
abbrev Bl(a1:P U)(a2 v18:U)(x17:P X0)(x38:X0)(wo1_ wo3_ wo6_:AV)(c0_ c1_:V)(c2_ c3_:V)(c4_ c5_:V)(c6_ c7_:V)(c8_ c9_:V)(c10_ c11_:V)(bx_:P (W × P AC))(rs_:Rows):St:=⟨[(0,vc (.pb 99999999999 0)),(1,vc (aL (Y rI a1))),(2,vc (aI a2)),(6,vc (aI (a1.length:U))),(10,vc (aI v18)),(11,vc (.pb 11 0)),(103,vc (aL (Y X0.row x17))),(104,vc (aI (x17.length:U))),(105,vc (aI v18)),(135,bif c0_ then vc (.pb 99999999999 0) else .undef),(136,bif c1_ then wo1_ else .undef),(137,bif c2_ then vc (aL (Y rI a1)) else .undef),(138,bif c3_ then wo3_ else .undef),(139,bif c4_ then vc (aI v18) else .undef),(140,bif c5_ then vc (.own 8960) else .undef),(141,bif c6_ then wo6_ else .undef),(142,bif c7_ then vc (aI a2) else .undef),(143,bif c8_ then vc (.pb 11 2) else .undef),(144,bif c9_ then vc (aI x38.Cost) else .undef),(145,bif c10_ then vc (aI (zI .i64 (a2+x38.Cost))) else .undef),(146,bif c11_ then .tup [] else .undef)],bx_,rs_⟩
abbrev EH(a1:P U)(a2 v18:U)(x17:P X0)(x38:X0)(r51:Xe):St:=(Bl a1 a2 v18 x17 x38 (vc (.undef)) (vc (.undef)) (vc (aL (Y rI (a1++([v18]:P U))))) T T T T T T T T T T T T [(99999999999,([aI r51.h.Forecast.Tide.Mean,aL (Y zC r51.h.Forecast.Tide.Parts),aL (Y zD r51.h.Forecast.Surges),aL (Y X7.row r51.h.Chart.Points),aL (Y X2.row r51.h.Chart.Segments),aL (Y X6.row r51.h.Fleet),aI r51.h.Regime.Gap,aB r51.h.Regime.NoMeet]++dm r51.h.Crew.row++ [aL (Y (rL X0.row) r51.lists),aL (Y (rL (rL (rL rB))) r51.clash),aL (Y rI r51.rest),.own 90000,aI r51.cost,aB r51.found])),(11,(dm x38.row))] [(90000,1,Y rI r51.best),(8960,1,Y rI ([v18]:P U))])
theorem A06(rec_:Xe→(P U)→U→Q Xe)(h_rec:∀(a0:Xe) (a1:P U) (a2:U) zr,rec_ a0 a1 a2=N zr→FCz Z 139 [.p,.d (.sc (.sl (Y rI a1))),.d (.sc (.int .i64 a2))] (AR a0) (AS a0) (AR zr) (AS zr) [])(a1:P U)(a2)(v18)(x17:P X0)(v19)(v20)(v21)(v22)(v23)(v24)(v25)(v26)(v27)(v28)(v29)(v30)(v31)(v32)(v33)(v34)(v35)(x38:X0)(v36)(r51)(h49:(A3 ([]:P U).length a1.length 8)=T)(h50:(A3 a1.length ([v18]:P U).length 8)=T)(h51:rec_ (⟨(⟨(⟨(⟨v19,v20⟩:Xl),v21⟩:Xd),(⟨v22,v23⟩:X1),v24,(⟨v25,v26⟩:Xh),(⟨v27,v28,v29,v30⟩:Xm)⟩:X4),v31,v32,v33,v36,v34,v35⟩:Xe) (a1++([v18]:P U)) (zI .i64 (a2+x38.Cost))=N r51):∀(f:W) (b7 b8 b9:V),Ab Z GY (EH a1 a2 v18 x17 x38 r51) f [T,T,T,T,T,T,T,b7,b8,b9,T,T] (Bl a1 a2 v18 x17 x38 (vc (.undef)) (vc (.undef)) (vc (aL (Y rI (a1++([v18]:P U))))) T T T T T T T b7 b8 b9 T T [(99999999999,([aI r51.h.Forecast.Tide.Mean,aL (Y zC r51.h.Forecast.Tide.Parts),aL (Y zD r51.h.Forecast.Surges),aL (Y X7.row r51.h.Chart.Points),aL (Y X2.row r51.h.Chart.Segments),aL (Y X6.row r51.h.Fleet),aI r51.h.Regime.Gap,aB r51.h.Regime.NoMeet]++dm r51.h.Crew.row++ [aL (Y (rL X0.row) r51.lists),aL (Y (rL (rL (rL rB))) r51.clash),aL (Y rI r51.rest),.own 90000,aI r51.cost,aB r51.found])),(11,(dm x38.row))] [(90000,1,Y rI r51.best),(8960,1,Y rI ([v18]:P U))]):=by
 intro f
 induction f with
 | zero=>
  intro b7 b8 b9 h;obtain rfl:b7=T:=zE.1 h b7 (by simp);obtain rfl:b8=T:=zE.1 h b8 (by simp);obtain rfl:b9=T:=zE.1 h b9 (by simp);rfl
 | succ f ih=>
  intro b7 b8 b9;refine Ad ⟨?_,?_,?_,?_,?_,?_,?_,?_,?_,?_,?_,?_,⟨⟩⟩<;>try first | (intro h; cases h; done) | (intro h0 hw; obtain rfl:=hz h0 rfl; (try obtain rfl:=hq hw 8 rfl rfl); refine np ?_; simp only[Bl,A5,A6,A1,C,E,F,G,H,J]; exact ih _ _ _)
theorem A07(rec_:Xe→(P U)→U→Q Xe)(h_rec:∀(a0:Xe) (a1:P U) (a2:U) zr,rec_ a0 a1 a2=N zr→FCz Z 139 [.p,.d (.sc (.sl (Y rI a1))),.d (.sc (.int .i64 a2))] (AR a0) (AS a0) (AR zr) (AS zr) [])(a1:P U)(a2)(v18)(x17:P X0)(v19)(v20)(v21)(v22)(v23)(v24)(v25)(v26)(v27)(v28)(v29)(v30)(v31)(v32)(v33)(v34)(v35)(x38:X0)(v36)(r51)(h49:(A3 ([]:P U).length a1.length 8)=T)(h50:(A3 a1.length ([v18]:P U).length 8)=T)(h51:rec_ (⟨(⟨(⟨(⟨v19,v20⟩:Xl),v21⟩:Xd),(⟨v22,v23⟩:X1),v24,(⟨v25,v26⟩:Xh),(⟨v27,v28,v29,v30⟩:Xm)⟩:X4),v31,v32,v33,v36,v34,v35⟩:Xe) (a1++([v18]:P U)) (zI .i64 (a2+x38.Cost))=N r51):∀(f:W) (b0 b7:V) (b8 b9 b10:V),Ab Z GY (EH a1 a2 v18 x17 x38 r51) f [b0,T,T,T,T,T,T,b7,b8,b9,b10,L] (Bl a1 a2 v18 x17 x38 (vc (.undef)) (vc (.undef)) (vc (.own 8704)) b0 T T T T T T b7 b8 b9 b10 L [(99999999999,[aI v19,aL (Y zC v20),aL (Y zD v21),aL (Y X7.row v22),aL (Y X2.row v23),aL (Y X6.row v24),aI v25,aB v26,aI v27,aI v28,aI v29,aL (Y rI v30),aL (Y (rL X0.row) v31),aL (Y (rL (rL (rL rB))) v32),aL (Y rI v33),.own 90000,aI v34,aB v35]),(11,(dm x38.row))] [(90000,1,Y rI v36),(8704,1,Y rI (a1++([v18]:P U))),(8960,1,Y rI ([v18]:P U))]):=by
 intro f
 induction f with
 | zero=>intro b0 b7 b8 b9 b10 h; simp at h
 | succ f ih=>
  intro b0 b7 b8 b9 b10;refine Ad ⟨?_,?_,?_,?_,?_,?_,?_,?_,?_,?_,?_,?_,⟨⟩⟩<;>try first | (intro h; cases h; done) | (intro h0 hw; obtain rfl:=hz h0 rfl; (try obtain rfl:=hq hw 7 rfl rfl); (try obtain rfl:=hq hw 8 rfl rfl); (try obtain rfl:=hq hw 9 rfl rfl); refine np ?_; simp only[Bl,A5,A6,A1,C,E,F,G,H,J]; exact ih _ _ _ _ _)
  ·intro h0 hw;obtain rfl:=hq hw 0 rfl rfl;obtain rfl:=hq hw 10 rfl rfl;refine⟨[(O,.frz 8704)],[],X,X,?_⟩;try simp only[Bl,A5,A6,List.nil_append,List.cons_append,A1,C,E,F,G,H,J]
   refine CF ?_;try simp only[A1,C,E,F,G,H,J]
   refine Gx (h_rec _ _ _ _ h51) 99999999999 [90000] rfl X X X (by decide) X X X ?_;try simp only[A1,C,E,F,G,H,J]
   exact A06 rec_ h_rec a1 a2 v18 x17 v19 v20 v21 v22 v23 v24 v25 v26 v27 v28 v29 v30 v31 v32 v33 v34 v35 x38 v36 r51 h49 h50 h51 _ b7 b8 b9
theorem aF(rec_:Xe→(P U)→U→Q Xe)(h_rec:∀(a0:Xe) (a1:P U) (a2:U) zr,rec_ a0 a1 a2=N zr→FCz Z 139 [.p,.d (.sc (.sl (Y rI a1))),.d (.sc (.int .i64 a2))] (AR a0) (AS a0) (AR zr) (AS zr) [])(a1:P U)(a2)(v18)(x17:P X0)(v19)(v20)(v21)(v22)(v23)(v24)(v25)(v26)(v27)(v28)(v29)(v30)(v31)(v32)(v33)(v34)(v35)(x38:X0)(v36)(r51)(h49:(A3 ([]:P U).length a1.length 8)=T)(h50:(A3 a1.length ([v18]:P U).length 8)=T)(h51:rec_ (⟨(⟨(⟨(⟨v19,v20⟩:Xl),v21⟩:Xd),(⟨v22,v23⟩:X1),v24,(⟨v25,v26⟩:Xh),(⟨v27,v28,v29,v30⟩:Xm)⟩:X4),v31,v32,v33,v36,v34,v35⟩:Xe) (a1++([v18]:P U)) (zI .i64 (a2+x38.Cost))=N r51):∀(f:W) (b0 b7:V) (b8 b9 b10:V),Ab Z GY (EH a1 a2 v18 x17 x38 r51) f [b0,T,T,T,T,T,L,b7,b8,b9,b10,L] (Bl a1 a2 v18 x17 x38 (vc (.undef)) (vc (.own 8704)) (vc (.own 8704)) b0 T T T T T L b7 b8 b9 b10 L [(99999999999,[aI v19,aL (Y zC v20),aL (Y zD v21),aL (Y X7.row v22),aL (Y X2.row v23),aL (Y X6.row v24),aI v25,aB v26,aI v27,aI v28,aI v29,aL (Y rI v30),aL (Y (rL X0.row) v31),aL (Y (rL (rL (rL rB))) v32),aL (Y rI v33),.own 90000,aI v34,aB v35]),(11,(dm x38.row))] [(90000,1,Y rI v36),(8704,1,Y rI a1),(8960,1,Y rI ([v18]:P U))]):=by
 intro f
 induction f with
 | zero=>intro b0 b7 b8 b9 b10 h; simp at h
 | succ f ih=>
  intro b0 b7 b8 b9 b10;refine Ad ⟨?_,?_,?_,?_,?_,?_,?_,?_,?_,?_,?_,?_,⟨⟩⟩<;>try first | (intro h; cases h; done) | (intro _ hw; simp at hw; done) | (intro h0 hw; obtain rfl:=hz h0 rfl; (try obtain rfl:=hq hw 7 rfl rfl); (try obtain rfl:=hq hw 8 rfl rfl); (try obtain rfl:=hq hw 9 rfl rfl); refine np ?_; simp only[Bl,A5,A6,A1,C,E,F,G,H,J]; exact ih _ _ _ _ _)
  ·intro h0 hw;refine np ?_;try simp only[h50,Bl,A5,A6,A1,C,E,F,G,H,J]
   exact A07 rec_ h_rec a1 a2 v18 x17 v19 v20 v21 v22 v23 v24 v25 v26 v27 v28 v29 v30 v31 v32 v33 v34 v35 x38 v36 r51 h49 h50 h51 _ b0 b7 b8 b9 b10
theorem A08(rec_:Xe→(P U)→U→Q Xe)(h_rec:∀(a0:Xe) (a1:P U) (a2:U) zr,rec_ a0 a1 a2=N zr→FCz Z 139 [.p,.d (.sc (.sl (Y rI a1))),.d (.sc (.int .i64 a2))] (AR a0) (AS a0) (AR zr) (AS zr) [])(a1:P U)(a2)(v18)(x17:P X0)(v19)(v20)(v21)(v22)(v23)(v24)(v25)(v26)(v27)(v28)(v29)(v30)(v31)(v32)(v33)(v34)(v35)(x38:X0)(v36)(r51)(h49:(A3 ([]:P U).length a1.length 8)=T)(h50:(A3 a1.length ([v18]:P U).length 8)=T)(h51:rec_ (⟨(⟨(⟨(⟨v19,v20⟩:Xl),v21⟩:Xd),(⟨v22,v23⟩:X1),v24,(⟨v25,v26⟩:Xh),(⟨v27,v28,v29,v30⟩:Xm)⟩:X4),v31,v32,v33,v36,v34,v35⟩:Xe) (a1++([v18]:P U)) (zI .i64 (a2+x38.Cost))=N r51):∀(f:W) (b0 b4:V) (b7 b8:V) (b9 b10:V),Ab Z GY (EH a1 a2 v18 x17 x38 r51) f [b0,T,T,T,b4,L,L,b7,b8,b9,b10,L] (Bl a1 a2 v18 x17 x38 (vc (.undef)) (vc (.own 8704)) (vc (.own 8704)) b0 T T T b4 L L b7 b8 b9 b10 L [(99999999999,[aI v19,aL (Y zC v20),aL (Y zD v21),aL (Y X7.row v22),aL (Y X2.row v23),aL (Y X6.row v24),aI v25,aB v26,aI v27,aI v28,aI v29,aL (Y rI v30),aL (Y (rL X0.row) v31),aL (Y (rL (rL (rL rB))) v32),aL (Y rI v33),.own 90000,aI v34,aB v35]),(11,(dm x38.row))] [(90000,1,Y rI v36),(8704,1,Y rI a1)]):=by
 intro f
 induction f with
 | zero=>intro b0 b4 b7 b8 b9 b10 h; simp at h
 | succ f ih=>
  intro b0 b4 b7 b8 b9 b10;refine Ad ⟨?_,?_,?_,?_,?_,?_,?_,?_,?_,?_,?_,?_,⟨⟩⟩<;>try first | (intro h; cases h; done) | (intro _ hw; simp at hw; done) | (intro h0 hw; obtain rfl:=hz h0 rfl; (try obtain rfl:=hq hw 7 rfl rfl); (try obtain rfl:=hq hw 8 rfl rfl); (try obtain rfl:=hq hw 9 rfl rfl); refine np ?_; simp only[Bl,A5,A6,A1,C,E,F,G,H,J]; exact ih _ _ _ _ _ _)
  ·intro h0 hw;obtain rfl:=hq hw 4 rfl rfl;refine np ?_;try simp only[Bl,A5,A6,A1,C,E,F,G,H,J]
   refine Am (es:=Y rI ([v18]:P U)) X (by simp only[St.fresh,zF,zG,Ah]; simp[AV.cells,V1.cells,AC.uses]) ?_;try simp only[A1,C,E,F,G,H,J]
   exact aF rec_ h_rec a1 a2 v18 x17 v19 v20 v21 v22 v23 v24 v25 v26 v27 v28 v29 v30 v31 v32 v33 v34 v35 x38 v36 r51 h49 h50 h51 _ b0 b7 b8 b9 b10
theorem aG(rec_:Xe→(P U)→U→Q Xe)(h_rec:∀(a0:Xe) (a1:P U) (a2:U) zr,rec_ a0 a1 a2=N zr→FCz Z 139 [.p,.d (.sc (.sl (Y rI a1))),.d (.sc (.int .i64 a2))] (AR a0) (AS a0) (AR zr) (AS zr) [])(a1:P U)(a2)(v18)(x17:P X0)(v19)(v20)(v21)(v22)(v23)(v24)(v25)(v26)(v27)(v28)(v29)(v30)(v31)(v32)(v33)(v34)(v35)(x38:X0)(v36)(r51)(h49:(A3 ([]:P U).length a1.length 8)=T)(h50:(A3 a1.length ([v18]:P U).length 8)=T)(h51:rec_ (⟨(⟨(⟨(⟨v19,v20⟩:Xl),v21⟩:Xd),(⟨v22,v23⟩:X1),v24,(⟨v25,v26⟩:Xh),(⟨v27,v28,v29,v30⟩:Xm)⟩:X4),v31,v32,v33,v36,v34,v35⟩:Xe) (a1++([v18]:P U)) (zI .i64 (a2+x38.Cost))=N r51):∀(f:W) (b0 b2:V) (b7 b8:V) (b9 b10:V),Ab Z GY (EH a1 a2 v18 x17 x38 r51) f [b0,T,b2,L,T,T,L,b7,b8,b9,b10,L] (Bl a1 a2 v18 x17 x38 (vc (.own 8704)) (vc (.own 8704)) (vc (.own 8704)) b0 T b2 L T T L b7 b8 b9 b10 L [(99999999999,[aI v19,aL (Y zC v20),aL (Y zD v21),aL (Y X7.row v22),aL (Y X2.row v23),aL (Y X6.row v24),aI v25,aB v26,aI v27,aI v28,aI v29,aL (Y rI v30),aL (Y (rL X0.row) v31),aL (Y (rL (rL (rL rB))) v32),aL (Y rI v33),.own 90000,aI v34,aB v35]),(11,(dm x38.row))] [(90000,1,Y rI v36),(8704,1,Y rI ([]:P U)),(8960,1,Y rI ([v18]:P U))]):=by
 intro f
 induction f with
 | zero=>intro b0 b2 b7 b8 b9 b10 h; simp at h
 | succ f ih=>
  intro b0 b2 b7 b8 b9 b10;refine Ad ⟨?_,?_,?_,?_,?_,?_,?_,?_,?_,?_,?_,?_,⟨⟩⟩<;>try first | (intro h; cases h; done) | (intro _ hw; simp at hw; done) | (intro h0 hw; obtain rfl:=hz h0 rfl; (try obtain rfl:=hq hw 7 rfl rfl); (try obtain rfl:=hq hw 8 rfl rfl); (try obtain rfl:=hq hw 9 rfl rfl); refine np ?_; simp only[Bl,A5,A6,A1,C,E,F,G,H,J]; exact ih _ _ _ _ _ _)
  ·intro h0 hw;obtain rfl:=hq hw 2 rfl rfl;refine np ?_;try simp only[h49,Bl,A5,A6,A1,C,E,F,G,H,J]
   exact aF rec_ h_rec a1 a2 v18 x17 v19 v20 v21 v22 v23 v24 v25 v26 v27 v28 v29 v30 v31 v32 v33 v34 v35 x38 v36 r51 h49 h50 h51 _ b0 b7 b8 b9 b10
theorem A09(rec_:Xe→(P U)→U→Q Xe)(h_rec:∀(a0:Xe) (a1:P U) (a2:U) zr,rec_ a0 a1 a2=N zr→FCz Z 139 [.p,.d (.sc (.sl (Y rI a1))),.d (.sc (.int .i64 a2))] (AR a0) (AS a0) (AR zr) (AS zr) [])(a1:P U)(a2)(v18)(x17:P X0)(v19)(v20)(v21)(v22)(v23)(v24)(v25)(v26)(v27)(v28)(v29)(v30)(v31)(v32)(v33)(v34)(v35)(x38:X0)(v36)(r51)(h49:(A3 ([]:P U).length a1.length 8)=T)(h50:(A3 a1.length ([v18]:P U).length 8)=T)(h51:rec_ (⟨(⟨(⟨(⟨v19,v20⟩:Xl),v21⟩:Xd),(⟨v22,v23⟩:X1),v24,(⟨v25,v26⟩:Xh),(⟨v27,v28,v29,v30⟩:Xm)⟩:X4),v31,v32,v33,v36,v34,v35⟩:Xe) (a1++([v18]:P U)) (zI .i64 (a2+x38.Cost))=N r51):∀(f:W) (b0 b2:V) (b4 b7:V) (b8 b9 b10:V),Ab Z GY (EH a1 a2 v18 x17 x38 r51) f [b0,T,b2,L,b4,L,L,b7,b8,b9,b10,L] (Bl a1 a2 v18 x17 x38 (vc (.own 8704)) (vc (.own 8704)) (vc (.own 8704)) b0 T b2 L b4 L L b7 b8 b9 b10 L [(99999999999,[aI v19,aL (Y zC v20),aL (Y zD v21),aL (Y X7.row v22),aL (Y X2.row v23),aL (Y X6.row v24),aI v25,aB v26,aI v27,aI v28,aI v29,aL (Y rI v30),aL (Y (rL X0.row) v31),aL (Y (rL (rL (rL rB))) v32),aL (Y rI v33),.own 90000,aI v34,aB v35]),(11,(dm x38.row))] [(90000,1,Y rI v36),(8704,1,Y rI ([]:P U))]):=by
 intro f
 induction f with
 | zero=>intro b0 b2 b4 b7 b8 b9 b10 h; simp at h
 | succ f ih=>
  intro b0 b2 b4 b7 b8 b9 b10;refine Ad ⟨?_,?_,?_,?_,?_,?_,?_,?_,?_,?_,?_,?_,⟨⟩⟩<;>try first | (intro h; cases h; done) | (intro _ hw; simp at hw; done) | (intro h0 hw; obtain rfl:=hz h0 rfl; (try obtain rfl:=hq hw 7 rfl rfl); (try obtain rfl:=hq hw 8 rfl rfl); (try obtain rfl:=hq hw 9 rfl rfl); refine np ?_; simp only[Bl,A5,A6,A1,C,E,F,G,H,J]; exact ih _ _ _ _ _ _ _)
  ·intro h0 hw;obtain rfl:=hq hw 2 rfl rfl;refine np ?_;try simp only[h49,Bl,A5,A6,A1,C,E,F,G,H,J]
   exact A08 rec_ h_rec a1 a2 v18 x17 v19 v20 v21 v22 v23 v24 v25 v26 v27 v28 v29 v30 v31 v32 v33 v34 v35 x38 v36 r51 h49 h50 h51 _ b0 b4 b7 b8 b9 b10
  ·intro h0 hw;obtain rfl:=hq hw 4 rfl rfl;refine np ?_;try simp only[Bl,A5,A6,A1,C,E,F,G,H,J]
   refine Am (es:=Y rI ([v18]:P U)) X (by simp only[St.fresh,zF,zG,Ah]; simp[AV.cells,V1.cells,AC.uses]) ?_;try simp only[A1,C,E,F,G,H,J]
   exact aG rec_ h_rec a1 a2 v18 x17 v19 v20 v21 v22 v23 v24 v25 v26 v27 v28 v29 v30 v31 v32 v33 v34 v35 x38 v36 r51 h49 h50 h51 _ b0 b2 b7 b8 b9 b10
theorem A1a(rec_:Xe→(P U)→U→Q Xe)(h_rec:∀(a0:Xe) (a1:P U) (a2:U) zr,rec_ a0 a1 a2=N zr→FCz Z 139 [.p,.d (.sc (.sl (Y rI a1))),.d (.sc (.int .i64 a2))] (AR a0) (AS a0) (AR zr) (AS zr) [])(a1:P U)(a2)(v18)(x17:P X0)(v19)(v20)(v21)(v22)(v23)(v24)(v25)(v26)(v27)(v28)(v29)(v30)(v31)(v32)(v33)(v34)(v35)(x38:X0)(v36)(r51)(h49:(A3 ([]:P U).length a1.length 8)=T)(h50:(A3 a1.length ([v18]:P U).length 8)=T)(h51:rec_ (⟨(⟨(⟨(⟨v19,v20⟩:Xl),v21⟩:Xd),(⟨v22,v23⟩:X1),v24,(⟨v25,v26⟩:Xh),(⟨v27,v28,v29,v30⟩:Xm)⟩:X4),v31,v32,v33,v36,v34,v35⟩:Xe) (a1++([v18]:P U)) (zI .i64 (a2+x38.Cost))=N r51):∀(f:W) (b0 b2:V) (b7 b8:V) (b9 b10:V),Ab Z GY (EH a1 a2 v18 x17 x38 r51) f [b0,L,b2,L,T,T,L,b7,b8,b9,b10,L] (Bl a1 a2 v18 x17 x38 (vc (.own 8704)) (vc (.own 8704)) (vc (.own 8704)) b0 L b2 L T T L b7 b8 b9 b10 L [(99999999999,[aI v19,aL (Y zC v20),aL (Y zD v21),aL (Y X7.row v22),aL (Y X2.row v23),aL (Y X6.row v24),aI v25,aB v26,aI v27,aI v28,aI v29,aL (Y rI v30),aL (Y (rL X0.row) v31),aL (Y (rL (rL (rL rB))) v32),aL (Y rI v33),.own 90000,aI v34,aB v35]),(11,(dm x38.row))] [(90000,1,Y rI v36),(8960,1,Y rI ([v18]:P U))]):=by
 intro f
 induction f with
 | zero=>intro b0 b2 b7 b8 b9 b10 h; simp at h
 | succ f ih=>
  intro b0 b2 b7 b8 b9 b10;refine Ad ⟨?_,?_,?_,?_,?_,?_,?_,?_,?_,?_,?_,?_,⟨⟩⟩<;>try first | (intro h; cases h; done) | (intro _ hw; simp at hw; done) | (intro h0 hw; obtain rfl:=hz h0 rfl; (try obtain rfl:=hq hw 7 rfl rfl); (try obtain rfl:=hq hw 8 rfl rfl); (try obtain rfl:=hq hw 9 rfl rfl); refine np ?_; simp only[Bl,A5,A6,A1,C,E,F,G,H,J]; exact ih _ _ _ _ _ _)
  ·intro h0 hw;refine⟨[],[(O,.keep [0,1,2,6,10,11,103,104,105,135,136,137,138,139,140,141,142,143,144,145,146] [99999999999,11] [90000,8704,8960])],X,X,?_⟩;try simp only[Bl,A5,A6,List.nil_append,List.cons_append,A1,C,E,F,G,H,J]
   refine Am (es:=Y rI ([]:P U)) X (by simp only[St.fresh,zF,zG,Ah]; simp[AV.cells,V1.cells,AC.uses]) ?_;try simp only[A1,C,E,F,G,H,J]
   exact aG rec_ h_rec a1 a2 v18 x17 v19 v20 v21 v22 v23 v24 v25 v26 v27 v28 v29 v30 v31 v32 v33 v34 v35 x38 v36 r51 h49 h50 h51 _ b0 b2 b7 b8 b9 b10
theorem A1b(rec_:Xe→(P U)→U→Q Xe)(h_rec:∀(a0:Xe) (a1:P U) (a2:U) zr,rec_ a0 a1 a2=N zr→FCz Z 139 [.p,.d (.sc (.sl (Y rI a1))),.d (.sc (.int .i64 a2))] (AR a0) (AS a0) (AR zr) (AS zr) [])(a1:P U)(a2)(v18)(x17:P X0)(v19)(v20)(v21)(v22)(v23)(v24)(v25)(v26)(v27)(v28)(v29)(v30)(v31)(v32)(v33)(v34)(v35)(x38:X0)(v36)(r51)(h49:(A3 ([]:P U).length a1.length 8)=T)(h50:(A3 a1.length ([v18]:P U).length 8)=T)(h51:rec_ (⟨(⟨(⟨(⟨v19,v20⟩:Xl),v21⟩:Xd),(⟨v22,v23⟩:X1),v24,(⟨v25,v26⟩:Xh),(⟨v27,v28,v29,v30⟩:Xm)⟩:X4),v31,v32,v33,v36,v34,v35⟩:Xe) (a1++([v18]:P U)) (zI .i64 (a2+x38.Cost))=N r51):∀(f:W) (b0 b2:V) (b4 b7:V) (b8 b9 b10:V),Ab Z GY (EH a1 a2 v18 x17 x38 r51) f [b0,L,b2,L,b4,L,L,b7,b8,b9,b10,L] (Bl a1 a2 v18 x17 x38 (vc (.own 8704)) (vc (.own 8704)) (vc (.own 8704)) b0 L b2 L b4 L L b7 b8 b9 b10 L [(99999999999,[aI v19,aL (Y zC v20),aL (Y zD v21),aL (Y X7.row v22),aL (Y X2.row v23),aL (Y X6.row v24),aI v25,aB v26,aI v27,aI v28,aI v29,aL (Y rI v30),aL (Y (rL X0.row) v31),aL (Y (rL (rL (rL rB))) v32),aL (Y rI v33),.own 90000,aI v34,aB v35]),(11,(dm x38.row))] [(90000,1,Y rI v36)]):=by
 intro f
 induction f with
 | zero=>intro b0 b2 b4 b7 b8 b9 b10 h; simp at h
 | succ f ih=>
  intro b0 b2 b4 b7 b8 b9 b10;refine Ad ⟨?_,?_,?_,?_,?_,?_,?_,?_,?_,?_,?_,?_,⟨⟩⟩<;>try first | (intro _ hw; simp at hw; done) | (intro h0 hw; obtain rfl:=hz h0 rfl; (try obtain rfl:=hq hw 7 rfl rfl); (try obtain rfl:=hq hw 8 rfl rfl); (try obtain rfl:=hq hw 9 rfl rfl); refine np ?_; simp only[Bl,A5,A6,A1,C,E,F,G,H,J]; exact ih _ _ _ _ _ _ _)
  ·intro h0 hw;refine np ?_;try simp only[Bl,A5,A6,A1,C,E,F,G,H,J]
   refine Am (es:=Y rI ([]:P U)) X (by simp only[St.fresh,zF,zG,Ah]; simp[AV.cells,V1.cells,AC.uses]) ?_;try simp only[A1,C,E,F,G,H,J]
   exact A09 rec_ h_rec a1 a2 v18 x17 v19 v20 v21 v22 v23 v24 v25 v26 v27 v28 v29 v30 v31 v32 v33 v34 v35 x38 v36 r51 h49 h50 h51 _ b0 b2 b4 b7 b8 b9 b10
  ·intro h0 hw;obtain rfl:=hq hw 4 rfl rfl;refine np ?_;try simp only[Bl,A5,A6,A1,C,E,F,G,H,J]
   refine Am (es:=Y rI ([v18]:P U)) X (by simp only[St.fresh,zF,zG,Ah]; simp[AV.cells,V1.cells,AC.uses]) ?_;try simp only[A1,C,E,F,G,H,J]
   exact A1a rec_ h_rec a1 a2 v18 x17 v19 v20 v21 v22 v23 v24 v25 v26 v27 v28 v29 v30 v31 v32 v33 v34 v35 x38 v36 r51 h49 h50 h51 _ b0 b2 b7 b8 b9 b10
def eM:=fun a1 a2 (a0:Xe) v4 (k_:U→(P X0)→Q Xe)=>∀{v6 v7} {zr},k_ v6 v7=N zr→Kh Z 139 Kt 18 [0,1,2,7,45,46,47] [99999999999] [90000,2816] ⟨[(0,vc (.pb 99999999999 0)),pL 1 rI a1,pI 2 a2,pW 7 2816,pL 45 rI a1,pI 46 (a1.length:U),pI 47 v6],[(99999999999,([aI a0.h.Forecast.Tide.Mean,aM zC a0.h.Forecast.Tide.Parts,aM zD a0.h.Forecast.Surges,aM X7.row a0.h.Chart.Points,aM X2.row a0.h.Chart.Segments,aM X6.row a0.h.Fleet,aI a0.h.Regime.Gap,aB a0.h.Regime.NoMeet]++dm a0.h.Crew.row++ [aM (rL X0.row) a0.lists,aL (Y (rL (rL (rL rB))) a0.clash),aM rI a0.rest,.own 90000,aI a0.cost,aB v4]))],[(90000,1,Y rI a0.best),(2816,4,Y X0.row v7)]⟩ (D2 [] [] (AR zr) (AS zr))
def eN:=fun a1 a2 v18 x17 v19 v20 v21 v22 v23 v24 v25 v26 v27 v28 v29 v30 v31 v32 v33 v34 v35 (x38:X0) v36 (k_:V→U→Q Xe)=>∀{v39 v40} {zr},k_ v39 v40=N zr→Kh Z 139 Kt 63 [0,1,2,6,10,11,12,103,104,105,110,111,112] [99999999999,11] [90000] ⟨[(0,vc (.pb 99999999999 0)),pL 1 rI a1,pI 2 a2,pI 6 (a1.length:U),pI 10 v18,pB 11,(12,vc (aB v39)),pL 103 X0.row x17,pI 104 (x17.length:U),pI 105 v18,pL 110 rI a1,pI 111 (a1.length:U),pI 112 v40],[(99999999999,[aI v19,aM zC v20,aM zD v21,aM X7.row v22,aM X2.row v23,aM X6.row v24,aI v25,aB v26,aI v27,aI v28,aI v29,aM rI v30,aM (rL X0.row) v31,aL (Y (rL (rL (rL rB))) v32),aM rI v33,.own 90000,aI v34,aB v35]),(11,(dm x38.row))],[(90000,1,Y rI v36)]⟩ (D2 [] [] (AR zr) (AS zr))
def U4:=fun a1 a2 x17 (k_:U→U→(P Xc)→(P Xa)→(P X7)→(P X2)→(P X6)→U→V→U→U→U→(P U)→(P (P X0))→(P (P (P (P V))))→(P U)→U→V→(P U)→Q Xe)=>∀{v18 v19 v20 v21 v22 v23 v24 v25 v26 v27 v28 v29 v30 v31 v32 v33 v34 v35 v36} {zr},k_ v18 v19 v20 v21 v22 v23 v24 v25 v26 v27 v28 v29 v30 v31 v32 v33 v34 v35 v36=N zr→Kh Z 139 Kt 46 [0,1,2,6,103,104,105] [99999999999] [90000] ⟨[(0,vc (.pb 99999999999 0)),pL 1 rI a1,pI 2 a2,pI 6 (a1.length:U),pL 103 X0.row x17,pI 104 (x17.length:U),pI 105 v18],[(99999999999,[aI v19,aM zC v20,aM zD v21,aM X7.row v22,aM X2.row v23,aM X6.row v24,aI v25,aB v26,aI v27,aI v28,aI v29,aM rI v30,aM (rL X0.row) v31,aL (Y (rL (rL (rL rB))) v32),aM rI v33,.own 90000,aI v34,aB v35])],[(90000,1,Y rI v36)]⟩ (D2 [] [] (AR zr) (AS zr))
def eL:=fun a1 a2 (a0:Xe) (k_:V→Q Xe)=>∀{v4} {zr},k_ v4=N zr→Kh Z 139 Kt 8 [0,1,2,6] [99999999999] [90000] ⟨[(0,vc (.pb 99999999999 0)),pL 1 rI a1,pI 2 a2,pI 6 (a1.length:U)],[(99999999999,([aI a0.h.Forecast.Tide.Mean,aM zC a0.h.Forecast.Tide.Parts,aM zD a0.h.Forecast.Surges,aM X7.row a0.h.Chart.Points,aM X2.row a0.h.Chart.Segments,aM X6.row a0.h.Fleet,aI a0.h.Regime.Gap,aB a0.h.Regime.NoMeet]++dm a0.h.Crew.row++ [aM (rL X0.row) a0.lists,aL (Y (rL (rL (rL rB))) a0.clash),aM rI a0.rest,.own 90000,aI a0.cost,aB v4]))],[(90000,1,Y rI a0.best)]⟩ (D2 [] [] (AR zr) (AS zr))
theorem A1c{rec_:Xe→(P U)→U→Q Xe}(h_rec:∀(a0:Xe) (a1:P U) (a2:U) zr,rec_ a0 a1 a2=N zr→FCz Z 139 [.p,.d (.sc (.sl (Y rI a1))),.d (.sc (.int .i64 a2))] (AR a0) (AS a0) (AR zr) (AS zr) []){a1 a2 a0 v4}{n:W}:eM a1 a2 a0 v4 (D6 rec_ a1 a2 a0 v4 n):=by
 induction n with
 | zero=>intro _ _ r h; cases h
 | succ n ih=>
  intro v6 v7 r h σ hσ S hS
  conv at hS=>rhs; reduce
  try simp only[zB,zA,Au,UInt8.reduceOfNat] at hS
  subst hS;rw[D6] at h;refine AZ (AF ?_);obtain⟨h8,h⟩|⟨h8,h⟩:=ic h
  ·obtain⟨x9,h9,h⟩:=ob h;obtain⟨x10,h10,h⟩:=ob h;obtain⟨x11,h11,h⟩:=ob h;try simp only[hσ,h8,h9,h10,h11,C,E,F,G,H,J]
   refine Bn (es:=Y X0.row ([x11]:P X0)) ?_;obtain⟨h12,h⟩:=B5 h;try simp only[h8,h9,h10,h11,h12,C,E,F,G,H,J]
   refine ih h ?_ (by kernel_rfl);try simp only[h8,h9,h10,h11,h12,C,E,F,G,H,J,pL,aM,I]
  ·try simp only[hσ,h8,C,E,F,G,H,J]
   refine CF ?_;try simp only[h8,C,E,F,G,H,J]
   refine At ?_;obtain⟨r13,h13,h⟩:=ob h;try simp only[h8,C,E,F,G,H,J]
   refine Cg (Aq xz h13) ?_;obtain⟨r14,h14,h⟩:=ob h;try simp only[h8,C,E,F,G,H,J]
   refine PY (Aq yc h14) (by first | rfl | kernel_rfl) (Fg X) X (uf X) ?_;obtain⟨h15,h⟩|⟨h15,h⟩:=ic h
   ·try simp only[h8,h15,C,E,F,G,H,J]
    refine Bn (es:=Y rI ([]:P U)) ?_;obtain⟨h16,h⟩:=B5 h;try simp only[h8,h15,h16,C,E,F,G,H,J]
    cases h;exact⟨trivial,[5440],by decide,by decide,X,X⟩
   ·try simp only[h8,h15,C,E,F,G,H,J]
    cases h;exact⟨trivial,[90000],by decide,by decide,X,X⟩
theorem A1d{rec_:Xe→(P U)→U→Q Xe}(h_rec:∀(a0:Xe) (a1:P U) (a2:U) zr,rec_ a0 a1 a2=N zr→FCz Z 139 [.p,.d (.sc (.sl (Y rI a1))),.d (.sc (.int .i64 a2))] (AR a0) (AS a0) (AR zr) (AS zr) []){a1 a2 v18 x17 v19 v20 v21 v22 v23 v24 v25 v26 v27 v28 v29 v30 v31 v32 v33 v34 v35 x38 v36}{IN}(WI:U4 a1 a2 x17 IN){n:W}:eN a1 a2 v18 x17 v19 v20 v21 v22 v23 v24 v25 v26 v27 v28 v29 v30 v31 v32 v33 v34 v35 x38 v36 (Dq rec_ a1 a2 v18 x17 v19 v20 v21 v22 v23 v24 v25 v26 v27 v28 v29 v30 v31 v32 v33 v34 v35 x38 v36 IN n):=by
 induction n with
 | zero=>intro _ _ r h; cases h
 | succ n ih=>
  intro v39 v40 r h σ hσ S hS
  conv at hS=>rhs; reduce
  try simp only[zB,zA,Au,UInt8.reduceOfNat] at hS
  subst hS;rw[Dq] at h;refine AZ (AF ?_);obtain⟨h41,h⟩|⟨h41,h⟩:=ic h
  ·obtain⟨x42,h42,h⟩:=ob h;obtain⟨x43,h43,h⟩:=ob h;obtain⟨x44,h44,h⟩:=ob h;obtain⟨x45,h45,h⟩:=ob h;obtain⟨x46,h46,h⟩:=ob h;obtain⟨h47,h⟩|⟨h47,h⟩:=ic h
   ·try simp only[hσ,h41,h42,h43,h44,h45,h46,h47,C,E,F,G,H,J]
    refine ih h ?_ (by kernel_rfl);try simp only[h41,h42,h43,h44,h45,h46,h47,C,E,F,G,H,J,pL,aM,I]
   ·try simp only[hσ,h41,h42,h43,h44,h45,h46,h47,C,E,F,G,H,J]
    refine ih h ?_ (by kernel_rfl);try simp only[h41,h42,h43,h44,h45,h46,h47,C,E,F,G,H,J,pL,aM,I]
  ·obtain⟨h48,h⟩|⟨h48,h⟩:=ic h
   ·try simp only[hσ,h41,h48,C,E,F,G,H,J]
    obtain⟨h49,h⟩:=B5 h;obtain⟨h50,h⟩:=B5 h;obtain⟨r51,h51,h⟩:=ob h;refine DS (ks:= [0,1,2,6,10,11,103,104,105]) (bs:= [99999999999,11]) (rs:= [90000]) (τ:=(EH a1 a2 v18 x17 x38 r51)) X (A1b rec_ h_rec a1 a2 v18 x17 v19 v20 v21 v22 v23 v24 v25 v26 v27 v28 v29 v30 v31 v32 v33 v34 v35 x38 v36 r51 h49 h50 h51 _ L L L L L L L) ?_;simp only[EH,Bl,A5];try simp only[h41,h48,h49,h50,C,E,F,G,H,J]
    refine WI h ?_ (by kernel_rfl);try simp only[h41,h48,h49,h50,C,E,F,G,H,J,pL,aM,I]
   ·try simp only[hσ,h41,h48,C,E,F,G,H,J]
    refine WI h ?_ (by kernel_rfl);try simp only[h41,h48,C,E,F,G,H,J,pL,aM,I]
theorem A1e{rec_:Xe→(P U)→U→Q Xe}(h_rec:∀(a0:Xe) (a1:P U) (a2:U) zr,rec_ a0 a1 a2=N zr→FCz Z 139 [.p,.d (.sc (.sl (Y rI a1))),.d (.sc (.int .i64 a2))] (AR a0) (AS a0) (AR zr) (AS zr) []){a1 a2 x17}{n:W}:U4 a1 a2 x17 (El rec_ a1 a2 x17 n):=by
 induction n with
 | zero=>intro _ _ _ _ _ _ _ _ _ _ _ _ _ _ _ _ _ _ _ r h; cases h
 | succ n ih=>
  intro v18 v19 v20 v21 v22 v23 v24 v25 v26 v27 v28 v29 v30 v31 v32 v33 v34 v35 v36 r h σ hσ S hS
  conv at hS=>rhs; reduce
  try simp only[zB,zA,Au,UInt8.reduceOfNat] at hS
  subst hS;rw[El] at h;refine AZ (AF ?_);obtain⟨h37,h⟩|⟨h37,h⟩:=ic h
  ·obtain⟨x38,h38,h⟩:=ob h;try simp only[hσ,h37,h38,C,E,F,G,H,J]
   refine Cd ?_;try simp only[h37,h38,C,E,F,G,H,J]
   refine A1d h_rec ih h ?_ (by kernel_rfl);try simp only[h37,h38,C,E,F,G,H,J,pL,aM,I]
  ·try simp only[hσ,h37,C,E,F,G,H,J]
   cases h;exact⟨trivial,[90000],by decide,by decide,X,X⟩
theorem aH{rec_:Xe→(P U)→U→Q Xe}(h_rec:∀(a0:Xe) (a1:P U) (a2:U) zr,rec_ a0 a1 a2=N zr→FCz Z 139 [.p,.d (.sc (.sl (Y rI a1))),.d (.sc (.int .i64 a2))] (AR a0) (AS a0) (AR zr) (AS zr) []){a1 a2 a0}:eL a1 a2 a0 (Gu rec_ a1 a2 a0):=by
 intro v4 r h σ hσ;unfold Gu at h;have s0:= @Ai (Y X0.row ([]:P X0));have k0:= @A1c; have k1:= @A1e;exact gc
theorem kn:Ch Z 139=N ((H2 Z 139 Kt).strip,[],148):=by kernel_rfl
theorem yp(rec_:Xe→(P U)→U→Q Xe)(a0:Xe)(a1:P U)(a2:U)(r:Xe)(h_rec:∀(a0:Xe) (a1:P U) (a2:U) zr,rec_ a0 a1 a2=N zr→FCz Z 139 [.p,.d (.sc (.sl (Y rI a1))),.d (.sc (.int .i64 a2))] (AR a0) (AS a0) (AR zr) (AS zr) [])(h:PQ rec_ a0 a1 a2=N r):FCz Z 139 [.p,.d (.sc (.sl (Y rI a1))),.d (.sc (.int .i64 a2))] (AR a0) (AS a0) (AR r) (AS r) []:=by
 unfold PQ at h;refine OJ (σ:=⟨[(0,vc (.pb 99999999999 0)),(1,vc (aL (Y rI a1))),(2,vc (aI a2))],[(99999999999,[aI a0.h.Forecast.Tide.Mean,aL (Y zC a0.h.Forecast.Tide.Parts),aL (Y zD a0.h.Forecast.Surges),aL (Y X7.row a0.h.Chart.Points),aL (Y X2.row a0.h.Chart.Segments),aL (Y X6.row a0.h.Fleet),aI a0.h.Regime.Gap,aB a0.h.Regime.NoMeet,aI a0.h.Crew.Tugs,aI a0.h.Crew.Pilots,aI a0.h.Crew.Rest,aL (Y rI a0.h.Crew.Moves),aL (Y (rL X0.row) a0.lists),aL (Y (rL (rL (rL rB))) a0.clash),aL (Y rI a0.rest),.own 90000,aI a0.cost,aB a0.found])],[(90000,1,Y rI a0.best)]⟩) mixed kn X X X X ?_;refine Jk Kt ?_;intro S hS
 conv at hS=>rhs; reduce
 try simp only[zB,zA,Au,UInt8.reduceOfNat] at hS
 subst hS;try simp only[C,E,F,G,H,J]
 refine At ?_;obtain⟨h1,h⟩|⟨h1,h⟩:=ic h
 ·obtain⟨x2,h2,h⟩:=ob h;obtain⟨h3,h⟩|⟨h3,h⟩:=ic h
  ·try simp only[h1,h2,h3,C,E,F,G,H,J]
   cases h;exact⟨trivial,[90000],by decide,by decide,X,X⟩
  ·try simp only[h1,h2,h3,C,E,F,G,H,J]
   refine aH h_rec h ?_ (by kernel_rfl);try simp only[h1,h2,h3,C,E,F,G,H,J,pL,aM,I]
 ·try simp only[h1,C,E,F,G,H,J]
  refine aH h_rec h ?_ (by kernel_rfl);try simp only[h1,C,E,F,G,H,J,pL,aM,I]
theorem yq:∀(n:W) (a0:Xe) (a1:P U) (a2:U) (r:Xe),BK n a0 a1 a2=N r→FCz Z 139 [.p,.d (.sc (.sl (Y rI a1))),.d (.sc (.int .i64 a2))] (AR a0) (AS a0) (AR r) (AS r) []:=by
 intro n
 induction n with
 | zero=>intro _ _ _ r h; cases h
 | succ n ih=>intro a0 a1 a2 r h; rw[BK] at h; exact yp (BK n) a0 a1 a2 r ih h
theorem yo{a0}{a1}{a2}{r}(h:RU a0 a1 a2=N r):FCz Z 139 [.p,.d (.sc (.sl (Y rI a1))),.d (.sc (.int .i64 a2))] (AR a0) (AS a0) (AR r) (AS r) []:=yq bigN a0 a1 a2 r h
/- 92:spec_l16Best -/
def VK:Hw:=([(8,[1,4,5,6,7,8],[20],[896,1152,149440])],[(6,0,(O,.ownb 20 15 149440 1)),(30,2,(O,.frz 896)),(30,3,(O,.frz 1152)),(30,4,(O,.frz 3776))])
def eI:=fun a1 (a0:X4) r1 (k_:U→(P U)→Q ((P U) × U × V))=>∀{v3 v4} {zr},k_ v3 v4=N zr→Kh Z 92 VK 8 [1,4,5,6,7,8] [20] [896,1152,149440] ⟨[pL 1 (rL X0.row) a1,(4,vc (.nil)),pI 5 (0:U),(6,vc (aB L)),(7,vc (.pb 20 0)),pI 8 v3],[(20,([aI a0.Forecast.Tide.Mean,aM zC a0.Forecast.Tide.Parts,aM zD a0.Forecast.Surges,aM X7.row a0.Chart.Points,aM X2.row a0.Chart.Segments,aM X6.row a0.Fleet,aI a0.Regime.Gap,aB a0.Regime.NoMeet]++dm a0.Crew.row++ [aM (rL X0.row) a1,.own 896,.own 1152,.own 149440,aI (0:U),aB L]))],[(896,1,Y (rL (rL (rL rB))) r1),(1152,1,Y rI v4),(149440,1,Y rI ([]:P U))]⟩ (A7 [4,5,6] [.sc (.o 1 (Y rI zr.1)),.sc (.v (.int .i64 zr.2.1)),.sc (.v (.bool zr.2.2))])
theorem A1f{a1 a0 r1}{n:W}:eI a1 a0 r1 (IC a1 a0 r1 n):=by
 induction n with
 | zero=>intro _ _ r h; cases h
 | succ n ih=>
  intro v3 v4 r h σ hσ S hS
  conv at hS=>rhs; reduce
  try simp only[zB,zA,Au,UInt8.reduceOfNat] at hS
  subst hS;rw[IC] at h;refine AZ (AF ?_);obtain⟨h5,h⟩|⟨h5,h⟩:=ic h
  ·obtain⟨x6,h6,h⟩:=ob h;obtain⟨r7,h7,h⟩:=ob h;try simp only[hσ,h5,h6,C,E,F,G,H,J]
   refine AY (Aq yb h7) ?_;obtain⟨h8,h⟩|⟨h8,h⟩:=ic h
   ·try simp only[h5,h6,h8,C,E,F,G,H,J]
    cases h;trivial
   ·try simp only[h5,h6,h8,C,E,F,G,H,J]
    refine At ?_;obtain⟨x9,h9,h⟩:=ob h;have h9n:=B7 h9;obtain⟨x10,h10,h⟩:=ob h;obtain⟨x11,h11,h⟩:=ob h;have h11n:=B7 h11;try simp only[h5,h6,h8,h9,h9n,h10,h11,C,E,F,G,H,J]
    refine Fj (row:=rI) (y:=(zI .i64 (x9+x10.Cost))) X X h11n X X (by rfl) ?_;try simp only[h5,h6,h8,h9,h9n,h10,h11,C,E,F,G,H,J]
    refine At ?_;try simp only[h5,h6,h8,h9,h9n,h10,h11,C,E,F,G,H,J]
    refine ih h ?_ (by kernel_rfl);try simp only[h5,h6,h8,h9,h9n,h10,h11,C,E,F,G,H,J,pL,aM,I]
  ·try simp only[hσ,h5,C,E,F,G,H,J]
   refine Bn (es:=Y rI ([]:P U)) ?_;try simp only[h5,C,E,F,G,H,J]
   refine CF ?_;try simp only[h5,C,E,F,G,H,J]
   refine CF ?_;try simp only[h5,C,E,F,G,H,J]
   refine CF ?_;try simp only[h5,C,E,F,G,H,J]
   refine PX ?_;obtain⟨r12,h12,h⟩:=ob h;try simp only[h5,C,E,F,G,H,J]
   refine Gx (yo h12) 20 [149440] rfl X X X (by decide) X X X ?_;obtain⟨h13,h⟩|⟨h13,h⟩:=ic h
   ·try simp only[h5,h13,C,E,F,G,H,J]
    refine At ?_;try simp only[h5,h13,C,E,F,G,H,J]
    cases h;trivial
   ·try simp only[h5,h13,C,E,F,G,H,J]
    cases h;trivial
instance B1s:Ct 92 (∀{a0} {a1} {r},Nh a0 a1=N r→FC Z 92 [.ag (X4.row a0),.sc (.sl (Y (rL X0.row) a1))] [.sc (.o 1 (Y rI r.1)),.sc (.v (.int .i64 r.2.1)),.sc (.v (.bool r.2.2))]):=by
 refine⟨fun{a0} {a1} {r} h=> ?_⟩;unfold Nh at h;refine A4 mixed VK [4,5,6] 74 ?_;intro S hS
 conv at hS=>rhs; reduce
 try simp only[zB,zA,Au,UInt8.reduceOfNat] at hS
 subst hS;simp only[C,E,F,G,H,J];try simp only[C,E,F,G,H,J]
 refine C5 ?_;try simp only[C,E,F,G,H,J]
 refine At ?_;obtain⟨r1,h1,h⟩:=ob h;try simp only[C,E,F,G,H,J]
 refine Cg (Aq yn h1) ?_;obtain⟨n2,hn2,h⟩:=ob h;try simp only[C,E,F,G,H,J]
 refine Q0 (m:= .row 18 1 (Y rI (List.replicate n2 (0:U)))) (XO X X hn2 X (QG X)) X (SD X) ?_;try simp only[C,E,F,G,H,J]
 refine C5 ?_;try simp only[C,E,F,G,H,J]
 refine Fi (cs':= [aI a0.Forecast.Tide.Mean,aL (Y zC a0.Forecast.Tide.Parts),aL (Y zD a0.Forecast.Surges),aL (Y X7.row a0.Chart.Points),aL (Y X2.row a0.Chart.Segments),aL (Y X6.row a0.Fleet),aI a0.Regime.Gap,aB a0.Regime.NoMeet,aI a0.Crew.Tugs,aI a0.Crew.Pilots,aI a0.Crew.Rest,aL (Y rI a0.Crew.Moves),aL (Y (rL X0.row) a1),.own 896,.own 1152,.own 149440,aI (0:U),aB L]) X X X X ?_;try simp only[C,E,F,G,H,J]
 refine A1f h ?_ (by kernel_rfl);try simp only[C,E,F,G,H,J,pL,aM,I]
/- 48:spec_l18Serves -/
def VL:Hw:=([(8,[1,3,7,14,15,16],[3],[832])],[])
def eT:=fun a1 a2 (a0:X4) (k_:U→(P (P X0))→Q V)=>∀{v1 v2} {zr},k_ v1 v2=N zr→Kh Z 48 VL 8 [1,3,7,14,15,16] [3] [832] ⟨[pL 1 (rL X0.row) a1,pB 3,pW 7 832,pL 14 rI a2,pI 15 (a2.length:U),pI 16 v1],[(3,([aI a0.Forecast.Tide.Mean,aM zC a0.Forecast.Tide.Parts,aM zD a0.Forecast.Surges,aM X7.row a0.Chart.Points,aM X2.row a0.Chart.Segments,aM X6.row a0.Fleet,aI a0.Regime.Gap,aB a0.Regime.NoMeet]++dm a0.Crew.row))],[(832,1,Y (rL X0.row) v2)]⟩ (A7 [6] [.sc (.v (.bool zr))])
theorem A1g{a1 a2 a0}{n:W}:eT a1 a2 a0 (IG a1 a2 a0 n):=by
 induction n with
 | zero=>intro _ _ r h; cases h
 | succ n ih=>
  intro v1 v2 r h σ hσ;rw[IG] at h;have s0:=fun(x5:P X0)=> @Ai (Y (rL X0.row) ([x5]:P (P X0)))
  exact gc
instance B1w:Ct 48 (∀{a0} {a1} {a2} {r},Nm a0 a1 a2=N r→FC Z 48 [.ag (X4.row a0),.sc (.sl (Y (rL X0.row) a1)),.sc (.sl (Y rI a2))] [.sc (.v (.bool r))]):=by
 refine⟨fun h=> ?_⟩;unfold Nm at h;refine A4 mixed VL [6] 36 ?_;have s0:= @Ai (Y (rL X0.row) ([]:P (P X0)));have k0:= @A1g;exact gc
/- 72:spec_l18Table -/
def VM:Hw:=([(10,[1,2,5,6,7],[2],[640,704])],[])
def eU:=fun a1 (a0:X4) r1 (k_:U→(P V)→Q (P V))=>∀{v2 v3} {zr},k_ v2 v3=N zr→Kh Z 72 VM 10 [1,2,5,6,7] [2] [640,704] ⟨[pL 1 zH a1,pB 2,pW 5 640,pW 6 704,pI 7 v2],[(2,([aI a0.Forecast.Tide.Mean,aM zC a0.Forecast.Tide.Parts,aM zD a0.Forecast.Surges,aM X7.row a0.Chart.Points,aM X2.row a0.Chart.Segments,aM X6.row a0.Fleet,aI a0.Regime.Gap,aB a0.Regime.NoMeet]++dm a0.Crew.row))],[(640,1,Y (rL X0.row) r1),(704,1,Y rB v3)]⟩ (A7 [4] [.sc (.o 1 (Y rB zr))])
theorem A1i{a1 a0 r1}{n:W}:eU a1 a0 r1 (IH a1 a0 r1 n):=by
 induction n with
 | zero=>intro _ _ r h; cases h
 | succ n ih=>
  intro v2 v3 r h σ hσ;rw[IH] at h;have s0:=fun(r7:V)=> @Ai (Y rB ([r7]:P V))
  exact gc
instance B1x:Ct 72 (∀{a0} {a1} {r},Nn a0 a1=N r→FC Z 72 [.ag (X4.row a0),.sc (.sl (Y zH a1))] [.sc (.o 1 (Y rB r))]):=by
 refine⟨fun h=> ?_⟩;unfold Nn at h;refine A4 mixed VM [4] 30 ?_;have s0:= @Ai (Y rB ([]:P V));have k0:= @A1i;exact gc
/- 93:spec_l13Less -/
def VN:Hw:=([(6,[1,7,8,9],[],[])],[])
def eA:=fun a1 a0 (k_:U→Q V)=>∀{v1} {zr},k_ v1=N zr→Kh Z 93 VN 6 [1,7,8,9] [] [] ⟨[pL 1 rI a1,pL 7 rI a0,pI 8 (a0.length:U),pI 9 v1],[],[]⟩ (A7 [4] [.sc (.v (.bool zr))])
theorem A1j{a1 a0}{n:W}:eA a1 a0 (PM a1 a0 n):=by
 induction n with
 | zero=>intro _ r h; cases h
 | succ n ih=>
  intro v1 r h σ hσ;rw[PM] at h;exact gc
instance B1p:Ct 93 (∀{a0} {a1} {r},PL a0 a1=N r→FC Z 93 [.sc (.sl (Y rI a0)),.sc (.sl (Y rI a1))] [.sc (.v (.bool r))]):=by
 refine⟨fun h=> ?_⟩;unfold PL at h;refine A4 mixed VN [4] 27 ?_;have k0:= @A1j;exact gc
/- 50:spec_l18Pick -/
def Ku:Hw:=([(10,[0,2,3,9,10,16,17,18],[],[]),(31,[0,2,3,9,10,13,14,16,17,18],[],[]),(34,[0,2,3,9,10,13,14,16,17,18,41],[],[]),(37,[0,2,3,9,10,13,14,16,17,18],[],[]),(39,[0,2,3,9,10,13,16,17,18,59],[],[])],[(3,1,(O,.frz 960)),(28,3,(O,.frz 1792))])
def eS:=fun a0 a2 v14 v2 v11 r9 a1 v4 (k_:V→Q (P U))=>∀{v21} {zr},k_ v21=N zr→Kh Z 50 Ku 39 [0,2,3,9,10,13,16,17,18,59] [] [] ⟨[pI 0 a0,(2,vc (aB a2)),(3,vc (aB v14)),pL 9 rI v2,(10,vc (aB v11)),pL 13 rI r9,pL 16 rB a1,pI 17 (a1.length:U),pI 18 v4,(59,vc (aB v21))],[],[]⟩ (A7 [8] [.sc (.v (.sl (Y rI zr)))])
def eR:=fun a0 a2 v14 v2 v11 r9 a1 v4 (k_:V→Q (P U))=>∀{v17} {zr},k_ v17=N zr→Kh Z 50 Ku 37 [0,2,3,9,10,13,14,16,17,18] [] [] ⟨[pI 0 a0,(2,vc (aB a2)),(3,vc (aB v14)),pL 9 rI v2,(10,vc (aB v11)),pL 13 rI r9,(14,vc (aB v17)),pL 16 rB a1,pI 17 (a1.length:U),pI 18 v4],[],[]⟩ (A7 [8] [.sc (.v (.sl (Y rI zr)))])
def eQ:=fun a0 a2 v2 v11 r9 v12 a1 v4 (k_:V→V→Q (P U))=>∀{v14 v15} {zr},k_ v14 v15=N zr→Kh Z 50 Ku 34 [0,2,3,9,10,13,14,16,17,18,41] [] [] ⟨[pI 0 a0,(2,vc (aB a2)),(3,vc (aB v14)),pL 9 rI v2,(10,vc (aB v11)),pL 13 rI r9,(14,vc (aB v12)),pL 16 rB a1,pI 17 (a1.length:U),pI 18 v4,(41,vc (aB v15))],[],[]⟩ (A7 [8] [.sc (.v (.sl (Y rI zr)))])
def eP:=fun a0 a2 v1 v2 r9 a1 v4 (k_:V→V→Q (P U))=>∀{v11 v12} {zr},k_ v11 v12=N zr→Kh Z 50 Ku 31 [0,2,3,9,10,13,14,16,17,18] [] [] ⟨[pI 0 a0,(2,vc (aB a2)),(3,vc (aB v1)),pL 9 rI v2,(10,vc (aB v11)),pL 13 rI r9,(14,vc (aB v12)),pL 16 rB a1,pI 17 (a1.length:U),pI 18 v4],[],[]⟩ (A7 [8] [.sc (.v (.sl (Y rI zr)))])
def KZ:=fun a0 a2 a1 (k_:V→(P U)→V→U→Q (P U))=>∀{v1 v2 v3 v4} {zr},k_ v1 v2 v3 v4=N zr→Kh Z 50 Ku 10 [0,2,3,9,10,16,17,18] [] [] ⟨[pI 0 a0,(2,vc (aB a2)),(3,vc (aB v1)),pL 9 rI v2,(10,vc (aB v3)),pL 16 rB a1,pI 17 (a1.length:U),pI 18 v4],[],[]⟩ (A7 [8] [.sc (.v (.sl (Y rI zr)))])
theorem A1k{a0 a2 v14 v2 v11 r9 a1 v4}{BA}(Qd:KZ a0 a2 a1 BA):eS a0 a2 v14 v2 v11 r9 a1 v4 (IF a0 a2 v14 v2 v11 r9 a1 v4 BA):=by
 intro v21 r h σ hσ;unfold IF at h;have k0:= @Qd;exact gc
theorem A1l{a0 a2 v14 v2 v11 r9 a1 v4}{BA}(Qd:KZ a0 a2 a1 BA):eR a0 a2 v14 v2 v11 r9 a1 v4 (Km a0 a2 v14 v2 v11 r9 a1 v4 BA):=by
 intro v17 r h σ hσ;unfold Km at h;have k0:= @A1k;exact gc
theorem A1m{a0 a2 v2 v11 r9 v12 a1 v4}{BA}(Qd:KZ a0 a2 a1 BA):eQ a0 a2 v2 v11 r9 v12 a1 v4 (Kl a0 a2 v2 v11 r9 v12 a1 v4 BA):=by
 intro v14 v15 r h σ hσ;unfold Kl at h;have k0:= @A1l;exact gc
theorem A1n{a0 a2 v1 v2 r9 a1 v4}{BA}(Qd:KZ a0 a2 a1 BA):eP a0 a2 v1 v2 r9 a1 v4 (Kk a0 a2 v1 v2 r9 a1 v4 BA):=by
 intro v11 v12 r h σ hσ;unfold Kk at h;have k0:= @A1m;exact gc
theorem A1o{a0 a2 a1}{n:W}:KZ a0 a2 a1 (Ff a0 a2 a1 n):=by
 induction n with
 | zero=>intro _ _ _ _ r h; cases h
 | succ n ih=>
  intro v1 v2 v3 v4 r h σ hσ;rw[Ff] at h;have k0:= @A1n;exact gc
instance B1v:Ct 50 (∀{a0} {a1} {a2} {a3} {r},Nl a0 a1 a2 a3=N r→FC Z 50 [.sc (.int .i64 a0),.sc (.sl (Y rB a1)),.sc (.bool a2),.sc (.bool a3)] [.sc (.v (.sl (Y rI r)))]):=by
 refine⟨fun h=> ?_⟩;unfold Nl at h;refine A4 mixed Ku [8] 65 ?_;have s0:= @Ai (Y rI ([]:P U));have k0:= @A1o;exact gc
/- 29:spec_RefusalOf -/
def oW:Hw:=([],[(11,5,(O,.frz 832))])
instance B0x:Ct 29 (∀{a0} {a1} {r},MZ a0 a1=N r→FC Z 29 [.ag (X4.row a0),.sc (.sl (Y zH a1))] [.sc (.v (.sl (Y rI r)))]):=by
 refine⟨fun h=> ?_⟩;unfold MZ at h;refine A4 mixed oW [4] 15 ?_;exact gc
/- 30:spec_Join -/
def Sd:Hw:=([(8,[1,5,8,9,10],[],[]),(25,[1,5,7,8,9,10],[],[])],[])
def dT:=fun a1 x4 a0 v2 (k_:(P UInt8)→Q (P UInt8))=>∀{v7} {zr},k_ v7=N zr→Kh Z 30 Sd 25 [1,5,7,8,9,10] [] [] ⟨[(1,vc (aS a1)),(5,vc (aS v7)),(7,vc (aS x4)),pL 8 rS a0,pI 9 (a0.length:U),pI 10 v2],[],[]⟩ (A7 [4] [.sc (.v (.str zr))])
def TR:=fun a1 a0 (k_:(P UInt8)→U→Q (P UInt8))=>∀{v1 v2} {zr},k_ v1 v2=N zr→Kh Z 30 Sd 8 [1,5,8,9,10] [] [] ⟨[(1,vc (aS a1)),(5,vc (aS v1)),pL 8 rS a0,pI 9 (a0.length:U),pI 10 v2],[],[]⟩ (A7 [4] [.sc (.v (.str zr))])
theorem A1p{a1 x4 a0 v2}{Qq}(pA:TR a1 a0 Qq):dT a1 x4 a0 v2 (K6 a1 x4 a0 v2 Qq):=by
 intro v7 r h σ hσ;unfold K6 at h;have k0:= @pA;exact gc
theorem A1q{a1 a0}{n:W}:TR a1 a0 (Gd a1 a0 n):=by
 induction n with
 | zero=>intro _ _ r h; cases h
 | succ n ih=>
  intro v1 v2 r h σ hσ;rw[Gd] at h;have k0:= @A1p;exact gc
instance B0k:Ct 30 (∀{a0} {a1} {r},MO a0 a1=N r→FC Z 30 [.sc (.sl (Y rS a0)),.sc (.str a1)] [.sc (.v (.str r))]):=by
 refine⟨fun h=> ?_⟩;unfold MO at h;refine A4 mixed Sd [4] 25 ?_;have k0:= @A1q;exact gc
/- 7:spec_RefusalLine -/
def VP:Hw:=([(16,[1,2,5,15,16,17],[2],[768])],[])
def de:=fun a1 r3 (a0:X4) (k_:U→(P (P UInt8))→Q (P UInt8))=>∀{v4 v5} {zr},k_ v4 v5=N zr→Kh Z 7 VP 16 [1,2,5,15,16,17] [2] [768] ⟨[pL 1 zH a1,pB 2,pW 5 768,pL 15 rI r3,pI 16 (r3.length:U),pI 17 v4],[(2,([aI a0.Forecast.Tide.Mean,aM zC a0.Forecast.Tide.Parts,aM zD a0.Forecast.Surges,aM X7.row a0.Chart.Points,aM X2.row a0.Chart.Segments,aM X6.row a0.Fleet,aI a0.Regime.Gap,aB a0.Regime.NoMeet]++dm a0.Crew.row))],[(768,1,Y rS v5)]⟩ (A7 [4] [.sc (.v (.str zr))])
theorem A1r{a1 r3 a0}{n:W}:de a1 r3 a0 (Gf a1 r3 a0 n):=by
 induction n with
 | zero=>intro _ _ r h; cases h
 | succ n ih=>
  intro v4 v5 r h σ hσ;rw[Gf] at h;have s0:=fun(x9:X6)=> @Ai (Y rS ([x9.Name]:P (P UInt8)))
  exact gc
instance B0w:Ct 7 (∀{a0} {a1} {r},MY a0 a1=N r→FC Z 7 [.ag (X4.row a0),.sc (.sl (Y zH a1))] [.sc (.v (.str r))]):=by
 refine⟨fun h=> ?_⟩;unfold MY at h;refine A4 mixed VP [4] 40 ?_;have s0:= @Ai (Y rS ([]:P (P UInt8)));have k0:= @A1r;exact gc
/- 123:impl_within -/
instance A8n:Ct 123 (∀{a0} {a1} {a2} {r},BJ a0 a1 a2=N r→FC Z 123 [.sc (.int .i64 a0),.sc (.int .i64 a1),.sc (.int .i64 a2)] [.sc (.v (.bool r))]):=by
 refine⟨fun h=> ?_⟩;unfold BJ at h;refine A4 mixed h0 [6] 15 ?_;exact gc
/- 216:impl_isPeriod -/
instance A8e:Ct 216 (∀{a0} {r},JM a0=N r→FC Z 216 [.sc (.int .i64 a0)] [.sc (.v (.bool r))]):=by
 refine⟨fun h=> ?_⟩;unfold JM at h;refine A4 mixed h0 [2] 10 ?_;exact gc
/- 186:impl_PartOk -/
instance A7o:Ct 186 (∀{a0} {r},Lu a0=N r→FC Z 186 [.ag (zC a0)] [.sc (.v (.bool r))]):=by
 refine⟨fun h=> ?_⟩;unfold Lu at h;refine A4 mixed h0 [2] 19 ?_;exact gc
/- 157:impl_TideOk -/
def VQ:Hw:=([(14,[16,17,18],[],[])],[])
def cB:=fun(a0:Xl) (k_:U→Q V)=>∀{v4} {zr},k_ v4=N zr→Kh Z 157 VQ 14 [16,17,18] [] [] ⟨[pL 16 zC a0.Parts,pI 17 (a0.Parts.length:U),pI 18 v4],[],[]⟩ (A7 [2] [.sc (.v (.bool zr))])
theorem A1s{a0}{n:W}:cB a0 (HA a0 n):=by
 induction n with
 | zero=>intro _ r h; cases h
 | succ n ih=>
  intro v4 r h σ hσ;rw[HA] at h;exact gc
instance A75:Ct 157 (∀{a0} {r},LH a0=N r→FC Z 157 [.ag (Xl.row a0)] [.sc (.v (.bool r))]):=by
 refine⟨fun h=> ?_⟩;unfold LH at h;refine A4 mixed VQ [2] 26 ?_;have k0:= @A1s;exact gc
/- 122:impl_isMinute -/
instance xh:Ct 122 (∀{a0} {r},CS a0=N r→FC Z 122 [.sc (.int .i64 a0)] [.sc (.v (.bool r))]):=by
 refine⟨fun h=> ?_⟩;unfold CS at h;refine A4 mixed h0 [2] 5 ?_;exact gc
/- 158:impl_SurgeOk -/
instance A74:Ct 158 (∀{a0} {r},LG a0=N r→FC Z 158 [.ag (zD a0)] [.sc (.v (.bool r))]):=by
 refine⟨fun h=> ?_⟩;unfold LG at h;refine A4 mixed h0 [2] 23 ?_;exact gc
/- 118:impl_ForecastOk -/
def VR:Hw:=([(14,[1,25,26,27],[1],[])],[])
def bc:=fun(a0:Xd) (k_:U→Q V)=>∀{v7} {zr},k_ v7=N zr→Kh Z 118 VR 14 [1,25,26,27] [1] [] ⟨[pB 1,pL 25 zD a0.Surges,pI 26 (a0.Surges.length:U),pI 27 v7],[(1,[aI a0.Tide.Mean,aM zC a0.Tide.Parts,aM zD a0.Surges])],[]⟩ (A7 [2] [.sc (.v (.bool zr))])
theorem A1t{a0}{n:W}:bc a0 (FS a0 n):=by
 induction n with
 | zero=>intro _ r h; cases h
 | succ n ih=>
  intro v7 r h σ hσ;rw[FS] at h;exact gc
instance xT:Ct 118 (∀{a0} {r},FR a0=N r→FC Z 118 [.ag (Xd.row a0)] [.sc (.v (.bool r))]):=by
 refine⟨fun h=> ?_⟩;unfold FR at h;refine A4 mixed VR [2] 52 ?_;have k0:= @A1t;exact gc
/- 140:impl_IsName -/
def Q1:Hw:=([(14,[0,3],[],[]),(25,[0,3,4],[],[]),(32,[0,3],[],[])],[])
def bh:=fun a0 v3 (k_:Q V)=>∀{zr},k_=N zr→Kh Z 140 Q1 32 [0,3] [] [] ⟨[(0,vc (aS a0)),pI 3 v3],[],[]⟩ (A7 [2] [.sc (.v (.bool zr))])
def bg:=fun a0 v3 (k_:V→Q V)=>∀{v7} {zr},k_ v7=N zr→Kh Z 140 Q1 25 [0,3,4] [] [] ⟨[(0,vc (aS a0)),pI 3 v3,(4,vc (aB v7))],[],[]⟩ (A7 [2] [.sc (.v (.bool zr))])
def R4:=fun a0 (k_:U→Q V)=>∀{v3} {zr},k_ v3=N zr→Kh Z 140 Q1 14 [0,3] [] [] ⟨[(0,vc (aS a0)),pI 3 v3],[],[]⟩ (A7 [2] [.sc (.v (.bool zr))])
theorem A1v{a0 v3}{Eo}(WC:R4 a0 Eo):bh a0 v3 (Ln a0 v3 Eo):=by
 intro r h σ hσ;unfold Ln at h;have k0:= @WC;exact gc
theorem A1w{a0 v3}{Eo}(WC:R4 a0 Eo):bg a0 v3 (Lm a0 v3 Eo):=by
 intro v7 r h σ hσ;unfold Lm at h;have k0:= @A1v;exact gc
theorem A1x{a0}{n:W}:R4 a0 (FT a0 n):=by
 induction n with
 | zero=>intro _ r h; cases h
 | succ n ih=>
  intro v3 r h σ hσ;rw[FT] at h;have k0:= @A1w;exact gc
instance A7g:Ct 140 (∀{a0} {r},JB a0=N r→FC Z 140 [.sc (.str a0)] [.sc (.v (.bool r))]):=by
 refine⟨fun h=> ?_⟩;unfold JB at h;refine A4 mixed Q1 [2] 43 ?_;have k0:= @A1x;exact gc
/- 141:impl_PointNamed -/
def VS:Hw:=([(6,[1,8,9,10],[],[])],[])
def bq:=fun a1 (a0:X1) (k_:U→Q U)=>∀{v1} {zr},k_ v1=N zr→Kh Z 141 VS 6 [1,8,9,10] [] [] ⟨[(1,vc (aS a1)),pL 8 X7.row a0.Points,pI 9 (a0.Points.length:U),pI 10 v1],[],[]⟩ (A7 [4] [.sc (.v (.int .i64 zr))])
theorem A1y{a1 a0}{n:W}:bq a1 a0 (Hv a1 a0 n):=by
 induction n with
 | zero=>intro _ r h; cases h
 | succ n ih=>
  intro v1 r h σ hσ;rw[Hv] at h;exact gc
instance A7s:Ct 141 (∀{a0} {a1} {r},Lx a0 a1=N r→FC Z 141 [.ag (X1.row a0),.sc (.str a1)] [.sc (.v (.int .i64 r))]):=by
 refine⟨fun h=> ?_⟩;unfold Lx at h;refine A4 mixed VS [4] 21 ?_;have k0:= @A1y;exact gc
/- 95:impl_isIndex -/
instance QU:Ct 95 (∀{a0} {a1} {r},Bq a0 a1=N r→FC Z 95 [.sc (.int .i64 a0),.sc (.int .i64 a1)] [.sc (.v (.bool r))]):=by
 refine⟨fun h=> ?_⟩;unfold Bq at h;refine A4 mixed h0 [4] 12 ?_;exact gc
/- 142:impl_Segment_joins -/
instance A7x:Ct 142 (∀{a0} {a1} {a2} {r},LB a0 a1 a2=N r→FC Z 142 [.ag (X2.row a0),.sc (.int .i64 a1),.sc (.int .i64 a2)] [.sc (.v (.bool r))]):=by
 refine⟨fun h=> ?_⟩;unfold LB at h;refine A4 mixed h0 [6] 29 ?_;exact gc
end Go.Vi
