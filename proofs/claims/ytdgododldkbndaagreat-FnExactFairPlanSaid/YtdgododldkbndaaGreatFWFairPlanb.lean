/-
Walks. No condition.
-/
import Derived.Test.YtdgododldkbndaaGreatFNf
import Derived.Test.YtdgododldkbndaaGreatChecked
import Derived.Test.YtdgododldkbndaaGreatFVi41
import Derived.KernelRfl
import Derived.Test.YtdgododldkbndaaGreatFWFairPlana
namespace Go.Vi
open Go.Proofs
set_option linter.all false
set_option maxRecDepth 4000
set_option maxHeartbeats 2000000
open Nat renaming reduceBEq → C, reduceMul → E, reduceAdd → F, reduceDiv → G, le_of_ble_eq_true → uf
open Int renaming reduceBEq → H
attribute [local irreducible] go Bc J3
open List renaming map → Y, map_nil → I, all_eq_true → zF
open Tryz renaming prog → Z
open Int renaming reduceNegSucc → zA, reduceOfNat → zB
open Xb renaming row → zC
open Xc renaming row → zD
open Xa renaming row → zE
open Bool renaming true → T, false → L
open Option renaming some → N, none → O
open _root_ renaming List → P, Option → Q, Int → U, Bool → V, Nat → W, rfl → X
/- 167:spec_WindowsOk -/
def Wz:Hw:=([(6,[0,5,6,7],[],[])],[])
def dk:=fun a0 (k_:U→Q V)=>∀{v1} {zr},k_ v1=N zr→Kh Z 167 Wz 6 [0,5,6,7] [] [] ⟨[pL 0 X5.row a0,pL 5 X5.row a0,pI 6 (a0.length:U),pI 7 v1],[],[]⟩ (A8 [2] [.sc (.v (.bool zr))])
theorem A5h{a0}{n:W}:dk a0 (Fy a0 n):=by
 induction n with
 | zero=>intro _ r h; cases h
 | succ n ih=>
  intro v1 r h σ hσ;rw[Fy] at h;exact gc
instance B0h:Ct 167 (∀{a0} {r},KF a0=N r→FC Z 167 [.sc (.sl (Y X5.row a0))] [.sc (.v (.bool r))]):=by
 refine⟨fun{a0} {r} h=> ?_⟩;unfold KF at h;refine A5 A4 Wz [2] 41 ?_;have k0:= @A5h;exact gc
/- 184:spec_ShrinkWindows -/
def Vt:Hw:=([(16,[1,5,17,18,19],[],[1024])],[])
def dh:=fun a1 a0 (k_:U→(P X5)→Q (P X5))=>∀{v5 v6} {zr},k_ v5 v6=N zr→Kh Z 184 Vt 16 [1,5,17,18,19] [] [1024] ⟨[pI 1 a1,pW 5 1024,pL 17 X5.row a0,pI 18 (a0.length:U),pI 19 v5],[],[(1024,2,Y X5.row v6)]⟩ (A8 [4] [.sc (.o 2 (Y X5.row zr))])
theorem zq{a1 a0}{n:W}:dh a1 a0 (Fx a1 a0 n):=by
 induction n with
 | zero=>intro _ _ r h; cases h
 | succ n ih=>
  intro v5 v6 r h σ hσ S hS
  conv at hS=>rhs; reduce
  try simp only[zB,zA] at hS
  subst hS;rw[Fx] at h;refine AL (Ax ?_);obtain⟨h7,h⟩|⟨h7,h⟩:=ic h
  ·obtain⟨x8,h8,h⟩:=ob h -- X5;try simp only[hσ,h7,h8,C,E,F,G,H,J]
   refine Bx ?_;obtain⟨h9,h⟩|⟨h9,h⟩:=ic h
   ·try simp only[h7,h8,h9,C,E,F,G,H,J]
    refine B6 (es:=Y X5.row ([(⟨x8.From,(IntKind.i64.wrap (x8.To - a1))⟩:X5)]:P X5)) ?_;obtain⟨h10,h⟩:=AU h;try simp only[h7,h8,h9,h10,C,E,F,G,H,J]
    refine ih h ?_ (by kernel_rfl);try simp only[h7,h8,h9,h10,C,E,F,G,H,J,pL,aM,I]
   ·try simp only[h7,h8,h9,C,E,F,G,H,J]
    refine ih h ?_ (by kernel_rfl);try simp only[h7,h8,h9,C,E,F,G,H,J,pL,aM,I]
  ·try simp only[hσ,h7,C,E,F,G,H,J]
   cases h;exact t0
instance B0a:Ct 184 (∀{a0} {a1} {r},PK a0 a1=N r→FC Z 184 [.sc (.sl (Y X5.row a0)),.sc (.int .i64 a1)] [.sc (.o 2 (Y X5.row r))]):=by
 refine⟨fun{a0} {a1} {r} h=> ?_⟩;unfold PK at h;refine A5 A4 Vt [4] 42 ?_;have s0:= @AB (Y X5.row ([]:P X5));have k0:= @zq;exact gc
/- 164:spec_l07Starts -/
instance B0p:Ct 164 (∀{a0} {a1} {a2} {a3} {a4} {r},PN a0 a1 a2 a3 a4=N r→FC Z 164 [.ag (Xd.row a0),.ag (X1.row a1),.sc (.int .i64 a2),.ag (X4.row a3),.sc (.bool a4)] [.sc (.o 2 (Y X5.row r))]):=by
 refine⟨fun{a0} {a1} {a2} {a3} {a4} {r} h=> ?_⟩;unfold PN at h;refine A5 A4 h0 [10] 33 ?_;exact gc
/- 130:spec_SureStarts -/
instance B0c:Ct 130 (∀{a0} {a1} {a2} {a3} {r},Nl a0 a1 a2 a3=N r→FC Z 130 [.ag (Xd.row a0),.ag (X1.row a1),.sc (.int .i64 a2),.ag (X4.row a3)] [.sc (.o 2 (Y X5.row r))]):=by
 refine⟨fun{a0} {a1} {a2} {a3} {r} h=> ?_⟩;unfold Nl at h;refine A5 A4 h0 [8] 14 ?_;exact gc
/- 87:spec_l08Starts -/
def Vu:Hw:=([(8,[4,5,6,9,13,14,15],[4,5,6],[768])],[(19,6,(O,.frz 1536))])
def dw:=fun a3 (a0:Xd) (a1:X1) (a2:X4) (k_:U→(P (P X5))→Q (P (P X5)))=>∀{v1 v2} {zr},k_ v1 v2=N zr→Kh Z 87 Vu 8 [4,5,6,9,13,14,15] [4,5,6] [768] ⟨[pB 4,pB 5,pB 6,pW 9 768,pL 13 rI a3,pI 14 (a3.length:U),pI 15 v1],[(4,[aI a0.Tide.Mean,aM zD a0.Tide.Parts,aM X9.row a0.Surges]),(5,[aM X7.row a1.Points,aM X2.row a1.Segments]),(6,(dm a2.row))],[(768,1,Y (rL X5.row) v2)]⟩ (A8 [8] [.sc (.o 1 (Y (rL X5.row) zr))])
theorem zt{a3 a0 a1 a2}{n:W}:dw a3 a0 a1 a2 (GG a3 a0 a1 a2 n):=by
 induction n with
 | zero=>intro _ _ r h; cases h
 | succ n ih=>
  intro v1 v2 r h σ hσ;rw[GG] at h;have s0:=fun(r5:(P X5))=> @AB (Y (rL X5.row) ([r5]:P (P X5)))
  exact gc
instance B0r:Ct 87 (∀{a0} {a1} {a2} {a3} {r},PO a0 a1 a2 a3=N r→FC Z 87 [.ag (Xd.row a0),.ag (X1.row a1),.ag (X4.row a2),.sc (.sl (Y rI a3))] [.sc (.o 1 (Y (rL X5.row) r))]):=by
 refine⟨fun{a0} {a1} {a2} {a3} {r} h=> ?_⟩;unfold PO at h;refine A5 A4 Vu [8] 29 ?_;have s0:= @AB (Y (rL X5.row) ([]:P (P X5)));have k0:= @zt;exact gc
/- 132:spec_l05Points -/
def RQ:Hw:=([(8,[3,8,14,15,16],[3],[832]),(32,[3,8,11,14,15,16,45],[3],[832])],[])
def dt:=fun r9 a2 v1 (a0:X1) v2 (k_:V→Q ((P U) × V))=>∀{v12} {zr},k_ v12=N zr→Kh Z 132 RQ 32 [3,8,11,14,15,16,45] [3] [832] ⟨[pB 3,pW 8 832,pI 11 r9,pL 14 rI a2,pI 15 (a2.length:U),pI 16 v1,(45,vc (aB v12))],[(3,[aM X7.row a0.Points,aM X2.row a0.Segments])],[(832,1,Y rI v2)]⟩ (A8 [6,7] [.sc (.o 1 (Y rI zr.1)),.sc (.v (.bool zr.2))])
def TX:=fun a2 (a0:X1) (k_:U→(P U)→Q ((P U) × V))=>∀{v1 v2} {zr},k_ v1 v2=N zr→Kh Z 132 RQ 8 [3,8,14,15,16] [3] [832] ⟨[pB 3,pW 8 832,pL 14 rI a2,pI 15 (a2.length:U),pI 16 v1],[(3,[aM X7.row a0.Points,aM X2.row a0.Segments])],[(832,1,Y rI v2)]⟩ (A8 [6,7] [.sc (.o 1 (Y rI zr.1)),.sc (.v (.bool zr.2))])
theorem aC{r9 a2 v1 a0 v2}{Qn}(ox:TX a2 a0 Qn):dt r9 a2 v1 a0 v2 (GD r9 a2 v1 a0 v2 Qn):=by
 intro v12 r h σ hσ;unfold GD at h;have s0:= @AB (Y rI ([r9]:P U));have k0:= @ox;exact gc
theorem zu{a2 a0}{n:W}:TX a2 a0 (E2 a2 a0 n):=by
 induction n with
 | zero=>intro _ _ r h; cases h
 | succ n ih=>
  intro v1 v2 r h σ hσ S hS
  conv at hS=>rhs; reduce
  try simp only[zB,zA] at hS
  subst hS;rw[E2] at h;refine AL (Ax ?_);obtain⟨h3,h⟩|⟨h3,h⟩:=ic h
  ·obtain⟨x4,h4,h⟩:=ob h -- U;obtain⟨r5,h5,h⟩:=ob h;try simp only[hσ,h3,h4,C,E,F,G,H,J]
   refine AI (Ac QR h5) ?_;obtain⟨h6,h⟩|⟨h6,h⟩:=ic h
   ·try simp only[h3,h4,h6,C,E,F,G,H,J]
    refine Am ?_;obtain⟨x7,h7,h⟩:=ob h;obtain⟨x8,h8,h⟩:=ob h;have h8n:=Au h8;obtain⟨r9,h9,h⟩:=ob h;try simp only[h3,h4,h6,h7,h8,h8n,C,E,F,G,H,J]
    refine BR (Ac ZW h9) ?_;obtain⟨h10,h⟩|⟨h10,h⟩:=ic h
    ·try simp only[h3,h4,h6,h7,h8,h8n,h10,C,E,F,G,H,J]
     refine aC ih h ?_ (by kernel_rfl);try simp only[h3,h4,h6,h7,h8,h8n,h10,C,E,F,G,H,J,pL,aM,I]
    ·obtain⟨r11,h11,h⟩:=ob h -- V;try simp only[h3,h4,h6,h7,h8,h8n,h10,C,E,F,G,H,J]
     refine Ce (Ac ZV h11) X (Cd X) X (uf X) ?_;try simp only[h3,h4,h6,h7,h8,h8n,h10,C,E,F,G,H,J]
     refine aC ih h ?_ (by kernel_rfl);try simp only[h3,h4,h6,h7,h8,h8n,h10,C,E,F,G,H,J,pL,aM,I]
   ·try simp only[h3,h4,h6,C,E,F,G,H,J]
    cases h;trivial
  ·try simp only[hσ,h3,C,E,F,G,H,J]
   cases h;trivial
instance B0n:Ct 132 (∀{a0} {a1} {a2} {r},GC a0 a1 a2=N r→FC Z 132 [.ag (X1.row a0),.sc (.int .i64 a1),.sc (.sl (Y rI a2))] [.sc (.o 1 (Y rI r.1)),.sc (.v (.bool r.2))]):=by
 refine⟨fun{a0} {a1} {a2} {r} h=> ?_⟩;unfold GC at h;refine A5 A4 RQ [6,7] 52 ?_;have s0:= @AB (Y rI ([a1]:P U));have k0:= @zu;exact gc
/- 131:spec_RouteOk -/
instance A95:Ct 131 (∀{a0} {a1} {a2} {r},Eu a0 a1 a2=N r→FC Z 131 [.ag (X1.row a0),.sc (.int .i64 a1),.sc (.sl (Y rI a2))] [.sc (.v (.bool r))]):=by
 refine⟨fun{a0} {a1} {a2} {r} h=> ?_⟩;unfold Eu at h;refine A5 A4 h0 [6] 29 ?_;exact gc
/- 88:spec_RoutePoints -/
instance A96:Ct 88 (∀{a0} {a1} {a2} {r},Fw a0 a1 a2=N r→FC Z 88 [.ag (X1.row a0),.sc (.int .i64 a1),.sc (.sl (Y rI a2))] [.sc (.o 1 (Y rI r))]):=by
 refine⟨fun{a0} {a1} {a2} {r} h=> ?_⟩;unfold Fw at h;refine A5 A4 h0 [6] 22 ?_;exact gc
/- 133:spec_HasMinute -/
def Vv:Hw:=([(6,[1,7,8,9],[],[])],[])
def dQ:=fun a1 a0 (k_:U→Q V)=>∀{v1} {zr},k_ v1=N zr→Kh Z 133 Vv 6 [1,7,8,9] [] [] ⟨[pI 1 a1,pL 7 X5.row a0,pI 8 (a0.length:U),pI 9 v1],[],[]⟩ (A8 [4] [.sc (.v (.bool zr))])
theorem zv{a1 a0}{n:W}:dQ a1 a0 (Iq a1 a0 n):=by
 induction n with
 | zero=>intro _ r h; cases h
 | succ n ih=>
  intro v1 r h σ hσ;rw[Iq] at h;exact gc
instance A9s:Ct 133 (∀{a0} {a1} {r},N5 a0 a1=N r→FC Z 133 [.sc (.sl (Y X5.row a0)),.sc (.int .i64 a1)] [.sc (.v (.bool r))]):=by
 refine⟨fun{a0} {a1} {r} h=> ?_⟩;unfold N5 at h;refine A5 A4 Vv [4] 20 ?_;have k0:= @zv;exact gc
/- 135:spec_NextMinute -/
def Vw:Hw:=([(14,[1,10,11,12],[],[])],[])
def dW:=fun a1 a0 (k_:U→Q U)=>∀{v3} {zr},k_ v3=N zr→Kh Z 135 Vw 14 [1,10,11,12] [] [] ⟨[pI 1 a1,pL 10 X5.row a0,pI 11 (a0.length:U),pI 12 v3],[],[]⟩ (A8 [4] [.sc (.v (.int .i64 zr))])
theorem zx{a1 a0}{n:W}:dW a1 a0 (Iu a1 a0 n):=by
 induction n with
 | zero=>intro _ r h; cases h
 | succ n ih=>
  intro v3 r h σ hσ;rw[Iu] at h;exact gc
instance yd:Ct 135 (∀{a0} {a1} {r},Nb a0 a1=N r→FC Z 135 [.sc (.sl (Y X5.row a0)),.sc (.int .i64 a1)] [.sc (.v (.int .i64 r))]):=by
 refine⟨fun{a0} {a1} {r} h=> ?_⟩;unfold Nb at h;refine A5 A4 Vw [4] 25 ?_;have k0:= @zx;exact gc
/- 89:spec_l08Sail -/
def RS:Hw:=([(16,[2,3,4,6,7,14,15],[6,7],[1600]),(32,[2,3,4,6,7,14,15,17,73],[6,7],[1600])],[])
def dv:=fun a2 a3 a4 v4 r12 (a0:X1) (a1:X4) v5 (k_:V→Q ((P U) × V))=>∀{v17} {zr},k_ v17=N zr→Kh Z 89 RS 32 [2,3,4,6,7,14,15,17,73] [6,7] [1600] ⟨[pL 2 rI a2,pL 3 rI a3,pL 4 (rL X5.row) a4,pB 6,pB 7,pW 14 1600,pI 15 v4,pI 17 r12,(73,vc (aB v17))],[(6,[aM X7.row a0.Points,aM X2.row a0.Segments]),(7,(dm a1.row))],[(1600,1,Y rI v5)]⟩ (A8 [12,13] [.sc (.o 1 (Y rI zr.1)),.sc (.v (.bool zr.2))])
def TZ:=fun a2 a3 a4 (a0:X1) (a1:X4) (k_:U→(P U)→Q ((P U) × V))=>∀{v4 v5} {zr},k_ v4 v5=N zr→Kh Z 89 RS 16 [2,3,4,6,7,14,15] [6,7] [1600] ⟨[pL 2 rI a2,pL 3 rI a3,pL 4 (rL X5.row) a4,pB 6,pB 7,pW 14 1600,pI 15 v4],[(6,[aM X7.row a0.Points,aM X2.row a0.Segments]),(7,(dm a1.row))],[(1600,1,Y rI v5)]⟩ (A8 [12,13] [.sc (.o 1 (Y rI zr.1)),.sc (.v (.bool zr.2))])
theorem Tm{a2 a3 a4 v4 r12 a0 a1 v5}{Qo}(oy:TZ a2 a3 a4 a0 a1 Qo):dv a2 a3 a4 v4 r12 a0 a1 v5 (IJ a2 a3 a4 v4 r12 a0 a1 v5 Qo):=by
 intro v17 r h σ hσ;unfold IJ at h;have s0:= @AB (Y rI ([r12]:P U));have k0:= @oy;exact gc
theorem zy{a2 a3 a4 a0 a1}{n:W}:TZ a2 a3 a4 a0 a1 (Ex a2 a3 a4 a0 a1 n):=by
 induction n with
 | zero=>intro _ _ r h; cases h
 | succ n ih=>
  intro v4 v5 r h σ hσ S hS
  conv at hS=>rhs; reduce
  try simp only[zB,zA] at hS
  subst hS;rw[Ex] at h;refine AL (Ax ?_);obtain⟨h6,h⟩|⟨h6,h⟩:=ic h
  ·try simp only[hσ,h6,C,E,F,G,H,J]
   refine Am ?_;obtain⟨x7,h7,h⟩:=ob h;have h7n:=Au h7;obtain⟨x8,h8,h⟩:=ob h;obtain⟨x9,h9,h⟩:=ob h;obtain⟨r10,h10,h⟩:=ob h;try simp only[h6,h7,h7n,h8,h9,C,E,F,G,H,J]
   refine BR (Ac Ti h10) ?_;obtain⟨x11,h11,h⟩:=ob h;obtain⟨r12,h12,h⟩:=ob h;try simp only[h6,h7,h7n,h8,h9,h11,C,E,F,G,H,J]
   refine AI (Ac yd h12) ?_;try simp only[h6,h7,h7n,h8,h9,h11,C,E,F,G,H,J]
   refine Am ?_;obtain⟨h13,h⟩|⟨h13,h⟩:=ic h
   ·try simp only[h6,h7,h7n,h8,h9,h11,h13,C,E,F,G,H,J]
    refine Tm ih h ?_ (by kernel_rfl);try simp only[h6,h7,h7n,h8,h9,h11,h13,C,E,F,G,H,J,pL,aM,I]
   ·obtain⟨h14,h⟩|⟨h14,h⟩:=ic h
    ·obtain⟨x15,h15,h⟩:=ob h -- U;obtain⟨x16,h16,h⟩:=ob h;try simp only[h6,h7,h7n,h8,h9,h11,h13,h14,h15,h16,C,E,F,G,H,J]
     refine Tm ih h ?_ (by kernel_rfl);try simp only[h6,h7,h7n,h8,h9,h11,h13,h14,h15,h16,C,E,F,G,H,J,pL,aM,I]
    ·try simp only[h6,h7,h7n,h8,h9,h11,h13,h14,C,E,F,G,H,J]
     refine Tm ih h ?_ (by kernel_rfl);try simp only[h6,h7,h7n,h8,h9,h11,h13,h14,C,E,F,G,H,J,pL,aM,I]
  ·try simp only[hσ,h6,C,E,F,G,H,J]
   cases h;trivial
instance yj:Ct 89 (∀{a0} {a1} {a2} {a3} {a4} {a5} {r},KI a0 a1 a2 a3 a4 a5=N r→FC Z 89 [.ag (X1.row a0),.ag (X4.row a1),.sc (.sl (Y rI a2)),.sc (.sl (Y rI a3)),.sc (.sl (Y (rL X5.row) a4)),.sc (.int .i64 a5)] [.sc (.o 1 (Y rI r.1)),.sc (.v (.bool r.2))]):=by
 refine⟨fun{a0} {a1} {a2} {a3} {a4} {a5} {r} h=> ?_⟩;unfold KI at h;refine A5 A4 RS [12,13] 79 ?_;have s0:= @AB (Y rI ([a5]:P U));have k0:= @zy;exact gc
/- 136:spec_ArrivalOf -/
instance xx:Ct 136 (∀{a0} {a1} {a2} {a3} {r},MX a0 a1 a2 a3=N r→FC Z 136 [.ag (X1.row a0),.ag (X4.row a1),.sc (.sl (Y rI a2)),.sc (.sl (Y rI a3))] [.sc (.v (.int .i64 r))]):=by
 refine⟨fun{a0} {a1} {a2} {a3} {r} h=> ?_⟩;unfold MX at h;refine A5 A4 h0 [8] 54 ?_;exact gc
/- 137:spec_PassagesOf -/
def Vx:Hw:=([(18,[1,5,6,8,13,14,39,40,41],[6,8],[2176,2432])],[])
def dY:=fun a1 a5 a4 (a0:X1) (a2:X4) r6 (k_:U→(P X3)→Q (P X3))=>∀{v7 v8} {zr},k_ v7 v8=N zr→Kh Z 137 Vx 18 [1,5,6,8,13,14,39,40,41] [6,8] [2176,2432] ⟨[pI 1 a1,pL 5 rI a5,pB 6,pB 8,pW 13 2176,pW 14 2432,pL 39 rI a4,pI 40 (a4.length:U),pI 41 v7],[(6,[aM X7.row a0.Points,aM X2.row a0.Segments]),(8,(dm a2.row))],[(2176,5,Y X3.row v8),(2432,1,Y rI r6)]⟩ (A8 [12] [.sc (.o 5 (Y X3.row zr))])
theorem zz{a1 a5 a4 a0 a2 r6}{n:W}:dY a1 a5 a4 a0 a2 r6 (Iw a1 a5 a4 a0 a2 r6 n):=by
 induction n with
 | zero=>intro _ _ r h; cases h
 | succ n ih=>
  intro v7 v8 r h σ hσ S hS
  conv at hS=>rhs; reduce
  try simp only[zB,zA] at hS
  subst hS;rw[Iw] at h;refine AL (Ax ?_);obtain⟨h9,h⟩|⟨h9,h⟩:=ic h
  ·obtain⟨x10,h10,h⟩:=ob h -- U;obtain⟨x11,h11,h⟩:=ob h;obtain⟨r12,h12,h⟩:=ob h;try simp only[hσ,h9,h10,h11,C,E,F,G,H,J]
   refine AI (Ac QR h12) ?_;obtain⟨h13,h⟩|⟨h13,h⟩:=ic h
   ·try simp only[h9,h10,h11,h13,C,E,F,G,H,J]
    refine Am ?_;obtain⟨x14,h14,h⟩:=ob h;obtain⟨x15,h15,h⟩:=ob h;have h15n:=Au h15;obtain⟨r16,h16,h⟩:=ob h;try simp only[h9,h10,h11,h13,h14,h15,h15n,C,E,F,G,H,J]
    refine BR (Ac Ti h16) ?_;try simp only[h9,h10,h11,h13,h14,h15,h15n,C,E,F,G,H,J]
    refine B6 (es:=Y X3.row ([(⟨a1,x10,(x14.A==x15),x11,(IntKind.i64.wrap (x11+r16))⟩:X3)]:P X3)) ?_;obtain⟨h17,h⟩:=AU h;try simp only[h9,h10,h11,h13,h14,h15,h15n,h17,C,E,F,G,H,J]
    refine Am ?_;try simp only[h9,h10,h11,h13,h14,h15,h15n,h17,C,E,F,G,H,J]
    refine ih h ?_ (by kernel_rfl);try simp only[h9,h10,h11,h13,h14,h15,h15n,h17,C,E,F,G,H,J,pL,aM,I]
   ·try simp only[h9,h10,h11,h13,C,E,F,G,H,J]
    cases h;exact t0
  ·try simp only[hσ,h9,C,E,F,G,H,J]
   cases h;exact t0
instance ye:Ct 137 (∀{a0} {a1} {a2} {a3} {a4} {a5} {r},Nd a0 a1 a2 a3 a4 a5=N r→FC Z 137 [.ag (X1.row a0),.sc (.int .i64 a1),.ag (X4.row a2),.sc (.int .i64 a3),.sc (.sl (Y rI a4)),.sc (.sl (Y rI a5))] [.sc (.o 5 (Y X3.row r))]):=by
 refine⟨fun{a0} {a1} {a2} {a3} {a4} {a5} {r} h=> ?_⟩;unfold Nd at h;refine A5 A4 Vx [12] 87 ?_;have s0:= @AB (Y X3.row ([]:P X3));have k0:= @zz;exact gc
/- 90:spec_l15Make -/
def bA:P (P W × AItem):= [([],(O,.load 65 (S 11) T 4)),([],(O,.faddr 66 (S 11) 1)),([1],(O,.load 67 (S 66) L 1)),([2],(O,.bin 68 .leq (S 67) (K 2880))),([0,0],(O,.store (S 8) (S 65) 4)),([3,4,0,1,2,3,4],(O,.mv 9 (S 68)))]
def Vy:Hw:=([(12,[4,8,10,11,46,47,48],[4,8,10,11],[2432])],[])
abbrev Ji(x2 r3 v6:U)(c0_ c1_:V)(c2_ c3_ c5_:V)(bx_:P (W × P AC))(rs_:Rows):St:=⟨[(8,vc (.pb 8 0)),(11,vc (.pb 11 0)),(65,bif c0_ then va [aI x2,aI r3,aI v6,.own 2432] else .undef),(66,bif c1_ then vc (.pb 11 1) else .undef),(67,bif c2_ then vc (aI r3) else .undef),(68,bif c3_ then vc (aB (decide (r3≤(2880:U)))) else .undef),(9,bif c5_ then vc (aB (decide (r3≤(2880:U)))) else .undef)],bx_,rs_⟩
abbrev QM(x2 r3:U)(r4:(P X3))(v6:U):St:=(Ji x2 r3 v6 T T T T T [(8,[aI x2,aI r3,aI v6,.own 2432]),(11,[aI x2,aI r3,aI v6,.own 2432])] [(2432,5,Y X3.row r4)])
theorem A0a(x2 r3 r4 v6):∀(f:W) (b1 b2:V) (b3 b5:V),Ae Z bA (QM x2 r3 r4 v6) f [T,b1,b2,b3,T,b5] (Ji x2 r3 v6 T b1 b2 b3 b5 [(8,[aI x2,aI r3,aI v6,.own 2432]),(11,[aI x2,aI r3,aI v6,.own 2432])] [(2432,5,Y X3.row r4)]):=by
 intro f
 induction f with
 | zero=>
  intro b1 b2 b3 b5 h;obtain rfl:b1=T:=zF.1 h b1 (by simp);obtain rfl:b2=T:=zF.1 h b2 (by simp);obtain rfl:b3=T:=zF.1 h b3 (by simp);obtain rfl:b5=T:=zF.1 h b5 (by simp);rfl
 | succ f ih=>
  intro b1 b2 b3 b5;refine Ai ⟨?_,?_,?_,?_,?_,?_,⟨⟩⟩<;>try first | (intro h; cases h; done) | (intro h0 hw; obtain rfl:=hz h0 rfl; (try obtain rfl:=hq hw 1 rfl rfl); (try obtain rfl:=hq hw 2 rfl rfl); (try obtain rfl:=hq hw 3 rfl rfl); refine np ?_; simp only[Ji,A6,A7,A2,C,E,F,G,H,J]; exact ih _ _ _ _)
theorem A0b(x2 r3 r4 v6):∀(f:W) (b0 b1:V) (b2 b3:V),Ae Z bA (QM x2 r3 r4 v6) f [b0,b1,b2,b3,L,L] (Ji x2 r3 v6 b0 b1 b2 b3 L [(8,[aI (0:U),aI (0:U),aI (0:U),.nil]),(11,[aI x2,aI r3,aI v6,.own 2432])] [(2432,5,Y X3.row r4)]):=by
 intro f
 induction f with
 | zero=>intro b0 b1 b2 b3 h; simp at h
 | succ f ih=>
  intro b0 b1 b2 b3;refine Ai ⟨?_,?_,?_,?_,?_,?_,⟨⟩⟩<;>try first | (intro _ hw; simp at hw; done) | (intro h0 hw; obtain rfl:=hz h0 rfl; (try obtain rfl:=hq hw 1 rfl rfl); (try obtain rfl:=hq hw 2 rfl rfl); refine np ?_; simp only[Ji,A6,A7,A2,C,E,F,G,H,J]; exact ih _ _ _ _)
  ·intro h0 hw;obtain rfl:=hq hw 0 rfl rfl;refine np ?_;try simp only[Ji,A6,A7,A2,C,E,F,G,H,J]
   exact A0a x2 r3 r4 v6 _ b1 b2 b3 L
def eF:=fun a2 (a0:X6) (x1:X4) x2 r3 r4 (k_:U→U→Q (X0 × V))=>∀{v5 v6} {zr},k_ v5 v6=N zr→Kh Z 90 Vy 12 [4,8,10,11,46,47,48] [4,8,10,11] [2432] ⟨[pB 4,pB 8,pB 10,pB 11,pL 46 rI a2,pI 47 (a2.length:U),pI 48 v5],[(4,([aI a0.Forecast.Tide.Mean,aM zD a0.Forecast.Tide.Parts,aM X9.row a0.Forecast.Surges,aM X7.row a0.Chart.Points,aM X2.row a0.Chart.Segments,aM X4.row a0.Fleet,aI a0.Regime.Gap,aB a0.Regime.NoMeet]++dm a0.Crew.row)),(8,[aI (0:U),aI (0:U),aI (0:U),.nil]),(10,(dm x1.row)),(11,[aI x2,aI r3,aI v6,.own 2432])],[(2432,5,Y X3.row r4)]⟩ (A8 [.c 8 T 4,9] [.ag [.v (.int .i64 zr.1.Start),.v (.int .i64 zr.1.Arrival),.v (.int .i64 zr.1.Cost),.o 5 (Y X3.row zr.1.Passages)],.sc (.v (.bool zr.2))])
theorem A0c{a2 a0 x1 x2 r3 r4}{n:W}:eF a2 a0 x1 x2 r3 r4 (GM a2 a0 x1 x2 r3 r4 n):=by
 induction n with
 | zero=>intro _ _ r h; cases h
 | succ n ih=>
  intro v5 v6 r h σ hσ S hS
  conv at hS=>rhs; reduce
  try simp only[zB,zA] at hS
  subst hS;rw[GM] at h;refine AL (Ax ?_);obtain⟨h7,h⟩|⟨h7,h⟩:=ic h
  ·obtain⟨x8,h8,h⟩:=ob h -- U;try simp only[hσ,h7,h8,C,E,F,G,H,J]
   refine Am ?_;obtain⟨x9,h9,h⟩:=ob h;obtain⟨r10,h10,h⟩:=ob h;try simp only[h7,h8,h9,C,E,F,G,H,J]
   refine BR (Ac Ti h10) ?_;try simp only[h7,h8,h9,C,E,F,G,H,J]
   refine Am ?_;try simp only[h7,h8,h9,C,E,F,G,H,J]
   refine ih h ?_ (by kernel_rfl);try simp only[h7,h8,h9,C,E,F,G,H,J,pL,aM,I]
  ·try simp only[hσ,h7,C,E,F,G,H,J]
   refine Ez (ks:= [8,11]) (bs:= [8,11]) (rs:= [2432]) (τ:=(QM x2 r3 r4 v6)) X (A0b x2 r3 r4 v6 _ L L L L) ?_;simp only[QM,Ji,A6];try simp only[h7,C,E,F,G,H,J]
   cases h;try simp only[H3,C,E,F,G,H,J]
   trivial
instance yn:Ct 90 (∀{a0} {a1} {a2} {a3} {r},Nz a0 a1 a2 a3=N r→FC Z 90 [.ag (X6.row a0),.ag (zE a1),.sc (.sl (Y rI a2)),.sc (.sl (Y rI a3))] [.ag [.v (.int .i64 r.1.Start),.v (.int .i64 r.1.Arrival),.v (.int .i64 r.1.Cost),.o 5 (Y X3.row r.1.Passages)],.sc (.v (.bool r.2))]):=by
 refine⟨fun{a0} {a1} {a2} {a3} {r} h=> ?_⟩;unfold Nz at h;refine A5 A4 Vy [.c 8 T 4,9] 69 ?_;intro S hS
 conv at hS=>rhs; reduce
 try simp only[zB,zA] at hS
 subst hS;simp only[C,E,F,G,H,J];try simp only[C,E,F,G,H,J]
 refine Bj ?_;try simp only[C,E,F,G,H,J]
 refine Bj ?_;try simp only[C,E,F,G,H,J]
 refine Bx ?_;obtain⟨x1,h1,h⟩:=ob h;try simp only[h1,C,E,F,G,H,J]
 refine Bx ?_;try simp only[h1,C,E,F,G,H,J]
 refine Am ?_;obtain⟨x2,h2,h⟩:=ob h;obtain⟨r3,h3,h⟩:=ob h;try simp only[h1,h2,C,E,F,G,H,J]
 refine BR (Ac xx h3) ?_;obtain⟨r4,h4,h⟩:=ob h;try simp only[h1,h2,C,E,F,G,H,J]
 refine BR (Ac ye h4) ?_;try simp only[h1,h2,C,E,F,G,H,J]
 refine FI (m:= .box 11 [aI (0:U),aI (0:U),aI (0:U),.nil]) X X (J1 X X) ?_;try simp only[h1,h2,C,E,F,G,H,J]
 refine Am ?_;try simp only[h1,h2,C,E,F,G,H,J]
 refine A0c h ?_ (by kernel_rfl);try simp only[h1,h2,C,E,F,G,H,J,pL,aM,I]
/- 55:spec_OptionsOf -/
def RU:Hw:=([(32,[2,3,5,7,8,9,10,11],[2,3,7],[2816,3200,3264]),(56,[2,3,5,7,8,9,10,11],[2,3,7],[2816,3200,3264])],[(54,2,(O,.frz 5315))])
def dX:=fun(r3:(P U) × V) v8 (a0:X6) (a1:Xa) (x5:X4) r6 r7 (k_:(P X0)→Q (P X0))=>∀{v17} {zr},k_ v17=N zr→Kh Z 55 RU 56 [2,3,5,7,8,9,10,11] [2,3,7] [2816,3200,3264] ⟨[pB 2,pB 3,pL 5 rI r3.1,pB 7,pW 8 2816,pW 9 3200,pW 10 3264,pI 11 v8],[(2,([aI a0.Forecast.Tide.Mean,aM zD a0.Forecast.Tide.Parts,aM X9.row a0.Forecast.Surges,aM X7.row a0.Chart.Points,aM X2.row a0.Chart.Segments,aM X4.row a0.Fleet,aI a0.Regime.Gap,aB a0.Regime.NoMeet]++dm a0.Crew.row)),(3,(dm a1.row)),(7,(dm x5.row))],[(2816,1,Y (rL X5.row) r6),(3200,1,Y rI r7),(3264,4,Y X0.row v17)]⟩ (A8 [4] [.sc (.o 4 (Y X0.row zr))])
def TT:=fun(r3:(P U) × V) (a0:X6) (a1:Xa) (x5:X4) r6 r7 (k_:U→(P X0)→Q (P X0))=>∀{v8 v9} {zr},k_ v8 v9=N zr→Kh Z 55 RU 32 [2,3,5,7,8,9,10,11] [2,3,7] [2816,3200,3264] ⟨[pB 2,pB 3,pL 5 rI r3.1,pB 7,pW 8 2816,pW 9 3200,pW 10 3264,pI 11 v8],[(2,([aI a0.Forecast.Tide.Mean,aM zD a0.Forecast.Tide.Parts,aM X9.row a0.Forecast.Surges,aM X7.row a0.Chart.Points,aM X2.row a0.Chart.Segments,aM X4.row a0.Fleet,aI a0.Regime.Gap,aB a0.Regime.NoMeet]++dm a0.Crew.row)),(3,(dm a1.row)),(7,(dm x5.row))],[(2816,1,Y (rL X5.row) r6),(3200,1,Y rI r7),(3264,4,Y X0.row v9)]⟩ (A8 [4] [.sc (.o 4 (Y X0.row zr))])
theorem Tn{r3 v8 a0 a1 x5 r6 r7}{Ql}(ov:TT r3 a0 a1 x5 r6 r7 Ql):dX r3 v8 a0 a1 x5 r6 r7 (Iv r3 v8 a0 a1 x5 r6 r7 Ql):=by
 intro v17 r h σ hσ;unfold Iv at h;have k0:= @ov;exact gc
theorem A0d{r3 a0 a1 x5 r6 r7}{n:W}:TT r3 a0 a1 x5 r6 r7 (Fv r3 a0 a1 x5 r6 r7 n):=by
 induction n with
 | zero=>intro _ _ r h; cases h
 | succ n ih=>
  intro v8 v9 r h σ hσ S hS
  conv at hS=>rhs; reduce
  try simp only[zB,zA] at hS
  subst hS;rw[Fv] at h;refine AL (Ax ?_);obtain⟨h10,h⟩|⟨h10,h⟩:=ic h
  ·obtain⟨h11,h⟩|⟨h11,h⟩:=ic h
   ·obtain⟨r12,h12,h⟩:=ob h -- (P U) × V;try simp only[hσ,h10,h11,C,E,F,G,H,J]
    refine Ce (Ac yj h12) X (CM X ⟨CA,X,⟨⟩⟩) X (uf X) ?_;obtain⟨h13,h⟩|⟨h13,h⟩:=ic h
    ·obtain⟨r14,h14,h⟩:=ob h -- X0 × V;try simp only[h10,h11,h13,C,E,F,G,H,J]
     refine Ce (Ac yn h14) X (CM X ⟨X,X,X,CA,X,⟨⟩⟩) X (uf X) ?_;try simp only[h10,h11,h13,C,E,F,G,H,J]
     refine Bx ?_;obtain⟨h15,h⟩|⟨h15,h⟩:=ic h
     ·try simp only[h10,h11,h13,h15,C,E,F,G,H,J]
      refine Cp ?_;try simp only[h10,h11,h13,h15,C,E,F,G,H,J]
      refine B6 (es:=Y X0.row ([r14.1]:P X0)) ?_;obtain⟨h16,h⟩:=AU h;try simp only[h10,h11,h13,h15,h16,C,E,F,G,H,J]
      refine Tn ih h ?_ (by kernel_rfl);try simp only[h10,h11,h13,h15,h16,C,E,F,G,H,J,pL,aM,I]
     ·try simp only[h10,h11,h13,h15,C,E,F,G,H,J]
      refine Tn ih h ?_ (by kernel_rfl);try simp only[h10,h11,h13,h15,C,E,F,G,H,J,pL,aM,I]
    ·try simp only[h10,h11,h13,C,E,F,G,H,J]
     refine Tn ih h ?_ (by kernel_rfl);try simp only[h10,h11,h13,C,E,F,G,H,J,pL,aM,I]
   ·try simp only[hσ,h10,h11,C,E,F,G,H,J]
    cases h;exact t0
  ·try simp only[hσ,h10,C,E,F,G,H,J]
   cases h;exact t0
instance A9y:Ct 55 (∀{a0} {a1} {r},KA a0 a1=N r→FC Z 55 [.ag (X6.row a0),.ag (zE a1)] [.sc (.o 4 (Y X0.row r))]):=by
 refine⟨fun{a0} {a1} {r} h=> ?_⟩;unfold KA at h;refine A5 A4 RU [4] 92 ?_;have s0:= @AB (Y X0.row ([]:P X0));have k0:= @A0d;exact gc
/- 22:spec_l16Options -/
def VA:Hw:=([(8,[2,5,9,10,11],[2],[512])],[(19,4,(O,.frz 1152))])
def eH:=fun a1 (a0:X6) (k_:U→(P (P X0))→Q (P (P X0)))=>∀{v1 v2} {zr},k_ v1 v2=N zr→Kh Z 22 VA 8 [2,5,9,10,11] [2] [512] ⟨[pB 2,pW 5 512,pL 9 zE a1,pI 10 (a1.length:U),pI 11 v1],[(2,([aI a0.Forecast.Tide.Mean,aM zD a0.Forecast.Tide.Parts,aM X9.row a0.Forecast.Surges,aM X7.row a0.Chart.Points,aM X2.row a0.Chart.Segments,aM X4.row a0.Fleet,aI a0.Regime.Gap,aB a0.Regime.NoMeet]++dm a0.Crew.row))],[(512,1,Y (rL X0.row) v2)]⟩ (A8 [4] [.sc (.o 1 (Y (rL X0.row) zr))])
theorem A0e{a1 a0}{n:W}:eH a1 a0 (IM a1 a0 n):=by
 induction n with
 | zero=>intro _ _ r h; cases h
 | succ n ih=>
  intro v1 v2 r h σ hσ;rw[IM] at h;have s0:=fun(r5:(P X0))=> @AB (Y (rL X0.row) ([r5]:P (P X0)))
  exact gc
instance yp:Ct 22 (∀{a0} {a1} {r},PR a0 a1=N r→FC Z 22 [.ag (X6.row a0),.sc (.sl (Y zE a1))] [.sc (.o 1 (Y (rL X0.row) r))]):=by
 refine⟨fun{a0} {a1} {r} h=> ?_⟩;unfold PR at h;refine A5 A4 VA [4] 23 ?_;have s0:= @AB (Y (rL X0.row) ([]:P (P X0)));have k0:= @A0e;exact gc
/- 138:spec_Overlaps -/
instance A9z:Ct 138 (∀{a0} {a1} {r},KC a0 a1=N r→FC Z 138 [.ag (X3.row a0),.ag (X3.row a1)] [.sc (.v (.bool r))]):=by
 refine⟨fun{a0} {a1} {r} h=> ?_⟩;unfold KC at h;refine A5 A4 h0 [4] 16 ?_;exact gc
/- 139:spec_l09Near -/
def VB:Hw:=([(14,[2,7,8],[],[])],[])
def dx:=fun a2 (k_:U→U→Q V)=>∀{v3 v4} {zr},k_ v3 v4=N zr→Kh Z 139 VB 14 [2,7,8] [] [] ⟨[pI 2 a2,pI 7 v3,pI 8 v4],[],[]⟩ (A8 [6] [.sc (.v (.bool zr))])
theorem A0f{a2}:dx a2 (Nw a2):=by
 intro v3 v4 r h σ hσ;unfold Nw at h;exact gc
instance B0s:Ct 139 (∀{a0} {a1} {a2} {r},KJ a0 a1 a2=N r→FC Z 139 [.sc (.int .i64 a0),.sc (.int .i64 a1),.sc (.int .i64 a2)] [.sc (.v (.bool r))]):=by
 refine⟨fun{a0} {a1} {a2} {r} h=> ?_⟩;unfold KJ at h;refine A5 A4 VB [6] 28 ?_;have k0:= @A0f;exact gc
/- 91:spec_ConflictOf -/
instance A9l:Ct 91 (∀{a0} {a1} {a2} {a3} {r},N1 a0 a1 a2 a3=N r→FC Z 91 [.ag (X1.row a0),.ag (Xi.row a1),.ag (X3.row a2),.ag (X3.row a3)] [.sc (.v (.int .i64 r))]):=by
 refine⟨fun{a0} {a1} {a2} {a3} {r} h=> ?_⟩;unfold N1 at h;refine A5 A4 h0 [8] 108 ?_;exact gc
/- 56:spec_Clashes -/
def RW:Hw:=([(6,[3,4,5,13,14,15],[4,5],[]),(20,[3,4,5,10,13,14,15,19,20,21],[4,5,10],[])],[])
def dJ:=fun a3 a2 v1 (a0:X1) (a1:Xi) (x3:X3) (k_:U→Q V)=>∀{v4} {zr},k_ v4=N zr→Kh Z 56 RW 20 [3,4,5,10,13,14,15,19,20,21] [4,5,10] [] ⟨[pL 3 X3.row a3,pB 4,pB 5,pB 10,pL 13 X3.row a2,pI 14 (a2.length:U),pI 15 v1,pL 19 X3.row a3,pI 20 (a3.length:U),pI 21 v4],[(4,[aM X7.row a0.Points,aM X2.row a0.Segments]),(5,(dm a1.row)),(10,(dm x3.row))],[]⟩ (A8 [8] [.sc (.v (.bool zr))])
def TS:=fun a3 a2 (a0:X1) (a1:Xi) (k_:U→Q V)=>∀{v1} {zr},k_ v1=N zr→Kh Z 56 RW 6 [3,4,5,13,14,15] [4,5] [] ⟨[pL 3 X3.row a3,pB 4,pB 5,pL 13 X3.row a2,pI 14 (a2.length:U),pI 15 v1],[(4,[aM X7.row a0.Points,aM X2.row a0.Segments]),(5,(dm a1.row))],[]⟩ (A8 [8] [.sc (.v (.bool zr))])
theorem A0g{a3 a2 v1 a0 a1 x3}{O3}(ou:TS a3 a2 a0 a1 O3){n:W}:dJ a3 a2 v1 a0 a1 x3 (Ik a3 a2 v1 a0 a1 x3 O3 n):=by
 induction n with
 | zero=>intro _ r h; cases h
 | succ n ih=>
  intro v4 r h σ hσ;rw[Ik] at h;have k0:= @ou;exact gc
theorem A0h{a3 a2 a0 a1}{n:W}:TS a3 a2 a0 a1 (Fu a3 a2 a0 a1 n):=by
 induction n with
 | zero=>intro _ r h; cases h
 | succ n ih=>
  intro v1 r h σ hσ;rw[Fu] at h;have k0:= @A0g;exact gc
instance A9k:Ct 56 (∀{a0} {a1} {a2} {a3} {r},N0 a0 a1 a2 a3=N r→FC Z 56 [.ag (X1.row a0),.ag (Xi.row a1),.sc (.sl (Y X3.row a2)),.sc (.sl (Y X3.row a3))] [.sc (.v (.bool r))]):=by
 refine⟨fun{a0} {a1} {a2} {a3} {r} h=> ?_⟩;unfold N0 at h;refine A5 A4 RW [8] 33 ?_;have k0:= @A0h;exact gc
/- 23:spec_l16Clash -/
def NJ:Hw:=([(8,[1,2,5,18,19,20],[2],[1088]),(25,[1,2,5,7,8,18,19,20,25,26,27],[2],[1088,1536]),(42,[1,2,5,7,8,10,11,18,19,20,25,26,27,32,33,34],[2],[1088,1536,1984]),(59,[1,2,5,7,8,10,11,13,14,18,19,20,25,26,27,32,33,34,39,40,41],[2,13],[1088,1536,1984,2432])],[(72,2,(O,.frz 2432)),(74,2,(O,.frz 1984)),(76,2,(O,.frz 1536))])
def eG:=fun a1 x4 x8 v1 v5 v9 (a0:X6) (x12:X0) v2 v6 v10 (k_:U→(P V)→Q (P (P (P (P V)))))=>∀{v13 v14} {zr},k_ v13 v14=N zr→Kh Z 23 NJ 59 [1,2,5,7,8,10,11,13,14,18,19,20,25,26,27,32,33,34,39,40,41] [2,13] [1088,1536,1984,2432] ⟨[pL 1 (rL X0.row) a1,pB 2,pW 5 1088,pL 7 X0.row x4,pW 8 1536,pL 10 X0.row x8,pW 11 1984,pB 13,pW 14 2432,pL 18 (rL X0.row) a1,pI 19 (a1.length:U),pI 20 v1,pL 25 (rL X0.row) a1,pI 26 (a1.length:U),pI 27 v5,pL 32 X0.row x4,pI 33 (x4.length:U),pI 34 v9,pL 39 X0.row x8,pI 40 (x8.length:U),pI 41 v13],[(2,([aI a0.Forecast.Tide.Mean,aM zD a0.Forecast.Tide.Parts,aM X9.row a0.Forecast.Surges,aM X7.row a0.Chart.Points,aM X2.row a0.Chart.Segments,aM X4.row a0.Fleet,aI a0.Regime.Gap,aB a0.Regime.NoMeet]++dm a0.Crew.row)),(13,(dm x12.row))],[(1088,1,Y (rL (rL (rL rB))) v2),(1536,1,Y (rL (rL rB)) v6),(1984,1,Y (rL rB) v10),(2432,1,Y rB v14)]⟩ (A8 [4] [.sc (.o 1 (Y (rL (rL (rL rB))) zr))])
def U4:=fun a1 x4 x8 v1 v5 (a0:X6) v2 v6 (k_:U→(P (P V))→Q (P (P (P (P V)))))=>∀{v9 v10} {zr},k_ v9 v10=N zr→Kh Z 23 NJ 42 [1,2,5,7,8,10,11,18,19,20,25,26,27,32,33,34] [2] [1088,1536,1984] ⟨[pL 1 (rL X0.row) a1,pB 2,pW 5 1088,pL 7 X0.row x4,pW 8 1536,pL 10 X0.row x8,pW 11 1984,pL 18 (rL X0.row) a1,pI 19 (a1.length:U),pI 20 v1,pL 25 (rL X0.row) a1,pI 26 (a1.length:U),pI 27 v5,pL 32 X0.row x4,pI 33 (x4.length:U),pI 34 v9],[(2,([aI a0.Forecast.Tide.Mean,aM zD a0.Forecast.Tide.Parts,aM X9.row a0.Forecast.Surges,aM X7.row a0.Chart.Points,aM X2.row a0.Chart.Segments,aM X4.row a0.Fleet,aI a0.Regime.Gap,aB a0.Regime.NoMeet]++dm a0.Crew.row))],[(1088,1,Y (rL (rL (rL rB))) v2),(1536,1,Y (rL (rL rB)) v6),(1984,1,Y (rL rB) v10)]⟩ (A8 [4] [.sc (.o 1 (Y (rL (rL (rL rB))) zr))])
def U3:=fun a1 x4 v1 (a0:X6) v2 (k_:U→(P (P (P V)))→Q (P (P (P (P V)))))=>∀{v5 v6} {zr},k_ v5 v6=N zr→Kh Z 23 NJ 25 [1,2,5,7,8,18,19,20,25,26,27] [2] [1088,1536] ⟨[pL 1 (rL X0.row) a1,pB 2,pW 5 1088,pL 7 X0.row x4,pW 8 1536,pL 18 (rL X0.row) a1,pI 19 (a1.length:U),pI 20 v1,pL 25 (rL X0.row) a1,pI 26 (a1.length:U),pI 27 v5],[(2,([aI a0.Forecast.Tide.Mean,aM zD a0.Forecast.Tide.Parts,aM X9.row a0.Forecast.Surges,aM X7.row a0.Chart.Points,aM X2.row a0.Chart.Segments,aM X4.row a0.Fleet,aI a0.Regime.Gap,aB a0.Regime.NoMeet]++dm a0.Crew.row))],[(1088,1,Y (rL (rL (rL rB))) v2),(1536,1,Y (rL (rL rB)) v6)]⟩ (A8 [4] [.sc (.o 1 (Y (rL (rL (rL rB))) zr))])
def U2:=fun a1 (a0:X6) (k_:U→(P (P (P (P V))))→Q (P (P (P (P V)))))=>∀{v1 v2} {zr},k_ v1 v2=N zr→Kh Z 23 NJ 8 [1,2,5,18,19,20] [2] [1088] ⟨[pL 1 (rL X0.row) a1,pB 2,pW 5 1088,pL 18 (rL X0.row) a1,pI 19 (a1.length:U),pI 20 v1],[(2,([aI a0.Forecast.Tide.Mean,aM zD a0.Forecast.Tide.Parts,aM X9.row a0.Forecast.Surges,aM X7.row a0.Chart.Points,aM X2.row a0.Chart.Segments,aM X4.row a0.Fleet,aI a0.Regime.Gap,aB a0.Regime.NoMeet]++dm a0.Crew.row))],[(1088,1,Y (rL (rL (rL rB))) v2)]⟩ (A8 [4] [.sc (.o 1 (Y (rL (rL (rL rB))) zr))])
theorem A0j{a1 x4 x8 v1 v5 v9 a0 x12 v2 v6 v10}{O9}(pE:U4 a1 x4 x8 v1 v5 a0 v2 v6 O9){n:W}:eG a1 x4 x8 v1 v5 v9 a0 x12 v2 v6 v10 (IL a1 x4 x8 v1 v5 v9 a0 x12 v2 v6 v10 O9 n):=by
 induction n with
 | zero=>intro _ _ r h; cases h
 | succ n ih=>
  intro v13 v14 r h σ hσ;rw[IL] at h;have s0:=fun(r17:V)=> @AB (Y rB ([r17]:P V))
  have s1:= @AB (Y (rL rB) ([v14]:P (P V)));have k0:= @pE;exact gc
theorem A0k{a1 x4 x8 v1 v5 a0 v2 v6}{O8}(pD:U3 a1 x4 v1 a0 v2 O8){n:W}:U4 a1 x4 x8 v1 v5 a0 v2 v6 (FF a1 x4 x8 v1 v5 a0 v2 v6 O8 n):=by
 induction n with
 | zero=>intro _ _ r h; cases h
 | succ n ih=>
  intro v9 v10 r h σ hσ;rw[FF] at h;have s0:= @AB (Y rB ([]:P V));have s1:= @AB (Y (rL (rL rB)) ([v10]:P (P (P V))));have k0:= @A0j; have k1:= @pD;exact gc
theorem A0l{a1 x4 v1 a0 v2}{O7}(pC:U2 a1 a0 O7){n:W}:U3 a1 x4 v1 a0 v2 (E4 a1 x4 v1 a0 v2 O7 n):=by
 induction n with
 | zero=>intro _ _ r h; cases h
 | succ n ih=>
  intro v5 v6 r h σ hσ;rw[E4] at h;have s0:= @AB (Y (rL rB) ([]:P (P V)));have s1:= @AB (Y (rL (rL (rL rB))) ([v6]:P (P (P (P V)))));have k0:= @A0k; have k1:= @pC;exact gc
theorem A0m{a1 a0}{n:W}:U2 a1 a0 (Df a1 a0 n):=by
 induction n with
 | zero=>intro _ _ r h; cases h
 | succ n ih=>
  intro v1 v2 r h σ hσ;rw[Df] at h;have s0:= @AB (Y (rL (rL rB)) ([]:P (P (P V))));have k0:= @A0l;exact gc
instance yo:Ct 23 (∀{a0} {a1} {r},NA a0 a1=N r→FC Z 23 [.ag (X6.row a0),.sc (.sl (Y (rL X0.row) a1))] [.sc (.o 1 (Y (rL (rL (rL rB))) r))]):=by
 refine⟨fun{a0} {a1} {r} h=> ?_⟩;unfold NA at h;refine A5 A4 NJ [4] 74 ?_;have s0:= @AB (Y (rL (rL (rL rB))) ([]:P (P (P (P V)))));have k0:= @A0m;exact gc
/- 92:spec_l21Account -/
def VC:Hw:=([(8,[2,3,6,7,14,15,16],[3,6,7],[704,768])],[])
def eI:=fun a2 a1 (a0:X6) (k_:U→(P U)→(P U)→Q Xo)=>∀{v3 v4 v5} {zr},k_ v3 v4 v5=N zr→Kh Z 92 VC 8 [2,3,6,7,14,15,16] [3,6,7] [704,768] ⟨[pL 2 X0.row a2,pB 3,pB 6,pB 7,pL 14 zE a1,pI 15 (a1.length:U),pI 16 v3],[(3,([aI a0.Forecast.Tide.Mean,aM zD a0.Forecast.Tide.Parts,aM X9.row a0.Forecast.Surges,aM X7.row a0.Chart.Points,aM X2.row a0.Chart.Segments,aM X4.row a0.Fleet,aI a0.Regime.Gap,aB a0.Regime.NoMeet]++dm a0.Crew.row)),(6,[.nil,.nil]),(7,[.own 704,.own 768])],[(704,1,Y rI v4),(768,1,Y rI v5)]⟩ (A8 [.c 6 T 2] [.ag [.o 1 (Y rI zr.Waits),.o 1 (Y rI zr.Calls)]])
theorem A0n{a2 a1 a0}{n:W}:eI a2 a1 a0 (IP a2 a1 a0 n):=by
 induction n with
 | zero=>intro _ _ _ r h; cases h
 | succ n ih=>
  intro v3 v4 v5 r h σ hσ S hS
  conv at hS=>rhs; reduce
  try simp only[zB,zA] at hS
  subst hS;rw[IP] at h;refine AL (Ax ?_);obtain⟨h6,h⟩|⟨h6,h⟩:=ic h
  ·obtain⟨x7,h7,h⟩:=ob h -- Xa;try simp only[hσ,h6,h7,C,E,F,G,H,J]
   refine Bx ?_;obtain⟨x8,h8,h⟩:=ob h;try simp only[h6,h7,h8,C,E,F,G,H,J]
   refine Am ?_;obtain⟨x9,h9,h⟩:=ob h;have h9n:=Au h9;obtain⟨x10,h10,h⟩:=ob h;try simp only[h6,h7,h8,h9,h9n,h10,C,E,F,G,H,J]
   refine AR (row:=rI) (y:=(IntKind.i64.wrap (x9+x10.Cost))) X X h9n X X (by rfl) ?_;try simp only[h6,h7,h8,h9,h9n,h10,C,E,F,G,H,J]
   refine Am ?_;obtain⟨x11,h11,h⟩:=ob h;have h11n:=Au h11;try simp only[h6,h7,h8,h9,h9n,h10,h11,h11n,C,E,F,G,H,J]
   refine AR (row:=rI) (y:=(IntKind.i64.wrap (x11+(1:U)))) X X h11n X X (by rfl) ?_;try simp only[h6,h7,h8,h9,h9n,h10,h11,h11n,C,E,F,G,H,J]
   refine ih h ?_ (by kernel_rfl);try simp only[h6,h7,h8,h9,h9n,h10,h11,h11n,C,E,F,G,H,J,pL,aM,I]
  ·try simp only[hσ,h6,C,E,F,G,H,J]
   cases h;try simp only[H3,C,E,F,G,H,J]
   trivial
instance yq:Ct 92 (∀{a0} {a1} {a2} {r},IN a0 a1 a2=N r→FC Z 92 [.ag (X6.row a0),.sc (.sl (Y zE a1)),.sc (.sl (Y X0.row a2))] [.ag [.o 1 (Y rI r.Waits),.o 1 (Y rI r.Calls)]]):=by
 refine⟨fun{a0} {a1} {a2} {r} h=> ?_⟩;unfold IN at h;refine A5 A4 VC [.c 6 T 2] 52 ?_;intro S hS
 conv at hS=>rhs; reduce
 try simp only[zB,zA] at hS
 subst hS;simp only[C,E,F,G,H,J];try simp only[C,E,F,G,H,J]
 refine Bj ?_;try simp only[C,E,F,G,H,J]
 refine Bx ?_;try simp only[C,E,F,G,H,J]
 refine Am ?_;obtain⟨n1,hn1,h⟩:=ob h;try simp only[C,E,F,G,H,J]
 refine FI (m:= .row 11 1 (Y rI (List.replicate n1 (0:U)))) (Of X X hn1 X (Jc X)) X (L4 X) ?_;obtain⟨n2,hn2,h⟩:=ob h;try simp only[C,E,F,G,H,J]
 refine FI (m:= .row 12 1 (Y rI (List.replicate n2 (0:U)))) (Of X X hn2 X (Jc X)) X (L4 X) ?_;try simp only[C,E,F,G,H,J]
 refine FI (m:= .box 7 [.nil,.nil]) X X (J1 X X) ?_;try simp only[C,E,F,G,H,J]
 refine Am ?_;try simp only[C,E,F,G,H,J]
 refine A0n h ?_ (by kernel_rfl);try simp only[C,E,F,G,H,J,pL,aM,I]
/- 93:spec_CostOf -/
def VD:Hw:=([(8,[3,6,7,8],[],[])],[])
def dK:=fun a0 (k_:U→U→Q U)=>∀{v1 v2} {zr},k_ v1 v2=N zr→Kh Z 93 VD 8 [3,6,7,8] [] [] ⟨[pI 3 v1,pL 6 X0.row a0,pI 7 (a0.length:U),pI 8 v2],[],[]⟩ (A8 [2] [.sc (.v (.int .i64 zr))])
theorem A0o{a0}{n:W}:dK a0 (Kt a0 n):=by
 induction n with
 | zero=>intro _ _ r h; cases h
 | succ n ih=>
  intro v1 v2 r h σ hσ;rw[Kt] at h;exact gc
instance ya:Ct 93 (∀{a0} {r},N2 a0=N r→FC Z 93 [.sc (.sl (Y X0.row a0))] [.sc (.v (.int .i64 r))]):=by
 refine⟨fun{a0} {r} h=> ?_⟩;unfold N2 at h;refine A5 A4 VD [2] 18 ?_;have k0:= @A0o;exact gc
/- 95:spec_ChainsOf -/
def VE:Hw:=([(8,[3,7,8,9],[],[384])],[(19,5,(O,.frz 896))])
def dG:=fun a0 (k_:U→(P (P X3))→Q (P (P X3)))=>∀{v1 v2} {zr},k_ v1 v2=N zr→Kh Z 95 VE 8 [3,7,8,9] [] [384] ⟨[pW 3 384,pL 7 X0.row a0,pI 8 (a0.length:U),pI 9 v1],[],[(384,1,Y (rL X3.row) v2)]⟩ (A8 [2] [.sc (.o 1 (Y (rL X3.row) zr))])
theorem A0p{a0}{n:W}:dG a0 (Ih a0 n):=by
 induction n with
 | zero=>intro _ _ r h; cases h
 | succ n ih=>
  intro v1 v2 r h σ hσ S hS
  conv at hS=>rhs; reduce
  try simp only[zB,zA] at hS
  subst hS;rw[Ih] at h;refine AL (Ax ?_);obtain⟨h3,h⟩|⟨h3,h⟩:=ic h
  ·obtain⟨x4,h4,h⟩:=ob h -- X0;try simp only[hσ,h3,h4,C,E,F,G,H,J]
   refine Bx ?_;try simp only[h3,h4,C,E,F,G,H,J]
   refine B6 (es:=Y X3.row ([]:P X3)) ?_;obtain⟨h5,h⟩:=AU h;try simp only[h3,h4,h5,C,E,F,G,H,J]
   refine Cp ?_;try simp only[h3,h4,h5,C,E,F,G,H,J]
   refine B6 (es:=Y (rL X3.row) ([x4.Passages]:P (P X3))) ?_;obtain⟨h6,h⟩:=AU h;try simp only[h3,h4,h5,h6,C,E,F,G,H,J]
   refine ih h ?_ (by kernel_rfl);try simp only[h3,h4,h5,h6,C,E,F,G,H,J,pL,aM,I]
  ·try simp only[hσ,h3,C,E,F,G,H,J]
   cases h;exact t0
instance Tg:Ct 95 (∀{a0} {r},Gv a0=N r→FC Z 95 [.sc (.sl (Y X0.row a0))] [.sc (.o 1 (Y (rL X3.row) r))]):=by
 refine⟨fun{a0} {r} h=> ?_⟩;unfold Gv at h;refine A5 A4 VE [2] 22 ?_;have s0:= @AB (Y (rL X3.row) ([]:P (P X3)));have k0:= @A0p;exact gc
/- 188:spec_PassageOk -/
instance A91:Ct 188 (∀{a0} {a1} {a2} {r},KD a0 a1 a2=N r→FC Z 188 [.ag (X1.row a0),.sc (.sl (Y X4.row a1)),.ag (X3.row a2)] [.sc (.v (.bool r))]):=by
 refine⟨fun{a0} {a1} {a2} {r} h=> ?_⟩;unfold KD at h;refine A5 A4 h0 [6] 60 ?_;exact gc
/- 189:spec_l08Ends -/
instance B0q:Ct 189 (∀{a0} {a1} {r},FB a0 a1=N r→FC Z 189 [.ag (X1.row a0),.ag (X3.row a1)] [.sc (.v (.int .i64 r.1)),.sc (.v (.int .i64 r.2))]):=by
 refine⟨fun{a0} {a1} {r} h=> ?_⟩;unfold FB at h;refine A5 A4 h0 [4,5] 23 ?_;exact gc
/- 168:spec_l14Tugs -/
def RX:Hw:=([(8,[1,3,8,15,16,17],[3],[896]),(33,[1,3,8,10,11,12,13,15,16,17],[3,10],[896])],[])
def eD:=fun a1 (r7:U × U) a2 v1 (a0:X1) (x4:X3) (k_:U→(P Xb)→Q ((P Xb) × V))=>∀{v8 v9} {zr},k_ v8 v9=N zr→Kh Z 168 RX 33 [1,3,8,10,11,12,13,15,16,17] [3,10] [896] ⟨[pL 1 X4.row a1,pB 3,pW 8 896,pB 10,pI 11 r7.1,pI 12 r7.2,pI 13 v8,pL 15 X3.row a2,pI 16 (a2.length:U),pI 17 v1],[(3,[aM X7.row a0.Points,aM X2.row a0.Segments]),(10,(dm x4.row))],[(896,4,Y zC v9)]⟩ (A8 [6,7] [.sc (.o 4 (Y zC zr.1)),.sc (.v (.bool zr.2))])
def U1:=fun a1 a2 (a0:X1) (k_:U→(P Xb)→Q ((P Xb) × V))=>∀{v1 v2} {zr},k_ v1 v2=N zr→Kh Z 168 RX 8 [1,3,8,15,16,17] [3] [896] ⟨[pL 1 X4.row a1,pB 3,pW 8 896,pL 15 X3.row a2,pI 16 (a2.length:U),pI 17 v1],[(3,[aM X7.row a0.Points,aM X2.row a0.Segments])],[(896,4,Y zC v2)]⟩ (A8 [6,7] [.sc (.o 4 (Y zC zr.1)),.sc (.v (.bool zr.2))])
theorem A0q{a1 r7 a2 v1 a0 x4}{O6}(pA:U1 a1 a2 a0 O6){n:W}:eD a1 r7 a2 v1 a0 x4 (GL a1 r7 a2 v1 a0 x4 O6 n):=by
 induction n with
 | zero=>intro _ _ r h; cases h
 | succ n ih=>
  intro v8 v9 r h σ hσ;rw[GL] at h;have s0:= @AB (Y zC ([(⟨x4.Start,x4.End,r7.1,r7.2⟩:Xb)]:P Xb));have k0:= @pA;exact gc
theorem A0r{a1 a2 a0}{n:W}:U1 a1 a2 a0 (FE a1 a2 a0 n):=by
 induction n with
 | zero=>intro _ _ r h; cases h
 | succ n ih=>
  intro v1 v2 r h σ hσ;rw[FE] at h;have k0:= @A0q;exact gc
instance B0w:Ct 168 (∀{a0} {a1} {a2} {r},PQ a0 a1 a2=N r→FC Z 168 [.ag (X1.row a0),.sc (.sl (Y X4.row a1)),.sc (.sl (Y X3.row a2))] [.sc (.o 4 (Y zC r.1)),.sc (.v (.bool r.2))]):=by
 refine⟨fun{a0} {a1} {a2} {r} h=> ?_⟩;unfold PQ at h;refine A5 A4 RX [6,7] 57 ?_;have s0:= @AB (Y zC ([]:P Xb));have k0:= @A0r;exact gc
/- 211:spec_l13Duty -/
instance B0u:Ct 211 (∀{a0} {r},IK a0=N r→FC Z 211 [.ag (zC a0)] [.sc (.v (.bool r))]):=by
 refine⟨fun{a0} {r} h=> ?_⟩;unfold IK at h;refine A5 A4 h0 [2] 28 ?_;exact gc
/- 190:spec_DutiesOk -/
def VG:Hw:=([(14,[8,9,10],[],[])],[])
def dM:=fun a0 (k_:U→Q V)=>∀{v2} {zr},k_ v2=N zr→Kh Z 190 VG 14 [8,9,10] [] [] ⟨[pL 8 zC a0,pI 9 (a0.length:U),pI 10 v2],[],[]⟩ (A8 [2] [.sc (.v (.bool zr))])
theorem A0s{a0}{n:W}:dM a0 (Io a0 n):=by
 induction n with
 | zero=>intro _ r h; cases h
 | succ n ih=>
  intro v2 r h σ hσ;rw[Io] at h;exact gc
instance A9n:Ct 190 (∀{a0} {r},N3 a0=N r→FC Z 190 [.sc (.sl (Y zC a0))] [.sc (.v (.bool r))]):=by
 refine⟨fun{a0} {r} h=> ?_⟩;unfold N3 at h;refine A5 A4 VG [2] 18 ?_;have k0:= @A0s;exact gc
/- 224:spec_Gap -/
def VH:Hw:=([(5,[0,1,6,7,25],[6,7],[])],[])
def dP:=fun a0 a1 (a2:Xb) (a3:Xb) (k_:V→Q (U × V))=>∀{v6} {zr},k_ v6=N zr→Kh Z 224 VH 5 [0,1,6,7,25] [6,7] [] ⟨[pI 0 a0,pL 1 rI a1,pB 6,pB 7,(25,vc (aB v6))],[(6,(dm a2.row)),(7,(dm a3.row))],[]⟩ (A8 [8,9] [.sc (.v (.int .i64 zr.1)),.sc (.v (.bool zr.2))])
theorem A0t{a0 a1 a2 a3}:dP a0 a1 a2 a3 (Kw a0 a1 a2 a3):=by
 intro v6 r h σ hσ;unfold Kw at h;exact gc
instance A9q:Ct 224 (∀{a0} {a1} {a2} {a3} {r},PI a0 a1 a2 a3=N r→FC Z 224 [.sc (.int .i64 a0),.sc (.sl (Y rI a1)),.ag (zC a2),.ag (zC a3)] [.sc (.v (.int .i64 r.1)),.sc (.v (.bool r.2))]):=by
 refine⟨fun{a0} {a1} {a2} {a3} {r} h=> ?_⟩;unfold PI at h;refine A5 A4 VH [8,9] 37 ?_;have k0:= @A0t;exact gc
/- 212:spec_CanFollow -/
instance A9j:Ct 212 (∀{a0} {a1} {a2} {a3} {r},Ks a0 a1 a2 a3=N r→FC Z 212 [.sc (.int .i64 a0),.sc (.sl (Y rI a1)),.ag (zC a2),.ag (zC a3)] [.sc (.v (.bool r))]):=by
 refine⟨fun{a0} {a1} {a2} {a3} {r} h=> ?_⟩;unfold Ks at h;refine A5 A4 h0 [8] 37 ?_;exact gc
/- 191:spec_l13Both -/
def RY:Hw:=([(8,[0,1,2,7,14,15,16],[],[832]),(25,[0,1,2,7,9,10,14,15,16,21,22,23],[9],[832,1280])],[(38,2,(O,.frz 1280))])
def dy:=fun a0 a1 a2 v1 (x4:Xb) v2 (k_:U→(P V)→Q (P (P V)))=>∀{v5 v6} {zr},k_ v5 v6=N zr→Kh Z 191 RY 25 [0,1,2,7,9,10,14,15,16,21,22,23] [9] [832,1280] ⟨[pI 0 a0,pL 1 rI a1,pL 2 zC a2,pW 7 832,pB 9,pW 10 1280,pL 14 zC a2,pI 15 (a2.length:U),pI 16 v1,pL 21 zC a2,pI 22 (a2.length:U),pI 23 v5],[(9,(dm x4.row))],[(832,1,Y (rL rB) v2),(1280,1,Y rB v6)]⟩ (A8 [6] [.sc (.o 1 (Y (rL rB) zr))])
def U0:=fun a0 a1 a2 (k_:U→(P (P V))→Q (P (P V)))=>∀{v1 v2} {zr},k_ v1 v2=N zr→Kh Z 191 RY 8 [0,1,2,7,14,15,16] [] [832] ⟨[pI 0 a0,pL 1 rI a1,pL 2 zC a2,pW 7 832,pL 14 zC a2,pI 15 (a2.length:U),pI 16 v1],[],[(832,1,Y (rL rB) v2)]⟩ (A8 [6] [.sc (.o 1 (Y (rL rB) zr))])
theorem A0u{a0 a1 a2 v1 x4 v2}{L1}(oz:U0 a0 a1 a2 L1){n:W}:dy a0 a1 a2 v1 x4 v2 (GH a0 a1 a2 v1 x4 v2 L1 n):=by
 induction n with
 | zero=>intro _ _ r h; cases h
 | succ n ih=>
  intro v5 v6 r h σ hσ;rw[GH] at h;have s0:= @AB (Y rB ([T]:P V));have s1:=fun(r12:V)=> @AB (Y rB ([r12]:P V))
  have s2:= @AB (Y (rL rB) ([v6]:P (P V)));have k0:= @oz;exact gc
theorem A0w{a0 a1 a2}{n:W}:U0 a0 a1 a2 (FD a0 a1 a2 n):=by
 induction n with
 | zero=>intro _ _ r h; cases h
 | succ n ih=>
  intro v1 v2 r h σ hσ;rw[FD] at h;have s0:= @AB (Y rB ([]:P V));have k0:= @A0u;exact gc
instance B0t:Ct 191 (∀{a0} {a1} {a2} {r},Nx a0 a1 a2=N r→FC Z 191 [.sc (.int .i64 a0),.sc (.sl (Y rI a1)),.sc (.sl (Y zC a2))] [.sc (.o 1 (Y (rL rB) r))]):=by
 refine⟨fun{a0} {a1} {a2} {r} h=> ?_⟩;unfold Nx at h;refine A5 A4 RY [6] 49 ?_;have s0:= @AB (Y (rL rB) ([]:P (P V)));have k0:= @A0w;exact gc
/- 192:spec_l13Search -/
def NK:Hw:=([(16,[0,1,2,8,23,24,25],[],[]),(33,[0,1,2,8,11],[],[]),(48,[0,1,2,8,11,12,44,45,46],[],[]),(80,[0,1,2,8,11],[],[])],[(72,8,(O,.frz 4480))])
def eB:=fun a0 a1 a2 v2 v6 (k_:Q ((P U) × V))=>∀{zr},k_=N zr→Kh Z 192 NK 80 [0,1,2,8,11] [] [] ⟨[pL 0 (rL rB) a0,pL 1 rI a1,pI 2 a2,pI 8 v2,pI 11 v6],[],[]⟩ (A8 [6,7] [.sc (.v (.sl (Y rI zr.1))),.sc (.v (.bool zr.2))])
def eA:=fun a0 a1 a2 v2 v6 (k_:V→U→Q ((P U) × V))=>∀{v9 v10} {zr},k_ v9 v10=N zr→Kh Z 192 NK 48 [0,1,2,8,11,12,44,45,46] [] [] ⟨[pL 0 (rL rB) a0,pL 1 rI a1,pI 2 a2,pI 8 v2,pI 11 v6,(12,vc (aB v9)),pL 44 rI a1,pI 45 (a1.length:U),pI 46 v10],[],[]⟩ (A8 [6,7] [.sc (.v (.sl (Y rI zr.1))),.sc (.v (.bool zr.2))])
def QZ:=fun a0 a1 a2 v2 (k_:U→Q ((P U) × V))=>∀{v6} {zr},k_ v6=N zr→Kh Z 192 NK 33 [0,1,2,8,11] [] [] ⟨[pL 0 (rL rB) a0,pL 1 rI a1,pI 2 a2,pI 8 v2,pI 11 v6],[],[]⟩ (A8 [6,7] [.sc (.v (.sl (Y rI zr.1))),.sc (.v (.bool zr.2))])
def dz:=fun a0 a1 a2 (k_:U→U→Q ((P U) × V))=>∀{v2 v3} {zr},k_ v2 v3=N zr→Kh Z 192 NK 16 [0,1,2,8,23,24,25] [] [] ⟨[pL 0 (rL rB) a0,pL 1 rI a1,pI 2 a2,pI 8 v2,pL 23 rI a1,pI 24 (a1.length:U),pI 25 v3],[],[]⟩ (A8 [6,7] [.sc (.v (.sl (Y rI zr.1))),.sc (.v (.bool zr.2))])
theorem A0x{rec_:(P (P V))→(P U)→U→Q ((P U) × V)}(h_rec:∀(a0:P (P V)) (a1:P U) (a2:U) zr,rec_ a0 a1 a2=N zr→FC Z 192 [.sc (.sl (Y (rL rB) a0)),.sc (.sl (Y rI a1)),.sc (.int .i64 a2)] [.sc (.v (.sl (Y rI zr.1))),.sc (.v (.bool zr.2))]){a0 a1 a2 v2 v6}{Dm}(WG:QZ a0 a1 a2 v2 Dm):eB a0 a1 a2 v2 v6 (KK rec_ a0 a1 a2 v2 v6 Dm):=by
 intro r h σ hσ;unfold KK at h;have:Ct 192 _:=⟨h_rec⟩;have k0:= @WG;exact gc
theorem A0y{rec_:(P (P V))→(P U)→U→Q ((P U) × V)}(h_rec:∀(a0:P (P V)) (a1:P U) (a2:U) zr,rec_ a0 a1 a2=N zr→FC Z 192 [.sc (.sl (Y (rL rB) a0)),.sc (.sl (Y rI a1)),.sc (.int .i64 a2)] [.sc (.v (.sl (Y rI zr.1))),.sc (.v (.bool zr.2))]){a0 a1 a2 v2 v6}{Dm}(WG:QZ a0 a1 a2 v2 Dm){n:W}:eA a0 a1 a2 v2 v6 (DE rec_ a0 a1 a2 v2 v6 Dm n):=by
 induction n with
 | zero=>intro _ _ r h; cases h
 | succ n ih=>
  intro v9 v10 r h σ hσ;rw[DE] at h;have:Ct 192 _:=⟨h_rec⟩;have s0:= @AB (Y rI ([]:P U));have s1:= @AB (Y rI ([v6]:P U));have k0:= @A0x;exact gc
theorem A0z{rec_:(P (P V))→(P U)→U→Q ((P U) × V)}(h_rec:∀(a0:P (P V)) (a1:P U) (a2:U) zr,rec_ a0 a1 a2=N zr→FC Z 192 [.sc (.sl (Y (rL rB) a0)),.sc (.sl (Y rI a1)),.sc (.int .i64 a2)] [.sc (.v (.sl (Y rI zr.1))),.sc (.v (.bool zr.2))]){a0 a1 a2 v2}{n:W}:QZ a0 a1 a2 v2 (E3 rec_ a0 a1 a2 v2 n):=by
 induction n with
 | zero=>intro _ r h; cases h
 | succ n ih=>
  intro v6 r h σ hσ;rw[E3] at h;have:Ct 192 _:=⟨h_rec⟩;have k0:= @A0y;exact gc
theorem A00{rec_:(P (P V))→(P U)→U→Q ((P U) × V)}(h_rec:∀(a0:P (P V)) (a1:P U) (a2:U) zr,rec_ a0 a1 a2=N zr→FC Z 192 [.sc (.sl (Y (rL rB) a0)),.sc (.sl (Y rI a1)),.sc (.int .i64 a2)] [.sc (.v (.sl (Y rI zr.1))),.sc (.v (.bool zr.2))]){a0 a1 a2}{n:W}:dz a0 a1 a2 (GI rec_ a0 a1 a2 n):=by
 induction n with
 | zero=>intro _ _ r h; cases h
 | succ n ih=>
  intro v2 v3 r h σ hσ;rw[GI] at h;have:Ct 192 _:=⟨h_rec⟩;have k0:= @A0z;exact gc
theorem yl(rec_:(P (P V))→(P U)→U→Q ((P U) × V))(a0:P (P V))(a1:P U)(a2:U)(r:(P U) × V)(h_rec:∀(a0:P (P V)) (a1:P U) (a2:U) zr,rec_ a0 a1 a2=N zr→FC Z 192 [.sc (.sl (Y (rL rB) a0)),.sc (.sl (Y rI a1)),.sc (.int .i64 a2)] [.sc (.v (.sl (Y rI zr.1))),.sc (.v (.bool zr.2))])(h:Ny rec_ a0 a1 a2=N r):FC Z 192 [.sc (.sl (Y (rL rB) a0)),.sc (.sl (Y rI a1)),.sc (.int .i64 a2)] [.sc (.v (.sl (Y rI r.1))),.sc (.v (.bool r.2))]:=by
 unfold Ny at h;refine A5 A4 NK [6,7] 82 ?_;have:Ct 192 _:=⟨h_rec⟩;have k0:= @A00;exact gc
theorem ym:∀(n:W) (a0:P (P V)) (a1:P U) (a2:U) (r:(P U) × V),Cy n a0 a1 a2=N r→FC Z 192 [.sc (.sl (Y (rL rB) a0)),.sc (.sl (Y rI a1)),.sc (.int .i64 a2)] [.sc (.v (.sl (Y rI r.1))),.sc (.v (.bool r.2))]:=by
 intro n
 induction n with
 | zero=>intro _ _ _ r h; cases h
 | succ n ih=>intro a0 a1 a2 r h; rw[Cy] at h; exact yl (Cy n) a0 a1 a2 r ih h
theorem yk{a0}{a1}{a2}{r}(h:PP a0 a1 a2=N r):FC Z 192 [.sc (.sl (Y (rL rB) a0)),.sc (.sl (Y rI a1)),.sc (.int .i64 a2)] [.sc (.v (.sl (Y rI r.1))),.sc (.v (.bool r.2))]:=ym bigN a0 a1 a2 r h
/- 169:spec_LeastCover -/
def RZ:Hw:=([(5,[0,1,2,21],[],[]),(16,[2,9,10],[],[])],[(11,4,(O,.frz 1600)),(26,3,(O,.frz 2176))])
def dV:=fun a2 r6 (k_:U→Q ((P U) × U × V))=>∀{v7} {zr},k_ v7=N zr→Kh Z 169 RZ 16 [2,9,10] [] [] ⟨[pL 2 zC a2,pL 9 (rL rB) r6,pI 10 v7],[],[]⟩ (A8 [6,7,8] [.sc (.v (.sl (Y rI zr.1))),.sc (.v (.int .i64 zr.2.1)),.sc (.v (.bool zr.2.2))])
def dU:=fun a0 a1 a2 (k_:V→Q ((P U) × U × V))=>∀{v4} {zr},k_ v4=N zr→Kh Z 169 RZ 5 [0,1,2,21] [] [] ⟨[pI 0 a0,pL 1 rI a1,pL 2 zC a2,(21,vc (aB v4))],[],[]⟩ (A8 [6,7,8] [.sc (.v (.sl (Y rI zr.1))),.sc (.v (.int .i64 zr.2.1)),.sc (.v (.bool zr.2.2))])
theorem A01{a2 r6}{n:W}:dV a2 r6 (It a2 r6 n):=by
 induction n with
 | zero=>intro _ r h; cases h
 | succ n ih=>
  intro v7 r h σ hσ S hS
  conv at hS=>rhs; reduce
  try simp only[zB,zA] at hS
  subst hS;rw[It] at h;refine AL (Ax ?_);obtain⟨h8,h⟩|⟨h8,h⟩:=ic h
  ·try simp only[hσ,h8,C,E,F,G,H,J]
   refine B6 (es:=Y rI ([]:P U)) ?_;try simp only[h8,C,E,F,G,H,J]
   refine Cp ?_;obtain⟨r9,h9,h⟩:=ob h;try simp only[h8,C,E,F,G,H,J]
   refine AI (yk h9) ?_;obtain⟨h10,h⟩|⟨h10,h⟩:=ic h
   ·try simp only[h8,h10,C,E,F,G,H,J]
    cases h;trivial
   ·try simp only[h8,h10,C,E,F,G,H,J]
    refine ih h ?_ (by kernel_rfl);try simp only[h8,h10,C,E,F,G,H,J,pL,aM,I]
  ·try simp only[hσ,h8,C,E,F,G,H,J]
   cases h;trivial
theorem A02{a0 a1 a2}:dU a0 a1 a2 (N9 a0 a1 a2):=by
 intro v4 r h σ hσ;unfold N9 at h;have k0:= @A01;exact gc
instance yc:Ct 169 (∀{a0} {a1} {a2} {r},Ir a0 a1 a2=N r→FC Z 169 [.sc (.int .i64 a0),.sc (.sl (Y rI a1)),.sc (.sl (Y zC a2))] [.sc (.v (.sl (Y rI r.1))),.sc (.v (.int .i64 r.2.1)),.sc (.v (.bool r.2.2))]):=by
 refine⟨fun{a0} {a1} {a2} {r} h=> ?_⟩;unfold Ir at h;refine A5 A4 RZ [6,7,8] 42 ?_;have k0:= @A02;exact gc
/- 140:spec_TugsNeeded -/
def oU:Hw:=([],[(13,3,(O,.frz 1152))])
instance B0f:Ct 140 (∀{a0} {a1} {a2} {a3} {r},KE a0 a1 a2 a3=N r→FC Z 140 [.ag (Xn.row a0),.ag (X1.row a1),.sc (.sl (Y X4.row a2)),.sc (.sl (Y X3.row a3))] [.sc (.v (.int .i64 r))]):=by
 refine⟨fun{a0} {a1} {a2} {a3} {r} h=> ?_⟩;unfold KE at h;refine A5 A4 oU [8] 39 ?_;exact gc
/- 193:spec_IsChain -/
def VJ:Hw:=([(14,[1,2,14,15,16],[2],[])],[])
def dR:=fun a1 (a0:X1) (k_:U→Q V)=>∀{v3} {zr},k_ v3=N zr→Kh Z 193 VJ 14 [1,2,14,15,16] [2] [] ⟨[pL 1 X3.row a1,pB 2,pL 14 X3.row a1,pI 15 (a1.length:U),pI 16 v3],[(2,[aM X7.row a0.Points,aM X2.row a0.Segments])],[]⟩ (A8 [4] [.sc (.v (.bool zr))])
theorem A03{a1 a0}{n:W}:dR a1 a0 (Gx a1 a0 n):=by
 induction n with
 | zero=>intro _ r h; cases h
 | succ n ih=>
  intro v3 r h σ hσ;rw[Gx] at h;exact gc
instance A9t:Ct 193 (∀{a0} {a1} {r},N6 a0 a1=N r→FC Z 193 [.ag (X1.row a0),.sc (.sl (Y X3.row a1))] [.sc (.v (.bool r))]):=by
 refine⟨fun{a0} {a1} {r} h=> ?_⟩;unfold N6 at h;refine A5 A4 VJ [4] 71 ?_;have k0:= @A03;exact gc
/- 170:spec_PilotDuty -/
def S0:Hw:=([(5,[1,2,3,6,23],[3,6],[]),(14,[1,2,3,6,25,26,27],[3,6],[])],[])
def da:=fun a1 a2 (a0:X1) (k_:U→Q (Xb × V))=>∀{v5} {zr},k_ v5=N zr→Kh Z 170 S0 14 [1,2,3,6,25,26,27] [3,6] [] ⟨[pL 1 X4.row a1,pL 2 X3.row a2,pB 3,pB 6,pL 25 X3.row a2,pI 26 (a2.length:U),pI 27 v5],[(3,[aM X7.row a0.Points,aM X2.row a0.Segments]),(6,[aI (0:U),aI (0:U),aI (0:U),aI (0:U)])],[]⟩ (A8 [.c 6 T 4,7] [.ag [.v (.int .i64 zr.1.From),.v (.int .i64 zr.1.To),.v (.int .i64 zr.1.A),.v (.int .i64 zr.1.B)],.sc (.v (.bool zr.2))])
def dZ:=fun a1 a2 (a0:X1) (k_:V→Q (Xb × V))=>∀{v3} {zr},k_ v3=N zr→Kh Z 170 S0 5 [1,2,3,6,23] [3,6] [] ⟨[pL 1 X4.row a1,pL 2 X3.row a2,pB 3,pB 6,(23,vc (aB v3))],[(3,[aM X7.row a0.Points,aM X2.row a0.Segments]),(6,[aI (0:U),aI (0:U),aI (0:U),aI (0:U)])],[]⟩ (A8 [.c 6 T 4,7] [.ag [.v (.int .i64 zr.1.From),.v (.int .i64 zr.1.To),.v (.int .i64 zr.1.A),.v (.int .i64 zr.1.B)],.sc (.v (.bool zr.2))])
theorem A04{a1 a2 a0}{n:W}:da a1 a2 a0 (Ix a1 a2 a0 n):=by
 induction n with
 | zero=>intro _ r h; cases h
 | succ n ih=>
  intro v5 r h σ hσ;rw[Ix] at h;exact gc
theorem A05{a1 a2 a0}:dZ a1 a2 a0 (Ng a1 a2 a0):=by
 intro v3 r h σ hσ;unfold Ng at h;have k0:= @A04;exact gc
instance yf:Ct 170 (∀{a0} {a1} {a2} {r},Nf a0 a1 a2=N r→FC Z 170 [.ag (X1.row a0),.sc (.sl (Y X4.row a1)),.sc (.sl (Y X3.row a2))] [.ag [.v (.int .i64 r.1.From),.v (.int .i64 r.1.To),.v (.int .i64 r.1.A),.v (.int .i64 r.1.B)],.sc (.v (.bool r.2))]):=by
 refine⟨fun{a0} {a1} {a2} {r} h=> ?_⟩;unfold Nf at h;refine A5 A4 S0 [.c 6 T 4,7] 67 ?_;have k0:= @A05;exact gc
/- 141:spec_PilotsNeeded -/
def VK:Hw:=([(16,[2,4,5,9,21,22,23],[4,5],[1280])],[(46,5,(O,.frz 1280))])
def db:=fun a2 a3 (a0:Xn) (a1:X1) (k_:U→(P Xb)→Q U)=>∀{v3 v4} {zr},k_ v3 v4=N zr→Kh Z 141 VK 16 [2,4,5,9,21,22,23] [4,5] [1280] ⟨[pL 2 X4.row a2,pB 4,pB 5,pW 9 1280,pL 21 (rL X3.row) a3,pI 22 (a3.length:U),pI 23 v3],[(4,(dm a0.row)),(5,[aM X7.row a1.Points,aM X2.row a1.Segments])],[(1280,4,Y zC v4)]⟩ (A8 [8] [.sc (.v (.int .i64 zr))])
theorem A06{a2 a3 a0 a1}{n:W}:db a2 a3 a0 a1 (Gz a2 a3 a0 a1 n):=by
 induction n with
 | zero=>intro _ _ r h; cases h
 | succ n ih=>
  intro v3 v4 r h σ hσ S hS
  conv at hS=>rhs; reduce
  try simp only[zB,zA] at hS
  subst hS;rw[Gz] at h;refine AL (Ax ?_);obtain⟨h5,h⟩|⟨h5,h⟩:=ic h
  ·obtain⟨x6,h6,h⟩:=ob h -- P X3;obtain⟨h7,h⟩|⟨h7,h⟩:=ic h
   ·try simp only[hσ,h5,h6,h7,C,E,F,G,H,J]
    refine ih h ?_ (by kernel_rfl);try simp only[h5,h6,h7,C,E,F,G,H,J,pL,aM,I]
   ·obtain⟨r9,h9,h⟩:=ob h -- Xb × V;try simp only[hσ,h5,h6,h7,C,E,F,G,H,J]
    refine AI (Ac yf h9) ?_;try simp only[h5,h6,h7,C,E,F,G,H,J]
    refine Bx ?_;obtain⟨h10,h⟩|⟨h10,h⟩:=ic h
    ·try simp only[h5,h6,h7,h10,C,E,F,G,H,J]
     refine B6 (es:=Y zC ([r9.1]:P Xb)) ?_;obtain⟨h11,h⟩:=AU h;try simp only[h5,h6,h7,h10,h11,C,E,F,G,H,J]
     refine ih h ?_ (by kernel_rfl);try simp only[h5,h6,h7,h10,h11,C,E,F,G,H,J,pL,aM,I]
    ·try simp only[h5,h6,h7,h10,C,E,F,G,H,J]
     cases h;exact t0
  ·try simp only[hσ,h5,C,E,F,G,H,J]
   refine Cp ?_;obtain⟨r12,h12,h⟩:=ob h;try simp only[h5,C,E,F,G,H,J]
   refine AI (Ac yc h12) ?_;obtain⟨h13,h⟩|⟨h13,h⟩:=ic h
   ·try simp only[h5,h13,C,E,F,G,H,J]
    cases h;exact t0
   ·try simp only[h5,h13,C,E,F,G,H,J]
    cases h;exact t0
instance A92:Ct 141 (∀{a0} {a1} {a2} {a3} {r},Nh a0 a1 a2 a3=N r→FC Z 141 [.ag (Xn.row a0),.ag (X1.row a1),.sc (.sl (Y X4.row a2)),.sc (.sl (Y (rL X3.row) a3))] [.sc (.v (.int .i64 r))]):=by
 refine⟨fun{a0} {a1} {a2} {a3} {r} h=> ?_⟩;unfold Nh at h;refine A5 A4 VK [8] 57 ?_;have s0:= @AB (Y zC ([]:P Xb));have k0:= @A06;exact gc
/- 94:spec_CrewSuffices -/
def VL:Hw:=([(8,[2,3,4,5,9,13,14,15],[4,5],[768])],[])
def dL:=fun a2 a3 (a0:Xn) (a1:X1) (k_:U→(P X3)→Q V)=>∀{v1 v2} {zr},k_ v1 v2=N zr→Kh Z 94 VL 8 [2,3,4,5,9,13,14,15] [4,5] [768] ⟨[pL 2 X4.row a2,pL 3 (rL X3.row) a3,pB 4,pB 5,pW 9 768,pL 13 (rL X3.row) a3,pI 14 (a3.length:U),pI 15 v1],[(4,(dm a0.row)),(5,[aM X7.row a1.Points,aM X2.row a1.Segments])],[(768,5,Y X3.row v2)]⟩ (A8 [8] [.sc (.v (.bool zr))])
theorem A07{a2 a3 a0 a1}{n:W}:dL a2 a3 a0 a1 (In a2 a3 a0 a1 n):=by
 induction n with
 | zero=>intro _ _ r h; cases h
 | succ n ih=>
  intro v1 v2 r h σ hσ;rw[In] at h;exact gc
instance Th:Ct 94 (∀{a0} {a1} {a2} {a3} {r},Im a0 a1 a2 a3=N r→FC Z 94 [.ag (Xn.row a0),.ag (X1.row a1),.sc (.sl (Y X4.row a2)),.sc (.sl (Y (rL X3.row) a3))] [.sc (.v (.bool r))]):=by
 refine⟨fun{a0} {a1} {a2} {a3} {r} h=> ?_⟩;unfold Im at h;refine A5 A4 VL [8] 41 ?_;have s0:= @AB (Y X3.row ([]:P X3));have k0:= @A07;exact gc
/- 57:spec_l21Take -/
def NL:Hw:=([(6,[0,1,4,12,13,14],[99999999999],[90000,704]),(25,[0,1,4,7,43,44,45],[99999999999],[90000,704,2688]),(46,[0,1,7,10],[99999999999],[90000])],[(39,3,(O,.frz 704))])
def eM:=fun a1 v10 r14 (a0:Xf) (k_:V→Q Xf)=>∀{v28} {zr},k_ v28=N zr→Kh Z 57 NL 46 [0,1,7,10] [99999999999] [90000] ⟨[(0,vc (.pb 99999999999 0)),pL 1 rI a1,pI 7 v10,pI 10 r14],[(99999999999,([aI a0.h.Forecast.Tide.Mean,aM zD a0.h.Forecast.Tide.Parts,aM X9.row a0.h.Forecast.Surges,aM X7.row a0.h.Chart.Points,aM X2.row a0.h.Chart.Segments,aM X4.row a0.h.Fleet,aI a0.h.Regime.Gap,aB a0.h.Regime.NoMeet]++dm a0.h.Crew.row++ [aM zE a0.calls,aM (rL X0.row) a0.lists,aL (Y (rL (rL (rL rB))) a0.clash),.own 90000,aI a0.most,aI a0.cost,aB v28]))],[(90000,1,Y rI a0.best)]⟩ (D2 [] [] (Ck zr) (Cl zr))
def eL:=fun a1 (r9:Xo) (a0:Xf) v2 (k_:U→U→Q Xf)=>∀{v10 v11} {zr},k_ v10 v11=N zr→Kh Z 57 NL 25 [0,1,4,7,43,44,45] [99999999999] [90000,704,2688] ⟨[(0,vc (.pb 99999999999 0)),pL 1 rI a1,pW 4 704,pI 7 v10,pW 43 2688,pI 44 (r9.Waits.length:U),pI 45 v11],[(99999999999,([aI a0.h.Forecast.Tide.Mean,aM zD a0.h.Forecast.Tide.Parts,aM X9.row a0.h.Forecast.Surges,aM X7.row a0.h.Chart.Points,aM X2.row a0.h.Chart.Segments,aM X4.row a0.h.Fleet,aI a0.h.Regime.Gap,aB a0.h.Regime.NoMeet]++dm a0.h.Crew.row++ [aM zE a0.calls,aM (rL X0.row) a0.lists,aL (Y (rL (rL (rL rB))) a0.clash),.own 90000,aI a0.most,aI a0.cost,aB a0.found]))],[(90000,1,Y rI a0.best),(704,4,Y X0.row v2),(2688,1,Y rI r9.Waits)]⟩ (D2 [] [] (Ck zr) (Cl zr))
def eK:=fun a1 (a0:Xf) (k_:U→(P X0)→Q Xf)=>∀{v1 v2} {zr},k_ v1 v2=N zr→Kh Z 57 NL 6 [0,1,4,12,13,14] [99999999999] [90000,704] ⟨[(0,vc (.pb 99999999999 0)),pL 1 rI a1,pW 4 704,pL 12 rI a1,pI 13 (a1.length:U),pI 14 v1],[(99999999999,([aI a0.h.Forecast.Tide.Mean,aM zD a0.h.Forecast.Tide.Parts,aM X9.row a0.h.Forecast.Surges,aM X7.row a0.h.Chart.Points,aM X2.row a0.h.Chart.Segments,aM X4.row a0.h.Fleet,aI a0.h.Regime.Gap,aB a0.h.Regime.NoMeet]++dm a0.h.Crew.row++ [aM zE a0.calls,aM (rL X0.row) a0.lists,aL (Y (rL (rL (rL rB))) a0.clash),.own 90000,aI a0.most,aI a0.cost,aB a0.found]))],[(90000,1,Y rI a0.best),(704,4,Y X0.row v2)]⟩ (D2 [] [] (Ck zr) (Cl zr))
theorem Tp{a1 v10 r14 a0}:eM a1 v10 r14 a0 (KL a1 v10 r14 a0):=by
 intro v28 r h σ hσ S hS
 conv at hS=>rhs; reduce
 try simp only[zB,zA] at hS
 subst hS;refine Ax ?_;unfold KL at h;try simp only[hσ,C,E,F,G,H,J]
 refine B6 (es:=Y rI ([]:P U)) ?_;obtain⟨h29,h⟩:=AU h;try simp only[h29,C,E,F,G,H,J]
 cases h;exact⟨trivial,[6720],by decide,by decide,X,X⟩
theorem A09{a1 r9 a0 v2}{n:W}:eL a1 r9 a0 v2 (Dh a1 r9 a0 v2 n):=by
 induction n with
 | zero=>intro _ _ r h; cases h
 | succ n ih=>
  intro v10 v11 r h σ hσ S hS
  conv at hS=>rhs; reduce
  try simp only[zB,zA] at hS
  subst hS;rw[Dh] at h;refine AL (Ax ?_);obtain⟨h12,h⟩|⟨h12,h⟩:=ic h
  ·obtain⟨x13,h13,h⟩:=ob h -- U;have h13n:=Au h13;try simp only[hσ,h12,h13,h13n,C,E,F,G,H,J]
   refine ih h ?_ (by kernel_rfl);try simp only[h12,h13,h13n,C,E,F,G,H,J,pL,aM,I]
  ·obtain⟨r14,h14,h⟩:=ob h -- U;try simp only[hσ,h12,C,E,F,G,H,J]
   refine Ce (Ac ya h14) X (Cd X) X (uf X) ?_;try simp only[h12,C,E,F,G,H,J]
   refine Cp ?_;try simp only[h12,C,E,F,G,H,J]
   refine Am ?_;obtain⟨h15,h⟩|⟨h15,h⟩:=ic h
   ·obtain⟨h16,h⟩|⟨h16,h⟩:=ic h
    ·try simp only[h12,h15,h16,C,E,F,G,H,J]
     cases h;exact⟨trivial,[90000],by decide,by decide,X,X⟩
    ·obtain⟨h17,h⟩|⟨h17,h⟩:=ic h
     ·obtain⟨h18,h⟩|⟨h18,h⟩:=ic h
      ·try simp only[h12,h15,h16,h17,h18,C,E,F,G,H,J]
       cases h;exact⟨trivial,[90000],by decide,by decide,X,X⟩
      ·obtain⟨r19,h19,h⟩:=ob h -- (P (P X3));try simp only[h12,h15,h16,h17,h18,C,E,F,G,H,J]
       refine BR (Ac Tg h19) ?_;obtain⟨r20,h20,h⟩:=ob h;try simp only[h12,h15,h16,h17,h18,C,E,F,G,H,J]
       refine GP (Ac Th h20) (by first | rfl | kernel_rfl) (Cd X) X (uf X) ?_;obtain⟨h25,h⟩|⟨h25,h⟩:=ic h
       ·try simp only[h12,h15,h16,h17,h18,h25,C,E,F,G,H,J]
        refine Tp h ?_ (by kernel_rfl);try simp only[h12,h15,h16,h17,h18,h25,C,E,F,G,H,J,pL,aM,I]
       ·try simp only[h12,h15,h16,h17,h18,h25,C,E,F,G,H,J]
        cases h;exact⟨trivial,[90000],by decide,by decide,X,X⟩
     ·obtain⟨r21,h21,h⟩:=ob h -- (P (P X3));try simp only[h12,h15,h16,h17,C,E,F,G,H,J]
      refine BR (Ac Tg h21) ?_;obtain⟨r22,h22,h⟩:=ob h;try simp only[h12,h15,h16,h17,C,E,F,G,H,J]
      refine GP (Ac Th h22) (by first | rfl | kernel_rfl) (Cd X) X (uf X) ?_;obtain⟨h26,h⟩|⟨h26,h⟩:=ic h
      ·try simp only[h12,h15,h16,h17,h26,C,E,F,G,H,J]
       refine Tp h ?_ (by kernel_rfl);try simp only[h12,h15,h16,h17,h26,C,E,F,G,H,J,pL,aM,I]
      ·try simp only[h12,h15,h16,h17,h26,C,E,F,G,H,J]
       cases h;exact⟨trivial,[90000],by decide,by decide,X,X⟩
   ·obtain⟨r23,h23,h⟩:=ob h -- (P (P X3));try simp only[h12,h15,C,E,F,G,H,J]
    refine BR (Ac Tg h23) ?_;obtain⟨r24,h24,h⟩:=ob h;try simp only[h12,h15,C,E,F,G,H,J]
    refine GP (Ac Th h24) (by first | rfl | kernel_rfl) (Cd X) X (uf X) ?_;obtain⟨h27,h⟩|⟨h27,h⟩:=ic h
    ·try simp only[h12,h15,h27,C,E,F,G,H,J]
     refine Tp h ?_ (by kernel_rfl);try simp only[h12,h15,h27,C,E,F,G,H,J,pL,aM,I]
    ·try simp only[h12,h15,h27,C,E,F,G,H,J]
     cases h;exact⟨trivial,[90000],by decide,by decide,X,X⟩
theorem A1a{a1 a0}{n:W}:eK a1 a0 (IQ a1 a0 n):=by
 induction n with
 | zero=>intro _ _ r h; cases h
 | succ n ih=>
  intro v1 v2 r h σ hσ S hS
  conv at hS=>rhs; reduce
  try simp only[zB,zA] at hS
  subst hS;rw[IQ] at h;refine AL (Ax ?_);obtain⟨h3,h⟩|⟨h3,h⟩:=ic h
  ·obtain⟨x4,h4,h⟩:=ob h -- U;obtain⟨x5,h5,h⟩:=ob h;obtain⟨x6,h6,h⟩:=ob h;try simp only[hσ,h3,h4,h5,h6,C,E,F,G,H,J]
   refine B6 (es:=Y X0.row ([x6]:P X0)) ?_;obtain⟨h7,h⟩:=AU h;try simp only[h3,h4,h5,h6,h7,C,E,F,G,H,J]
   refine ih h ?_ (by kernel_rfl);try simp only[h3,h4,h5,h6,h7,C,E,F,G,H,J,pL,aM,I]
  ·try simp only[hσ,h3,C,E,F,G,H,J]
   refine Am ?_;obtain⟨r9,h9,h⟩:=ob h;try simp only[h3,C,E,F,G,H,J]
   refine GP (Ac yq h9) (by first | rfl | kernel_rfl) (CM X ⟨CA,CA,⟨⟩⟩) X (uf X) ?_;try simp only[h3,C,E,F,G,H,J]
   refine A09 h ?_ (by kernel_rfl);try simp only[h3,C,E,F,G,H,J,pL,aM,I]
theorem jw:B3 Z 57=N ((BX Z 57 NL).strip,[],121):=by kernel_rfl
theorem yx{a0}{a1}{r}(h:NC a0 a1=N r):FCz Z 57 [.p,.d (.sc (.sl (Y rI a1)))] (Ck a0) (Cl a0) (Ck r) (Cl r) []:=by
 unfold NC at h;refine Lp (σ:=⟨[(0,vc (.pb 99999999999 0)),(1,vc (aL (Y rI a1)))],[(99999999999,[aI a0.h.Forecast.Tide.Mean,aL (Y zD a0.h.Forecast.Tide.Parts),aL (Y X9.row a0.h.Forecast.Surges),aL (Y X7.row a0.h.Chart.Points),aL (Y X2.row a0.h.Chart.Segments),aL (Y X4.row a0.h.Fleet),aI a0.h.Regime.Gap,aB a0.h.Regime.NoMeet,aI a0.h.Crew.Tugs,aI a0.h.Crew.Pilots,aI a0.h.Crew.Rest,aL (Y rI a0.h.Crew.Moves),aL (Y zE a0.calls),aL (Y (rL X0.row) a0.lists),aL (Y (rL (rL (rL rB))) a0.clash),.own 90000,aI a0.most,aI a0.cost,aB a0.found])],[(90000,1,Y rI a0.best)]⟩) A4 jw X X X X ?_;refine C8 NL ?_;have s0:= @AB (Y X0.row ([]:P X0));have k0:= @A1a;exact gc
/- 24:spec_l21Search -/
def PY:Hw:=([(13,[0,1,4,28,29],[99999999999],[90000]),(30,[0,1,4,5,6,28,29,32,33,34],[99999999999],[90000])],[(50,7,(O,.frz 3712))])
def eJ:=fun a1 v4 (x3:P X0) v5 v6 v7 v8 v9 v10 v11 v12 v13 v14 v15 v16 v17 v18 v19 v20 v21 v22 v23 (k_:V→U→Q Xf)=>∀{v25 v26} {zr},k_ v25 v26=N zr→Kh Z 24 PY 30 [0,1,4,5,6,28,29,32,33,34] [99999999999] [90000] ⟨[(0,vc (.pb 99999999999 0)),pL 1 rI a1,pI 4 (a1.length:U),pI 5 v4,(6,vc (aB v25)),pI 28 (x3.length:U),pI 29 v4,pL 32 rI a1,pI 33 (a1.length:U),pI 34 v26],[(99999999999,[aI v5,aM zD v6,aM X9.row v7,aM X7.row v8,aM X2.row v9,aM X4.row v10,aI v11,aB v12,aI v13,aI v14,aI v15,aM rI v16,aM zE v17,aM (rL X0.row) v18,aL (Y (rL (rL (rL rB))) v19),.own 90000,aI v20,aI v21,aB v22])],[(90000,1,Y rI v23)]⟩ (D2 [] [] (Ck zr) (Cl zr))
def U5:=fun a1 (x3:P X0) (k_:U→U→(P Xc)→(P X9)→(P X7)→(P X2)→(P X4)→U→V→U→U→U→(P U)→(P Xa)→(P (P X0))→(P (P (P (P V))))→U→U→V→(P U)→Q Xf)=>∀{v4 v5 v6 v7 v8 v9 v10 v11 v12 v13 v14 v15 v16 v17 v18 v19 v20 v21 v22 v23} {zr},k_ v4 v5 v6 v7 v8 v9 v10 v11 v12 v13 v14 v15 v16 v17 v18 v19 v20 v21 v22 v23=N zr→Kh Z 24 PY 13 [0,1,4,28,29] [99999999999] [90000] ⟨[(0,vc (.pb 99999999999 0)),pL 1 rI a1,pI 4 (a1.length:U),pI 28 (x3.length:U),pI 29 v4],[(99999999999,[aI v5,aM zD v6,aM X9.row v7,aM X7.row v8,aM X2.row v9,aM X4.row v10,aI v11,aB v12,aI v13,aI v14,aI v15,aM rI v16,aM zE v17,aM (rL X0.row) v18,aL (Y (rL (rL (rL rB))) v19),.own 90000,aI v20,aI v21,aB v22])],[(90000,1,Y rI v23)]⟩ (D2 [] [] (Ck zr) (Cl zr))
theorem A1b{rec_:Xf→(P U)→Q Xf}(h_rec:∀(a0:Xf) (a1:P U) zr,rec_ a0 a1=N zr→FCz Z 24 [.p,.d (.sc (.sl (Y rI a1)))] (Ck a0) (Cl a0) (Ck zr) (Cl zr) []){a1 v4 x3 v5 v6 v7 v8 v9 v10 v11 v12 v13 v14 v15 v16 v17 v18 v19 v20 v21 v22 v23}{IY}(WH:U5 a1 x3 IY){n:W}:eJ a1 v4 x3 v5 v6 v7 v8 v9 v10 v11 v12 v13 v14 v15 v16 v17 v18 v19 v20 v21 v22 v23 (E5 rec_ a1 v4 x3 v5 v6 v7 v8 v9 v10 v11 v12 v13 v14 v15 v16 v17 v18 v19 v20 v21 v22 v23 IY n):=by
 induction n with
 | zero=>intro _ _ r h; cases h
 | succ n ih=>
  intro v25 v26 r h σ hσ S hS
  conv at hS=>rhs; reduce
  try simp only[zB,zA] at hS
  subst hS;rw[E5] at h;refine AL (Ax ?_);obtain⟨h27,h⟩|⟨h27,h⟩:=ic h
  ·obtain⟨x28,h28,h⟩:=ob h -- U;obtain⟨x29,h29,h⟩:=ob h;obtain⟨x30,h30,h⟩:=ob h;obtain⟨x31,h31,h⟩:=ob h;obtain⟨x32,h32,h⟩:=ob h;obtain⟨h33,h⟩|⟨h33,h⟩:=ic h
   ·try simp only[hσ,h27,h28,h29,h30,h31,h32,h33,C,E,F,G,H,J]
    refine ih h ?_ (by kernel_rfl);try simp only[h27,h28,h29,h30,h31,h32,h33,C,E,F,G,H,J,pL,aM,I]
   ·try simp only[hσ,h27,h28,h29,h30,h31,h32,h33,C,E,F,G,H,J]
    refine ih h ?_ (by kernel_rfl);try simp only[h27,h28,h29,h30,h31,h32,h33,C,E,F,G,H,J,pL,aM,I]
  ·obtain⟨h34,h⟩|⟨h34,h⟩:=ic h
   ·try simp only[hσ,h27,h34,C,E,F,G,H,J]
    refine B6 (es:=Y rI ([]:P U)) ?_;obtain⟨h35,h⟩:=AU h;try simp only[h27,h34,h35,C,E,F,G,H,J]
    refine B6 (es:=Y rI ([v4]:P U)) ?_;obtain⟨h36,h⟩:=AU h;try simp only[h27,h34,h35,h36,C,E,F,G,H,J]
    refine Cp ?_;try simp only[h27,h34,h35,h36,C,E,F,G,H,J]
    refine KQ ?_;obtain⟨r37,h37,h⟩:=ob h;try simp only[h27,h34,h35,h36,C,E,F,G,H,J]
    refine FH (h_rec _ _ _ h37) 99999999999 [90000] rfl X X X (by decide) X X X ?_;try simp only[h27,h34,h35,h36,C,E,F,G,H,J]
    refine WH h ?_ (by kernel_rfl);try simp only[h27,h34,h35,h36,C,E,F,G,H,J,pL,aM,I]
   ·try simp only[hσ,h27,h34,C,E,F,G,H,J]
    refine WH h ?_ (by kernel_rfl);try simp only[h27,h34,C,E,F,G,H,J,pL,aM,I]
theorem A1c{rec_:Xf→(P U)→Q Xf}(h_rec:∀(a0:Xf) (a1:P U) zr,rec_ a0 a1=N zr→FCz Z 24 [.p,.d (.sc (.sl (Y rI a1)))] (Ck a0) (Cl a0) (Ck zr) (Cl zr) []){a1 x3}{n:W}:U5 a1 x3 (FG rec_ a1 x3 n):=by
 induction n with
 | zero=>intro _ _ _ _ _ _ _ _ _ _ _ _ _ _ _ _ _ _ _ _ r h; cases h
 | succ n ih=>
  intro v4 v5 v6 v7 v8 v9 v10 v11 v12 v13 v14 v15 v16 v17 v18 v19 v20 v21 v22 v23 r h σ hσ S hS
  conv at hS=>rhs; reduce
  try simp only[zB,zA] at hS
  subst hS;rw[FG] at h;refine AL (Ax ?_);obtain⟨h24,h⟩|⟨h24,h⟩:=ic h
  ·try simp only[hσ,h24,C,E,F,G,H,J]
   refine A1b h_rec ih h ?_ (by kernel_rfl);try simp only[h24,C,E,F,G,H,J,pL,aM,I]
  ·try simp only[hσ,h24,C,E,F,G,H,J]
   cases h;exact⟨trivial,[90000],by decide,by decide,X,X⟩
theorem jx:B3 Z 24=N ((BX Z 24 PY).strip,[],66):=by kernel_rfl
theorem yu(rec_:Xf→(P U)→Q Xf)(a0:Xf)(a1:P U)(r:Xf)(h_rec:∀(a0:Xf) (a1:P U) zr,rec_ a0 a1=N zr→FCz Z 24 [.p,.d (.sc (.sl (Y rI a1)))] (Ck a0) (Cl a0) (Ck zr) (Cl zr) [])(h:NB rec_ a0 a1=N r):FCz Z 24 [.p,.d (.sc (.sl (Y rI a1)))] (Ck a0) (Cl a0) (Ck r) (Cl r) []:=by
 unfold NB at h;refine Lp (σ:=⟨[(0,vc (.pb 99999999999 0)),(1,vc (aL (Y rI a1)))],[(99999999999,[aI a0.h.Forecast.Tide.Mean,aL (Y zD a0.h.Forecast.Tide.Parts),aL (Y X9.row a0.h.Forecast.Surges),aL (Y X7.row a0.h.Chart.Points),aL (Y X2.row a0.h.Chart.Segments),aL (Y X4.row a0.h.Fleet),aI a0.h.Regime.Gap,aB a0.h.Regime.NoMeet,aI a0.h.Crew.Tugs,aI a0.h.Crew.Pilots,aI a0.h.Crew.Rest,aL (Y rI a0.h.Crew.Moves),aL (Y zE a0.calls),aL (Y (rL X0.row) a0.lists),aL (Y (rL (rL (rL rB))) a0.clash),.own 90000,aI a0.most,aI a0.cost,aB a0.found])],[(90000,1,Y rI a0.best)]⟩) A4 jx X X X X ?_;refine C8 PY ?_;intro S hS
 conv at hS=>rhs; reduce
 try simp only[zB,zA] at hS
 subst hS;obtain⟨h1,h⟩|⟨h1,h⟩:=ic h
 ·try simp only[h1,C,E,F,G,H,J]
  refine KQ ?_;obtain⟨r2,h2,h⟩:=ob h;try simp only[h1,C,E,F,G,H,J]
  refine FH (yx h2) 99999999999 [90000] rfl X X X (by decide) X X X ?_;try simp only[h1,C,E,F,G,H,J]
  cases h;exact⟨trivial,[90000],by decide,by decide,X,X⟩
 ·obtain⟨x3,h3,h⟩:=ob h -- P X0;try simp only[h1,h3,C,E,F,G,H,J]
  refine A1c h_rec h ?_ (by kernel_rfl);try simp only[h1,h3,C,E,F,G,H,J,pL,aM,I]
theorem yw:∀(n:W) (a0:Xf) (a1:P U) (r:Xf),Dg n a0 a1=N r→FCz Z 24 [.p,.d (.sc (.sl (Y rI a1)))] (Ck a0) (Cl a0) (Ck r) (Cl r) []:=by
 intro n
 induction n with
 | zero=>intro _ _ r h; cases h
 | succ n ih=>intro a0 a1 r h; rw[Dg] at h; exact yu (Dg n) a0 a1 r ih h
theorem yr{a0}{a1}{r}(h:RJ a0 a1=N r):FCz Z 24 [.p,.d (.sc (.sl (Y rI a1)))] (Ck a0) (Cl a0) (Ck r) (Cl r) []:=yw bigN a0 a1 r h
/- 6:spec_FairPlan -/
def oV:Hw:=([],[(11,3,(O,.frz 960)),(15,0,(O,.ownb 23 15 152512 1)),(15,3,(O,.frz 1344)),(15,4,(O,.frz 1600))])
instance yb:Ct 6 (∀{a0} {a1} {r},N4 a0 a1=N r→FC Z 6 [.ag (X6.row a0),.sc (.sl (Y zE a1))] [.sc (.o 1 (Y rI r.1)),.sc (.v (.int .i64 r.2.1)),.sc (.v (.bool r.2.2))]):=by
 refine⟨fun{a0} {a1} {r} h=> ?_⟩;unfold N4 at h;refine A5 A4 oV [4,5,6] 40 ?_;intro S hS
 conv at hS=>rhs; reduce
 try simp only[zB,zA] at hS
 subst hS;simp only[C,E,F,G,H,J];try simp only[C,E,F,G,H,J]
 refine Bj ?_;obtain⟨r1,h1,h⟩:=ob h;try simp only[C,E,F,G,H,J]
 refine AI (Ac xy h1) ?_;obtain⟨h2,h⟩|⟨h2,h⟩:=ic h
 ·obtain⟨r3,h3,h⟩:=ob h -- (P (P X0));try simp only[h2,C,E,F,G,H,J]
  refine AI (Ac yp h3) ?_;try simp only[h2,C,E,F,G,H,J]
  refine Cp ?_;try simp only[h2,C,E,F,G,H,J]
  refine Am ?_;obtain⟨r4,h4,h⟩:=ob h;try simp only[h2,C,E,F,G,H,J]
  refine BR (Ac yo h4) ?_;try simp only[h2,C,E,F,G,H,J]
  refine Bj ?_;try simp only[h2,C,E,F,G,H,J]
  refine FJ (cs':= [aI a0.Forecast.Tide.Mean,aL (Y zD a0.Forecast.Tide.Parts),aL (Y X9.row a0.Forecast.Surges),aL (Y X7.row a0.Chart.Points),aL (Y X2.row a0.Chart.Segments),aL (Y X4.row a0.Fleet),aI a0.Regime.Gap,aB a0.Regime.NoMeet,aI a0.Crew.Tugs,aI a0.Crew.Pilots,aI a0.Crew.Rest,aL (Y rI a0.Crew.Moves),aL (Y zE a1),aL (Y (rL X0.row) r3),.own 1344,.own 152512,aI (0:U),aI (0:U),aB L]) X X X X ?_;try simp only[h2,C,E,F,G,H,J]
  refine B6 (es:=Y rI ([]:P U)) ?_;try simp only[h2,C,E,F,G,H,J]
  refine Cp ?_;try simp only[h2,C,E,F,G,H,J]
  refine Cp ?_;try simp only[h2,C,E,F,G,H,J]
  refine KQ ?_;obtain⟨r5,h5,h⟩:=ob h;try simp only[h2,C,E,F,G,H,J]
  refine FH (yr h5) 23 [152512] rfl X X X (by decide) X X X ?_;obtain⟨h6,h⟩|⟨h6,h⟩:=ic h
  ·try simp only[h2,h6,C,E,F,G,H,J]
   refine Am ?_;try simp only[h2,h6,C,E,F,G,H,J]
   cases h;trivial
  ·try simp only[h2,h6,C,E,F,G,H,J]
   cases h;trivial
 ·try simp only[h2,C,E,F,G,H,J]
  cases h;trivial
/- 107:impl_within -/
instance A76:Ct 107 (∀{a0} {a1} {a2} {r},BM a0 a1 a2=N r→FC Z 107 [.sc (.int .i64 a0),.sc (.int .i64 a1),.sc (.int .i64 a2)] [.sc (.v (.bool r))]):=by
 refine⟨fun{a0} {a1} {a2} {r} h=> ?_⟩;unfold BM at h;refine A5 A4 h0 [6] 15 ?_;exact gc
/- 194:impl_isPeriod -/
instance A7y:Ct 194 (∀{a0} {r},K2 a0=N r→FC Z 194 [.sc (.int .i64 a0)] [.sc (.v (.bool r))]):=by
 refine⟨fun{a0} {r} h=> ?_⟩;unfold K2 at h;refine A5 A4 h0 [2] 10 ?_;exact gc
/- 171:impl_PartOk -/
instance A7a:Ct 171 (∀{a0} {r},LV a0=N r→FC Z 171 [.ag (zD a0)] [.sc (.v (.bool r))]):=by
 refine⟨fun{a0} {r} h=> ?_⟩;unfold LV at h;refine A5 A4 h0 [2] 19 ?_;exact gc
/- 143:impl_TideOk -/
def VM:Hw:=([(14,[16,17,18],[],[])],[])
def bq:=fun(a0:Xl) (k_:U→Q V)=>∀{v4} {zr},k_ v4=N zr→Kh Z 143 VM 14 [16,17,18] [] [] ⟨[pL 16 zD a0.Parts,pI 17 (a0.Parts.length:U),pI 18 v4],[],[]⟩ (A8 [2] [.sc (.v (.bool zr))])
theorem A1d{a0}{n:W}:bq a0 (HH a0 n):=by
 induction n with
 | zero=>intro _ r h; cases h
 | succ n ih=>
  intro v4 r h σ hσ;rw[HH] at h;exact gc
instance A7o:Ct 143 (∀{a0} {r},M4 a0=N r→FC Z 143 [.ag (Xl.row a0)] [.sc (.v (.bool r))]):=by
 refine⟨fun{a0} {r} h=> ?_⟩;unfold M4 at h;refine A5 A4 VM [2] 26 ?_;have k0:= @A1d;exact gc
/- 106:impl_isMinute -/
instance xU:Ct 106 (∀{a0} {r},D3 a0=N r→FC Z 106 [.sc (.int .i64 a0)] [.sc (.v (.bool r))]):=by
 refine⟨fun{a0} {r} h=> ?_⟩;unfold D3 at h;refine A5 A4 h0 [2] 5 ?_;exact gc
/- 144:impl_SurgeOk -/
instance A7n:Ct 144 (∀{a0} {r},M3 a0=N r→FC Z 144 [.ag (X9.row a0)] [.sc (.v (.bool r))]):=by
 refine⟨fun{a0} {r} h=> ?_⟩;unfold M3 at h;refine A5 A4 h0 [2] 23 ?_;exact gc
/- 100:impl_ForecastOk -/
def VO:Hw:=([(14,[1,25,26,27],[1],[])],[])
def bY:=fun(a0:Xd) (k_:U→Q V)=>∀{v7} {zr},k_ v7=N zr→Kh Z 100 VO 14 [1,25,26,27] [1] [] ⟨[pB 1,pL 25 X9.row a0.Surges,pI 26 (a0.Surges.length:U),pI 27 v7],[(1,[aI a0.Tide.Mean,aM zD a0.Tide.Parts,aM X9.row a0.Surges])],[]⟩ (A8 [2] [.sc (.v (.bool zr))])
theorem A1e{a0}{n:W}:bY a0 (Gf a0 n):=by
 induction n with
 | zero=>intro _ r h; cases h
 | succ n ih=>
  intro v7 r h σ hσ;rw[Gf] at h;exact gc
instance xI:Ct 100 (∀{a0} {r},Ge a0=N r→FC Z 100 [.ag (Xd.row a0)] [.sc (.v (.bool r))]):=by
 refine⟨fun{a0} {r} h=> ?_⟩;unfold Ge at h;refine A5 A4 VO [2] 52 ?_;have k0:= @A1e;exact gc
/- 145:impl_IsName -/
def PZ:Hw:=([(14,[0,3],[],[]),(25,[0,3,4],[],[]),(32,[0,3],[],[])],[])
def be:=fun a0 v3 (k_:Q V)=>∀{zr},k_=N zr→Kh Z 145 PZ 32 [0,3] [] [] ⟨[(0,vc (aS a0)),pI 3 v3],[],[]⟩ (A8 [2] [.sc (.v (.bool zr))])
def bd:=fun a0 v3 (k_:V→Q V)=>∀{v7} {zr},k_ v7=N zr→Kh Z 145 PZ 25 [0,3,4] [] [] ⟨[(0,vc (aS a0)),pI 3 v3,(4,vc (aB v7))],[],[]⟩ (A8 [2] [.sc (.v (.bool zr))])
def QV:=fun a0 (k_:U→Q V)=>∀{v3} {zr},k_ v3=N zr→Kh Z 145 PZ 14 [0,3] [] [] ⟨[(0,vc (aS a0)),pI 3 v3],[],[]⟩ (A8 [2] [.sc (.v (.bool zr))])
theorem A1f{a0 v3}{ED}(WB:QV a0 ED):be a0 v3 (LO a0 v3 ED):=by
 intro r h σ hσ;unfold LO at h;have k0:= @WB;exact gc
theorem A1g{a0 v3}{ED}(WB:QV a0 ED):bd a0 v3 (LN a0 v3 ED):=by
 intro v7 r h σ hσ;unfold LN at h;have k0:= @A1f;exact gc
theorem A1h{a0}{n:W}:QV a0 (Gg a0 n):=by
 induction n with
 | zero=>intro _ r h; cases h
 | succ n ih=>
  intro v3 r h σ hσ;rw[Gg] at h;have k0:= @A1g;exact gc
instance A63:Ct 145 (∀{a0} {r},JS a0=N r→FC Z 145 [.sc (.str a0)] [.sc (.v (.bool r))]):=by
 refine⟨fun{a0} {r} h=> ?_⟩;unfold JS at h;refine A5 A4 PZ [2] 43 ?_;have k0:= @A1h;exact gc
/- 146:impl_PointNamed -/
def VP:Hw:=([(6,[1,8,9,10],[],[])],[])
def bj:=fun a1 (a0:X1) (k_:U→Q U)=>∀{v1} {zr},k_ v1=N zr→Kh Z 146 VP 6 [1,8,9,10] [] [] ⟨[(1,vc (aS a1)),pL 8 X7.row a0.Points,pI 9 (a0.Points.length:U),pI 10 v1],[],[]⟩ (A8 [4] [.sc (.v (.int .i64 zr))])
theorem A1i{a1 a0}{n:W}:bj a1 a0 (HE a1 a0 n):=by
 induction n with
 | zero=>intro _ r h; cases h
 | succ n ih=>
  intro v1 r h σ hσ;rw[HE] at h;exact gc
instance A7e:Ct 146 (∀{a0} {a1} {r},LY a0 a1=N r→FC Z 146 [.ag (X1.row a0),.sc (.str a1)] [.sc (.v (.int .i64 r))]):=by
 refine⟨fun{a0} {a1} {r} h=> ?_⟩;unfold LY at h;refine A5 A4 VP [4] 21 ?_;have k0:= @A1i;exact gc
/- 105:impl_isIndex -/
instance QO:Ct 105 (∀{a0} {a1} {r},By a0 a1=N r→FC Z 105 [.sc (.int .i64 a0),.sc (.int .i64 a1)] [.sc (.v (.bool r))]):=by
 refine⟨fun{a0} {a1} {r} h=> ?_⟩;unfold By at h;refine A5 A4 h0 [4] 12 ?_;exact gc
/- 147:impl_Segment_joins -/
instance A7h:Ct 147 (∀{a0} {a1} {a2} {r},M0 a0 a1 a2=N r→FC Z 147 [.ag (X2.row a0),.sc (.int .i64 a1),.sc (.int .i64 a2)] [.sc (.v (.bool r))]):=by
 refine⟨fun{a0} {a1} {a2} {r} h=> ?_⟩;unfold M0 at h;refine A5 A4 h0 [6] 29 ?_;exact gc
/- 101:impl_ChartOk -/
def Q0:Hw:=([(14,[1,20,21,22],[1],[]),(37,[1,41,42,43],[1],[]),(59,[1,6,41,42,43,86,87,88],[1,6],[])],[])
def bR:=fun(a0:X1) v11 (x13:X2) y24 y25 (k_:U→Q V)=>∀{v26} {zr},k_ v26=N zr→Kh Z 101 Q0 59 [1,6,41,42,43,86,87,88] [1,6] [] ⟨[pB 1,pB 6,pL 41 X2.row a0.Segments,pI 42 (a0.Segments.length:U),pI 43 v11,pL 86 X2.row y24,pI 87 y25,pI 88 v26],[(1,[aM X7.row a0.Points,aM X2.row a0.Segments]),(6,(dm x13.row))],[]⟩ (A8 [2] [.sc (.v (.bool zr))])
def TF:=fun(a0:X1) (k_:U→Q V)=>∀{v11} {zr},k_ v11=N zr→Kh Z 101 Q0 37 [1,41,42,43] [1] [] ⟨[pB 1,pL 41 X2.row a0.Segments,pI 42 (a0.Segments.length:U),pI 43 v11],[(1,[aM X7.row a0.Points,aM X2.row a0.Segments])],[]⟩ (A8 [2] [.sc (.v (.bool zr))])
def bQ:=fun(a0:X1) (k_:U→Q V)=>∀{v3} {zr},k_ v3=N zr→Kh Z 101 Q0 14 [1,20,21,22] [1] [] ⟨[pB 1,pL 20 X7.row a0.Points,pI 21 (a0.Points.length:U),pI 22 v3],[(1,[aM X7.row a0.Points,aM X2.row a0.Segments])],[]⟩ (A8 [2] [.sc (.v (.bool zr))])
theorem A1k{a0 v11 x13 y24 y25}{NV}(oc:TF a0 NV){n:W}:bR a0 v11 x13 y24 y25 (Hq a0 v11 x13 y24 y25 NV n):=by
 induction n with
 | zero=>intro _ r h; cases h
 | succ n ih=>
  intro v26 r h σ hσ;rw[Hq] at h;have k0:= @oc;exact gc
theorem A1l{a0}{n:W}:TF a0 (Em a0 n):=by
 induction n with
 | zero=>intro _ r h; cases h
 | succ n ih=>
  intro v11 r h σ hσ;rw[Em] at h;have k0:= @A1k;exact gc
theorem A1m{a0}{n:W}:bQ a0 (Hn a0 n):=by
 induction n with
 | zero=>intro _ r h; cases h
 | succ n ih=>
  intro v3 r h σ hσ;rw[Hn] at h;have k0:= @A1l;exact gc
instance xD:Ct 101 (∀{a0} {r},DA a0=N r→FC Z 101 [.ag (X1.row a0)] [.sc (.v (.bool r))]):=by
 refine⟨fun{a0} {r} h=> ?_⟩;unfold DA at h;refine A5 A4 Q0 [2] 100 ?_;have k0:= @A1m;exact gc
/- 148:impl_ShipOk -/
instance A7j:Ct 148 (∀{a0} {r},En a0=N r→FC Z 148 [.ag (X4.row a0)] [.sc (.v (.bool r))]):=by
 refine⟨fun{a0} {r} h=> ?_⟩;unfold En at h;refine A5 A4 h0 [2] 26 ?_;exact gc
/- 149:impl_ShipNamed -/
def VQ:Hw:=([(6,[1,7,8,9],[],[])],[])
def bl:=fun a1 a0 (k_:U→Q U)=>∀{v1} {zr},k_ v1=N zr→Kh Z 149 VQ 6 [1,7,8,9] [] [] ⟨[(1,vc (aS a1)),pL 7 X4.row a0,pI 8 (a0.length:U),pI 9 v1],[],[]⟩ (A8 [4] [.sc (.v (.int .i64 zr))])
theorem A1n{a1 a0}{n:W}:bl a1 a0 (HG a1 a0 n):=by
 induction n with
 | zero=>intro _ r h; cases h
 | succ n ih=>
  intro v1 r h σ hσ;rw[HG] at h;exact gc
instance A7i:Ct 149 (∀{a0} {a1} {r},M1 a0 a1=N r→FC Z 149 [.sc (.sl (Y X4.row a0)),.sc (.str a1)] [.sc (.v (.int .i64 r))]):=by
 refine⟨fun{a0} {a1} {r} h=> ?_⟩;unfold M1 at h;refine A5 A4 VQ [4] 20 ?_;have k0:= @A1n;exact gc
/- 102:impl_FleetOk -/
def VR:Hw:=([(14,[0,8,9,10],[],[])],[])
def bX:=fun a0 (k_:U→Q V)=>∀{v2} {zr},k_ v2=N zr→Kh Z 102 VR 14 [0,8,9,10] [] [] ⟨[pL 0 X4.row a0,pL 8 X4.row a0,pI 9 (a0.length:U),pI 10 v2],[],[]⟩ (A8 [2] [.sc (.v (.bool zr))])
theorem A1o{a0}{n:W}:bX a0 (Hz a0 n):=by
 induction n with
 | zero=>intro _ r h; cases h
 | succ n ih=>
  intro v2 r h σ hσ;rw[Hz] at h;exact gc
instance A6x:Ct 102 (∀{a0} {r},JQ a0=N r→FC Z 102 [.sc (.sl (Y X4.row a0))] [.sc (.v (.bool r))]):=by
 refine⟨fun{a0} {r} h=> ?_⟩;unfold JQ at h;refine A5 A4 VR [2] 27 ?_;have k0:= @A1o;exact gc
/- 103:impl_RegimeOk -/
instance A7f:Ct 103 (∀{a0} {r},Pi a0=N r→FC Z 103 [.ag (Xi.row a0)] [.sc (.v (.bool r))]):=by
 refine⟨fun{a0} {r} h=> ?_⟩;unfold Pi at h;refine A5 A4 h0 [2] 6 ?_;exact gc
/- 150:impl_movesOk -/
def VS:Hw:=([(14,[8,9,10],[],[])],[])
def cL:=fun a0 (k_:U→Q V)=>∀{v2} {zr},k_ v2=N zr→Kh Z 150 VS 14 [8,9,10] [] [] ⟨[pL 8 rI a0,pI 9 (a0.length:U),pI 10 v2],[],[]⟩ (A8 [2] [.sc (.v (.bool zr))])
theorem A1p{a0}{n:W}:cL a0 (Gn a0 n):=by
 induction n with
 | zero=>intro _ r h; cases h
 | succ n ih=>
  intro v2 r h σ hσ;rw[Gn] at h;exact gc
instance A7z:Ct 150 (∀{a0} {r},Gm a0=N r→FC Z 150 [.sc (.sl (Y rI a0))] [.sc (.v (.bool r))]):=by
 refine⟨fun{a0} {r} h=> ?_⟩;unfold Gm at h;refine A5 A4 VS [2] 18 ?_;have k0:= @A1p;exact gc
/- 104:impl_CrewOk -/
instance A6v:Ct 104 (∀{a0} {r},LJ a0=N r→FC Z 104 [.ag (Xn.row a0)] [.sc (.v (.bool r))]):=by
 refine⟨fun{a0} {r} h=> ?_⟩;unfold LJ at h;refine A5 A4 h0 [2] 21 ?_;exact gc
/- 64:impl_HarbourOk -/
instance A61:Ct 64 (∀{a0} {r},JR a0=N r→FC Z 64 [.ag (X6.row a0)] [.sc (.v (.bool r))]):=by
 refine⟨fun{a0} {r} h=> ?_⟩;unfold JR at h;refine A5 A4 h0 [2] 26 ?_;exact gc
/- 65:impl_callOk -/
instance A7t:Ct 65 (∀{a0} {a1} {r},JY a0 a1=N r→FC Z 65 [.ag (X6.row a0),.ag (zE a1)] [.sc (.v (.bool r))]):=by
 refine⟨fun{a0} {a1} {r} h=> ?_⟩;unfold JY at h;refine A5 A4 h0 [4] 47 ?_;exact gc
/- 31:impl_CallsOk -/
def S2:Hw:=([(14,[1,2,17,18,19],[2],[]),(36,[1,2,6,17,18,19,30,31,32],[2,6],[])],[])
def bP:=fun a1 v4 (a0:X6) (x6:Xa) y10 y11 (k_:U→Q V)=>∀{v12} {zr},k_ v12=N zr→Kh Z 31 S2 36 [1,2,6,17,18,19,30,31,32] [2,6] [] ⟨[pL 1 zE a1,pB 2,pB 6,pL 17 zE a1,pI 18 (a1.length:U),pI 19 v4,pL 30 zE y10,pI 31 y11,pI 32 v12],[(2,([aI a0.Forecast.Tide.Mean,aM zD a0.Forecast.Tide.Parts,aM X9.row a0.Forecast.Surges,aM X7.row a0.Chart.Points,aM X2.row a0.Chart.Segments,aM X4.row a0.Fleet,aI a0.Regime.Gap,aB a0.Regime.NoMeet]++dm a0.Crew.row)),(6,(dm x6.row))],[]⟩ (A8 [4] [.sc (.v (.bool zr))])
def TE:=fun a1 (a0:X6) (k_:U→Q V)=>∀{v4} {zr},k_ v4=N zr→Kh Z 31 S2 14 [1,2,17,18,19] [2] [] ⟨[pL 1 zE a1,pB 2,pL 17 zE a1,pI 18 (a1.length:U),pI 19 v4],[(2,([aI a0.Forecast.Tide.Mean,aM zD a0.Forecast.Tide.Parts,aM X9.row a0.Forecast.Surges,aM X7.row a0.Chart.Points,aM X2.row a0.Chart.Segments,aM X4.row a0.Fleet,aI a0.Regime.Gap,aB a0.Regime.NoMeet]++dm a0.Crew.row))],[]⟩ (A8 [4] [.sc (.v (.bool zr))])
theorem A1q{a1 v4 a0 x6 y10 y11}{NU}(oZ:TE a1 a0 NU){n:W}:bP a1 v4 a0 x6 y10 y11 (F5 a1 v4 a0 x6 y10 y11 NU n):=by
 induction n with
 | zero=>intro _ r h; cases h
 | succ n ih=>
  intro v12 r h σ hσ;rw[F5] at h;have k0:= @oZ;exact gc
theorem A1r{a1 a0}{n:W}:TE a1 a0 (DW a1 a0 n):=by
 induction n with
 | zero=>intro _ r h; cases h
 | succ n ih=>
  intro v4 r h σ hσ;rw[DW] at h;have k0:= @A1q;exact gc
instance xC:Ct 31 (∀{a0} {a1} {r},LI a0 a1=N r→FC Z 31 [.ag (X6.row a0),.sc (.sl (Y zE a1))] [.sc (.v (.bool r))]):=by
 refine⟨fun{a0} {a1} {r} h=> ?_⟩;unfold LI at h;refine A5 A4 S2 [4] 43 ?_;have k0:= @A1r;exact gc
/- 111:impl_CallOk -/
instance A6t:Ct 111 (∀{a0} {a1} {r},LH a0 a1=N r→FC Z 111 [.ag (X6.row a0),.ag (zE a1)] [.sc (.v (.bool r))]):=by
 refine⟨fun{a0} {a1} {r} h=> ?_⟩;unfold LH at h;refine A5 A4 h0 [4] 12 ?_;exact gc
/- 109:impl_clone_int -/
instance QN:Ct 109 (∀{a0} {r},BC a0=N r→FC Z 109 [.sc (.sl (Y rI a0))] [.sc (.o 1 (Y rI r))]):=by
 refine⟨fun{a0} {r} h=> ?_⟩;unfold BC at h;refine A5 A4 h0 [2] 8 ?_;have s0:= @EI _ rI (0:U);exact gc
/- 200:impl_Segment_end -/
instance ZO:Ct 200 (∀{a0} {a1} {r},JW a0 a1=N r→FC Z 200 [.ag (X2.row a0),.sc (.int .i64 a1)] [.sc (.v (.int .i64 r))]):=by
 refine⟨fun{a0} {a1} {r} h=> ?_⟩;unfold JW at h;refine A5 A4 h0 [4] 18 ?_;exact gc
end Go.Vi
