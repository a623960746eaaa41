/-
Walks. No condition.
-/
import Derived.Test.YtdgododldkbndaaGreatFNf
import Derived.Test.YtdgododldkbndaaGreatChecked
import Derived.Test.YtdgododldkbndaaGreatFVi41
import Derived.KernelRfl
import Derived.Test.YtdgododldkbndaaGreatFWFairPlana
namespace Go.Vi
open Go.Proofs
set_option linter.all false
set_option maxRecDepth 4000
set_option maxHeartbeats 2000000
open Nat renaming reduceBEq → C, reduceMul → E, reduceAdd → F, reduceDiv → G, le_of_ble_eq_true → uf
open Int renaming reduceBEq → H
attribute [local irreducible] go Bd J4
open List renaming map → Y, map_nil → I, all_eq_true → zF
open Tryz renaming prog → Z
open Int renaming reduceNegSucc → zA, reduceOfNat → zB
open Xb renaming row → zC
open Xc renaming row → zD
open Xa renaming row → zE
open Bool renaming true → T, false → L
open Option renaming some → N, none → O
open _root_ renaming List → P, Option → Q, Int → U, Bool → V, Nat → W, rfl → X
/- 187:spec_MinutesOn -/
instance A9x:Ct 187 (∀{a0} {a1} {a2} {r},KA a0 a1 a2=N r→FC Z 187 [.ag (X1.row a0),.sc (.int .i64 a1),.ag (X4.row a2)] [.sc (.v (.int .i64 r))]):=by
 refine⟨fun{a0} {a1} {a2} {r} h=> ?_⟩;unfold KA at h;refine A5 A4 h0 [6] 31 ?_;exact gc
/- 167:spec_WindowsOk -/
def WA:Hw:=([(6,[0,5,6,7],[],[])],[])
def dl:=fun a0 (k_:U→Q V)=>∀{v1} {zr},k_ v1=N zr→Kh Z 167 WA 6 [0,5,6,7] [] [] ⟨[pL 0 X5.row a0,pL 5 X5.row a0,pI 6 (a0.length:U),pI 7 v1],[],[]⟩ (A8 [2] [.sc (.v (.bool zr))])
theorem A5i{a0}{n:W}:dl a0 (Fz a0 n):=by
 induction n with
 | zero=>intro _ r h; cases h
 | succ n ih=>
  intro v1 r h σ hσ;rw[Fz] at h;exact gc
instance B0i:Ct 167 (∀{a0} {r},KG a0=N r→FC Z 167 [.sc (.sl (Y X5.row a0))] [.sc (.v (.bool r))]):=by
 refine⟨fun{a0} {r} h=> ?_⟩;unfold KG at h;refine A5 A4 WA [2] 41 ?_;have k0:= @A5i;exact gc
/- 184:spec_ShrinkWindows -/
def Vu:Hw:=([(16,[1,5,17,18,19],[],[1024])],[])
def di:=fun a1 a0 (k_:U→(P X5)→Q (P X5))=>∀{v5 v6} {zr},k_ v5 v6=N zr→Kh Z 184 Vu 16 [1,5,17,18,19] [] [1024] ⟨[pI 1 a1,pW 5 1024,pL 17 X5.row a0,pI 18 (a0.length:U),pI 19 v5],[],[(1024,2,Y X5.row v6)]⟩ (A8 [4] [.sc (.o 2 (Y X5.row zr))])
theorem zt{a1 a0}{n:W}:di a1 a0 (Fy a1 a0 n):=by
 induction n with
 | zero=>intro _ _ r h; cases h
 | succ n ih=>
  intro v5 v6 r h σ hσ S hS
  conv at hS=>rhs; reduce
  try simp only[zB,zA,Ah,UInt8.reduceOfNat] at hS
  subst hS;rw[Fy] at h;refine AM (Ay ?_);obtain⟨h7,h⟩|⟨h7,h⟩:=ic h
  ·obtain⟨x8,h8,h⟩:=ob h;try simp only[hσ,h7,h8,C,E,F,G,H,J]
   refine By ?_;obtain⟨h9,h⟩|⟨h9,h⟩:=ic h
   ·try simp only[h7,h8,h9,C,E,F,G,H,J]
    refine B7 (es:=Y X5.row ([(⟨x8.From,(IntKind.i64.wrap (x8.To - a1))⟩:X5)]:P X5)) ?_;obtain⟨h10,h⟩:=AW h;try simp only[h7,h8,h9,h10,C,E,F,G,H,J]
    refine ih h ?_ (by kernel_rfl);try simp only[h7,h8,h9,h10,C,E,F,G,H,J,pL,aM,I]
   ·try simp only[h7,h8,h9,C,E,F,G,H,J]
    refine ih h ?_ (by kernel_rfl);try simp only[h7,h8,h9,C,E,F,G,H,J,pL,aM,I]
  ·try simp only[hσ,h7,C,E,F,G,H,J]
   cases h;exact t0
instance B0b:Ct 184 (∀{a0} {a1} {r},PL a0 a1=N r→FC Z 184 [.sc (.sl (Y X5.row a0)),.sc (.int .i64 a1)] [.sc (.o 2 (Y X5.row r))]):=by
 refine⟨fun{a0} {a1} {r} h=> ?_⟩;unfold PL at h;refine A5 A4 Vu [4] 42 ?_;have s0:= @AD (Y X5.row ([]:P X5));have k0:= @zt;exact gc
/- 164:spec_l07Starts -/
instance B0q:Ct 164 (∀{a0} {a1} {a2} {a3} {a4} {r},PO a0 a1 a2 a3 a4=N r→FC Z 164 [.ag (Xd.row a0),.ag (X1.row a1),.sc (.int .i64 a2),.ag (X4.row a3),.sc (.bool a4)] [.sc (.o 2 (Y X5.row r))]):=by
 refine⟨fun{a0} {a1} {a2} {a3} {a4} {r} h=> ?_⟩;unfold PO at h;refine A5 A4 h0 [10] 33 ?_;exact gc
/- 130:spec_SureStarts -/
instance B0d:Ct 130 (∀{a0} {a1} {a2} {a3} {r},Nm a0 a1 a2 a3=N r→FC Z 130 [.ag (Xd.row a0),.ag (X1.row a1),.sc (.int .i64 a2),.ag (X4.row a3)] [.sc (.o 2 (Y X5.row r))]):=by
 refine⟨fun{a0} {a1} {a2} {a3} {r} h=> ?_⟩;unfold Nm at h;refine A5 A4 h0 [8] 14 ?_;exact gc
/- 87:spec_l08Starts -/
def Vv:Hw:=([(8,[4,5,6,9,13,14,15],[4,5,6],[768])],[(19,6,(O,.frz 1536))])
def dx:=fun a3 (a0:Xd) (a1:X1) (a2:X4) (k_:U→(P (P X5))→Q (P (P X5)))=>∀{v1 v2} {zr},k_ v1 v2=N zr→Kh Z 87 Vv 8 [4,5,6,9,13,14,15] [4,5,6] [768] ⟨[pB 4,pB 5,pB 6,pW 9 768,pL 13 rI a3,pI 14 (a3.length:U),pI 15 v1],[(4,[aI a0.Tide.Mean,aM zD a0.Tide.Parts,aM X9.row a0.Surges]),(5,[aM X7.row a1.Points,aM X2.row a1.Segments]),(6,(dm a2.row))],[(768,1,Y (rL X5.row) v2)]⟩ (A8 [8] [.sc (.o 1 (Y (rL X5.row) zr))])
theorem zu{a3 a0 a1 a2}{n:W}:dx a3 a0 a1 a2 (GH a3 a0 a1 a2 n):=by
 induction n with
 | zero=>intro _ _ r h; cases h
 | succ n ih=>
  intro v1 v2 r h σ hσ;rw[GH] at h;have s0:=fun(r5:(P X5))=> @AD (Y (rL X5.row) ([r5]:P (P X5)))
  exact gc
instance B0s:Ct 87 (∀{a0} {a1} {a2} {a3} {r},PP a0 a1 a2 a3=N r→FC Z 87 [.ag (Xd.row a0),.ag (X1.row a1),.ag (X4.row a2),.sc (.sl (Y rI a3))] [.sc (.o 1 (Y (rL X5.row) r))]):=by
 refine⟨fun{a0} {a1} {a2} {a3} {r} h=> ?_⟩;unfold PP at h;refine A5 A4 Vv [8] 29 ?_;have s0:= @AD (Y (rL X5.row) ([]:P (P X5)));have k0:= @zu;exact gc
/- 132:spec_l05Points -/
def RS:Hw:=([(8,[3,8,14,15,16],[3],[832]),(32,[3,8,11,14,15,16,45],[3],[832])],[])
def du:=fun r9 a2 v1 (a0:X1) v2 (k_:V→Q ((P U) × V))=>∀{v12} {zr},k_ v12=N zr→Kh Z 132 RS 32 [3,8,11,14,15,16,45] [3] [832] ⟨[pB 3,pW 8 832,pI 11 r9,pL 14 rI a2,pI 15 (a2.length:U),pI 16 v1,(45,vc (aB v12))],[(3,[aM X7.row a0.Points,aM X2.row a0.Segments])],[(832,1,Y rI v2)]⟩ (A8 [6,7] [.sc (.o 1 (Y rI zr.1)),.sc (.v (.bool zr.2))])
def TY:=fun a2 (a0:X1) (k_:U→(P U)→Q ((P U) × V))=>∀{v1 v2} {zr},k_ v1 v2=N zr→Kh Z 132 RS 8 [3,8,14,15,16] [3] [832] ⟨[pB 3,pW 8 832,pL 14 rI a2,pI 15 (a2.length:U),pI 16 v1],[(3,[aM X7.row a0.Points,aM X2.row a0.Segments])],[(832,1,Y rI v2)]⟩ (A8 [6,7] [.sc (.o 1 (Y rI zr.1)),.sc (.v (.bool zr.2))])
theorem aD{r9 a2 v1 a0 v2}{Qo}(oy:TY a2 a0 Qo):du r9 a2 v1 a0 v2 (GE r9 a2 v1 a0 v2 Qo):=by
 intro v12 r h σ hσ;unfold GE at h;have s0:= @AD (Y rI ([r9]:P U));have k0:= @oy;exact gc
theorem zv{a2 a0}{n:W}:TY a2 a0 (E3 a2 a0 n):=by
 induction n with
 | zero=>intro _ _ r h; cases h
 | succ n ih=>
  intro v1 v2 r h σ hσ S hS
  conv at hS=>rhs; reduce
  try simp only[zB,zA,Ah,UInt8.reduceOfNat] at hS
  subst hS;rw[E3] at h;refine AM (Ay ?_);obtain⟨h3,h⟩|⟨h3,h⟩:=ic h
  ·obtain⟨x4,h4,h⟩:=ob h;obtain⟨r5,h5,h⟩:=ob h;try simp only[hσ,h3,h4,C,E,F,G,H,J]
   refine AJ (Ac QS h5) ?_;obtain⟨h6,h⟩|⟨h6,h⟩:=ic h
   ·try simp only[h3,h4,h6,C,E,F,G,H,J]
    refine An ?_;obtain⟨x7,h7,h⟩:=ob h;obtain⟨x8,h8,h⟩:=ob h;have h8n:=Av h8;obtain⟨r9,h9,h⟩:=ob h;try simp only[h3,h4,h6,h7,h8,h8n,C,E,F,G,H,J]
    refine BS (Ac ZX h9) ?_;obtain⟨h10,h⟩|⟨h10,h⟩:=ic h
    ·try simp only[h3,h4,h6,h7,h8,h8n,h10,C,E,F,G,H,J]
     refine aD ih h ?_ (by kernel_rfl);try simp only[h3,h4,h6,h7,h8,h8n,h10,C,E,F,G,H,J,pL,aM,I]
    ·obtain⟨r11,h11,h⟩:=ob h;try simp only[h3,h4,h6,h7,h8,h8n,h10,C,E,F,G,H,J]
     refine Cf (Ac ZW h11) X (Ce X) X (uf X) ?_;try simp only[h3,h4,h6,h7,h8,h8n,h10,C,E,F,G,H,J]
     refine aD ih h ?_ (by kernel_rfl);try simp only[h3,h4,h6,h7,h8,h8n,h10,C,E,F,G,H,J,pL,aM,I]
   ·try simp only[h3,h4,h6,C,E,F,G,H,J]
    cases h;trivial
  ·try simp only[hσ,h3,C,E,F,G,H,J]
   cases h;trivial
instance B0o:Ct 132 (∀{a0} {a1} {a2} {r},GD a0 a1 a2=N r→FC Z 132 [.ag (X1.row a0),.sc (.int .i64 a1),.sc (.sl (Y rI a2))] [.sc (.o 1 (Y rI r.1)),.sc (.v (.bool r.2))]):=by
 refine⟨fun{a0} {a1} {a2} {r} h=> ?_⟩;unfold GD at h;refine A5 A4 RS [6,7] 52 ?_;have s0:= @AD (Y rI ([a1]:P U));have k0:= @zv;exact gc
/- 131:spec_RouteOk -/
instance A96:Ct 131 (∀{a0} {a1} {a2} {r},Ew a0 a1 a2=N r→FC Z 131 [.ag (X1.row a0),.sc (.int .i64 a1),.sc (.sl (Y rI a2))] [.sc (.v (.bool r))]):=by
 refine⟨fun{a0} {a1} {a2} {r} h=> ?_⟩;unfold Ew at h;refine A5 A4 h0 [6] 29 ?_;exact gc
/- 88:spec_RoutePoints -/
instance A97:Ct 88 (∀{a0} {a1} {a2} {r},Fx a0 a1 a2=N r→FC Z 88 [.ag (X1.row a0),.sc (.int .i64 a1),.sc (.sl (Y rI a2))] [.sc (.o 1 (Y rI r))]):=by
 refine⟨fun{a0} {a1} {a2} {r} h=> ?_⟩;unfold Fx at h;refine A5 A4 h0 [6] 22 ?_;exact gc
/- 133:spec_HasMinute -/
def Vw:Hw:=([(6,[1,7,8,9],[],[])],[])
def dR:=fun a1 a0 (k_:U→Q V)=>∀{v1} {zr},k_ v1=N zr→Kh Z 133 Vw 6 [1,7,8,9] [] [] ⟨[pI 1 a1,pL 7 X5.row a0,pI 8 (a0.length:U),pI 9 v1],[],[]⟩ (A8 [4] [.sc (.v (.bool zr))])
theorem zw{a1 a0}{n:W}:dR a1 a0 (Ir a1 a0 n):=by
 induction n with
 | zero=>intro _ r h; cases h
 | succ n ih=>
  intro v1 r h σ hσ;rw[Ir] at h;exact gc
instance A9t:Ct 133 (∀{a0} {a1} {r},N6 a0 a1=N r→FC Z 133 [.sc (.sl (Y X5.row a0)),.sc (.int .i64 a1)] [.sc (.v (.bool r))]):=by
 refine⟨fun{a0} {a1} {r} h=> ?_⟩;unfold N6 at h;refine A5 A4 Vw [4] 20 ?_;have k0:= @zw;exact gc
/- 135:spec_NextMinute -/
def Vx:Hw:=([(14,[1,10,11,12],[],[])],[])
def dX:=fun a1 a0 (k_:U→Q U)=>∀{v3} {zr},k_ v3=N zr→Kh Z 135 Vx 14 [1,10,11,12] [] [] ⟨[pI 1 a1,pL 10 X5.row a0,pI 11 (a0.length:U),pI 12 v3],[],[]⟩ (A8 [4] [.sc (.v (.int .i64 zr))])
theorem zy{a1 a0}{n:W}:dX a1 a0 (Iv a1 a0 n):=by
 induction n with
 | zero=>intro _ r h; cases h
 | succ n ih=>
  intro v3 r h σ hσ;rw[Iv] at h;exact gc
instance ye:Ct 135 (∀{a0} {a1} {r},Nc a0 a1=N r→FC Z 135 [.sc (.sl (Y X5.row a0)),.sc (.int .i64 a1)] [.sc (.v (.int .i64 r))]):=by
 refine⟨fun{a0} {a1} {r} h=> ?_⟩;unfold Nc at h;refine A5 A4 Vx [4] 25 ?_;have k0:= @zy;exact gc
/- 89:spec_l08Sail -/
def RU:Hw:=([(16,[2,3,4,6,7,14,15],[6,7],[1600]),(32,[2,3,4,6,7,14,15,17,73],[6,7],[1600])],[])
def dw:=fun a2 a3 a4 v4 r12 (a0:X1) (a1:X4) v5 (k_:V→Q ((P U) × V))=>∀{v17} {zr},k_ v17=N zr→Kh Z 89 RU 32 [2,3,4,6,7,14,15,17,73] [6,7] [1600] ⟨[pL 2 rI a2,pL 3 rI a3,pL 4 (rL X5.row) a4,pB 6,pB 7,pW 14 1600,pI 15 v4,pI 17 r12,(73,vc (aB v17))],[(6,[aM X7.row a0.Points,aM X2.row a0.Segments]),(7,(dm a1.row))],[(1600,1,Y rI v5)]⟩ (A8 [12,13] [.sc (.o 1 (Y rI zr.1)),.sc (.v (.bool zr.2))])
def U0:=fun a2 a3 a4 (a0:X1) (a1:X4) (k_:U→(P U)→Q ((P U) × V))=>∀{v4 v5} {zr},k_ v4 v5=N zr→Kh Z 89 RU 16 [2,3,4,6,7,14,15] [6,7] [1600] ⟨[pL 2 rI a2,pL 3 rI a3,pL 4 (rL X5.row) a4,pB 6,pB 7,pW 14 1600,pI 15 v4],[(6,[aM X7.row a0.Points,aM X2.row a0.Segments]),(7,(dm a1.row))],[(1600,1,Y rI v5)]⟩ (A8 [12,13] [.sc (.o 1 (Y rI zr.1)),.sc (.v (.bool zr.2))])
theorem Tn{a2 a3 a4 v4 r12 a0 a1 v5}{Qp}(oz:U0 a2 a3 a4 a0 a1 Qp):dw a2 a3 a4 v4 r12 a0 a1 v5 (IK a2 a3 a4 v4 r12 a0 a1 v5 Qp):=by
 intro v17 r h σ hσ;unfold IK at h;have s0:= @AD (Y rI ([r12]:P U));have k0:= @oz;exact gc
theorem zz{a2 a3 a4 a0 a1}{n:W}:U0 a2 a3 a4 a0 a1 (Ey a2 a3 a4 a0 a1 n):=by
 induction n with
 | zero=>intro _ _ r h; cases h
 | succ n ih=>
  intro v4 v5 r h σ hσ S hS
  conv at hS=>rhs; reduce
  try simp only[zB,zA,Ah,UInt8.reduceOfNat] at hS
  subst hS;rw[Ey] at h;refine AM (Ay ?_);obtain⟨h6,h⟩|⟨h6,h⟩:=ic h
  ·try simp only[hσ,h6,C,E,F,G,H,J]
   refine An ?_;obtain⟨x7,h7,h⟩:=ob h;have h7n:=Av h7;obtain⟨x8,h8,h⟩:=ob h;obtain⟨x9,h9,h⟩:=ob h;obtain⟨r10,h10,h⟩:=ob h;try simp only[h6,h7,h7n,h8,h9,C,E,F,G,H,J]
   refine BS (Ac Tj h10) ?_;obtain⟨x11,h11,h⟩:=ob h;obtain⟨r12,h12,h⟩:=ob h;try simp only[h6,h7,h7n,h8,h9,h11,C,E,F,G,H,J]
   refine AJ (Ac ye h12) ?_;try simp only[h6,h7,h7n,h8,h9,h11,C,E,F,G,H,J]
   refine An ?_;obtain⟨h13,h⟩|⟨h13,h⟩:=ic h
   ·try simp only[h6,h7,h7n,h8,h9,h11,h13,C,E,F,G,H,J]
    refine Tn ih h ?_ (by kernel_rfl);try simp only[h6,h7,h7n,h8,h9,h11,h13,C,E,F,G,H,J,pL,aM,I]
   ·obtain⟨h14,h⟩|⟨h14,h⟩:=ic h
    ·obtain⟨x15,h15,h⟩:=ob h;obtain⟨x16,h16,h⟩:=ob h;try simp only[h6,h7,h7n,h8,h9,h11,h13,h14,h15,h16,C,E,F,G,H,J]
     refine Tn ih h ?_ (by kernel_rfl);try simp only[h6,h7,h7n,h8,h9,h11,h13,h14,h15,h16,C,E,F,G,H,J,pL,aM,I]
    ·try simp only[h6,h7,h7n,h8,h9,h11,h13,h14,C,E,F,G,H,J]
     refine Tn ih h ?_ (by kernel_rfl);try simp only[h6,h7,h7n,h8,h9,h11,h13,h14,C,E,F,G,H,J,pL,aM,I]
  ·try simp only[hσ,h6,C,E,F,G,H,J]
   cases h;trivial
instance yk:Ct 89 (∀{a0} {a1} {a2} {a3} {a4} {a5} {r},KJ a0 a1 a2 a3 a4 a5=N r→FC Z 89 [.ag (X1.row a0),.ag (X4.row a1),.sc (.sl (Y rI a2)),.sc (.sl (Y rI a3)),.sc (.sl (Y (rL X5.row) a4)),.sc (.int .i64 a5)] [.sc (.o 1 (Y rI r.1)),.sc (.v (.bool r.2))]):=by
 refine⟨fun{a0} {a1} {a2} {a3} {a4} {a5} {r} h=> ?_⟩;unfold KJ at h;refine A5 A4 RU [12,13] 79 ?_;have s0:= @AD (Y rI ([a5]:P U));have k0:= @zz;exact gc
/- 136:spec_ArrivalOf -/
instance xy:Ct 136 (∀{a0} {a1} {a2} {a3} {r},MY a0 a1 a2 a3=N r→FC Z 136 [.ag (X1.row a0),.ag (X4.row a1),.sc (.sl (Y rI a2)),.sc (.sl (Y rI a3))] [.sc (.v (.int .i64 r))]):=by
 refine⟨fun{a0} {a1} {a2} {a3} {r} h=> ?_⟩;unfold MY at h;refine A5 A4 h0 [8] 54 ?_;exact gc
/- 137:spec_PassagesOf -/
def Vy:Hw:=([(18,[1,5,6,8,13,14,39,40,41],[6,8],[2176,2432])],[])
def dZ:=fun a1 a5 a4 (a0:X1) (a2:X4) r6 (k_:U→(P X3)→Q (P X3))=>∀{v7 v8} {zr},k_ v7 v8=N zr→Kh Z 137 Vy 18 [1,5,6,8,13,14,39,40,41] [6,8] [2176,2432] ⟨[pI 1 a1,pL 5 rI a5,pB 6,pB 8,pW 13 2176,pW 14 2432,pL 39 rI a4,pI 40 (a4.length:U),pI 41 v7],[(6,[aM X7.row a0.Points,aM X2.row a0.Segments]),(8,(dm a2.row))],[(2176,5,Y X3.row v8),(2432,1,Y rI r6)]⟩ (A8 [12] [.sc (.o 5 (Y X3.row zr))])
theorem A0a{a1 a5 a4 a0 a2 r6}{n:W}:dZ a1 a5 a4 a0 a2 r6 (Ix a1 a5 a4 a0 a2 r6 n):=by
 induction n with
 | zero=>intro _ _ r h; cases h
 | succ n ih=>
  intro v7 v8 r h σ hσ S hS
  conv at hS=>rhs; reduce
  try simp only[zB,zA,Ah,UInt8.reduceOfNat] at hS
  subst hS;rw[Ix] at h;refine AM (Ay ?_);obtain⟨h9,h⟩|⟨h9,h⟩:=ic h
  ·obtain⟨x10,h10,h⟩:=ob h;obtain⟨x11,h11,h⟩:=ob h;obtain⟨r12,h12,h⟩:=ob h;try simp only[hσ,h9,h10,h11,C,E,F,G,H,J]
   refine AJ (Ac QS h12) ?_;obtain⟨h13,h⟩|⟨h13,h⟩:=ic h
   ·try simp only[h9,h10,h11,h13,C,E,F,G,H,J]
    refine An ?_;obtain⟨x14,h14,h⟩:=ob h;obtain⟨x15,h15,h⟩:=ob h;have h15n:=Av h15;obtain⟨r16,h16,h⟩:=ob h;try simp only[h9,h10,h11,h13,h14,h15,h15n,C,E,F,G,H,J]
    refine BS (Ac Tj h16) ?_;try simp only[h9,h10,h11,h13,h14,h15,h15n,C,E,F,G,H,J]
    refine B7 (es:=Y X3.row ([(⟨a1,x10,(x14.A==x15),x11,(IntKind.i64.wrap (x11+r16))⟩:X3)]:P X3)) ?_;obtain⟨h17,h⟩:=AW h;try simp only[h9,h10,h11,h13,h14,h15,h15n,h17,C,E,F,G,H,J]
    refine An ?_;try simp only[h9,h10,h11,h13,h14,h15,h15n,h17,C,E,F,G,H,J]
    refine ih h ?_ (by kernel_rfl);try simp only[h9,h10,h11,h13,h14,h15,h15n,h17,C,E,F,G,H,J,pL,aM,I]
   ·try simp only[h9,h10,h11,h13,C,E,F,G,H,J]
    cases h;exact t0
  ·try simp only[hσ,h9,C,E,F,G,H,J]
   cases h;exact t0
instance yf:Ct 137 (∀{a0} {a1} {a2} {a3} {a4} {a5} {r},Nf a0 a1 a2 a3 a4 a5=N r→FC Z 137 [.ag (X1.row a0),.sc (.int .i64 a1),.ag (X4.row a2),.sc (.int .i64 a3),.sc (.sl (Y rI a4)),.sc (.sl (Y rI a5))] [.sc (.o 5 (Y X3.row r))]):=by
 refine⟨fun{a0} {a1} {a2} {a3} {a4} {a5} {r} h=> ?_⟩;unfold Nf at h;refine A5 A4 Vy [12] 87 ?_;have s0:= @AD (Y X3.row ([]:P X3));have k0:= @A0a;exact gc
/- 90:spec_l15Make -/
def bB:P (P W × AItem):= [([],(O,.load 65 (S 11) T 4)),([],(O,.faddr 66 (S 11) 1)),([1],(O,.load 67 (S 66) L 1)),([2],(O,.bin 68 .leq (S 67) (K 2880))),([0,0],(O,.store (S 8) (S 65) 4)),([3,4,0,1,2,3,4],(O,.mv 9 (S 68)))]
def Vz:Hw:=([(12,[4,8,10,11,46,47,48],[4,8,10,11],[2432])],[])
abbrev Jj(x2 r3 v6:U)(c0_ c1_:V)(c2_ c3_ c5_:V)(bx_:P (W × P AC))(rs_:Rows):St:=⟨[(8,vc (.pb 8 0)),(11,vc (.pb 11 0)),(65,bif c0_ then va [aI x2,aI r3,aI v6,.own 2432] else .undef),(66,bif c1_ then vc (.pb 11 1) else .undef),(67,bif c2_ then vc (aI r3) else .undef),(68,bif c3_ then vc (aB (decide (r3≤(2880:U)))) else .undef),(9,bif c5_ then vc (aB (decide (r3≤(2880:U)))) else .undef)],bx_,rs_⟩
abbrev QN(x2 r3:U)(r4:(P X3))(v6:U):St:=(Jj x2 r3 v6 T T T T T [(8,[aI x2,aI r3,aI v6,.own 2432]),(11,[aI x2,aI r3,aI v6,.own 2432])] [(2432,5,Y X3.row r4)])
theorem A0b(x2 r3 r4 v6):∀(f:W) (b1 b2:V) (b3 b5:V),Ae Z bB (QN x2 r3 r4 v6) f [T,b1,b2,b3,T,b5] (Jj x2 r3 v6 T b1 b2 b3 b5 [(8,[aI x2,aI r3,aI v6,.own 2432]),(11,[aI x2,aI r3,aI v6,.own 2432])] [(2432,5,Y X3.row r4)]):=by
 intro f
 induction f with
 | zero=>
  intro b1 b2 b3 b5 h;obtain rfl:b1=T:=zF.1 h b1 (by simp);obtain rfl:b2=T:=zF.1 h b2 (by simp);obtain rfl:b3=T:=zF.1 h b3 (by simp);obtain rfl:b5=T:=zF.1 h b5 (by simp);rfl
 | succ f ih=>
  intro b1 b2 b3 b5;refine Aj ⟨?_,?_,?_,?_,?_,?_,⟨⟩⟩<;>try first | (intro h; cases h; done) | (intro h0 hw; obtain rfl:=hz h0 rfl; (try obtain rfl:=hq hw 1 rfl rfl); (try obtain rfl:=hq hw 2 rfl rfl); (try obtain rfl:=hq hw 3 rfl rfl); refine np ?_; simp only[Jj,A6,A7,A2,C,E,F,G,H,J]; exact ih _ _ _ _)
theorem A0c(x2 r3 r4 v6):∀(f:W) (b0 b1:V) (b2 b3:V),Ae Z bB (QN x2 r3 r4 v6) f [b0,b1,b2,b3,L,L] (Jj x2 r3 v6 b0 b1 b2 b3 L [(8,[aI (0:U),aI (0:U),aI (0:U),.nil]),(11,[aI x2,aI r3,aI v6,.own 2432])] [(2432,5,Y X3.row r4)]):=by
 intro f
 induction f with
 | zero=>intro b0 b1 b2 b3 h; simp at h
 | succ f ih=>
  intro b0 b1 b2 b3;refine Aj ⟨?_,?_,?_,?_,?_,?_,⟨⟩⟩<;>try first | (intro _ hw; simp at hw; done) | (intro h0 hw; obtain rfl:=hz h0 rfl; (try obtain rfl:=hq hw 1 rfl rfl); (try obtain rfl:=hq hw 2 rfl rfl); refine np ?_; simp only[Jj,A6,A7,A2,C,E,F,G,H,J]; exact ih _ _ _ _)
  ·intro h0 hw;obtain rfl:=hq hw 0 rfl rfl;refine np ?_;try simp only[Jj,A6,A7,A2,C,E,F,G,H,J]
   exact A0b x2 r3 r4 v6 _ b1 b2 b3 L
def eG:=fun a2 (a0:X6) (x1:X4) x2 r3 r4 (k_:U→U→Q (X0 × V))=>∀{v5 v6} {zr},k_ v5 v6=N zr→Kh Z 90 Vz 12 [4,8,10,11,46,47,48] [4,8,10,11] [2432] ⟨[pB 4,pB 8,pB 10,pB 11,pL 46 rI a2,pI 47 (a2.length:U),pI 48 v5],[(4,([aI a0.Forecast.Tide.Mean,aM zD a0.Forecast.Tide.Parts,aM X9.row a0.Forecast.Surges,aM X7.row a0.Chart.Points,aM X2.row a0.Chart.Segments,aM X4.row a0.Fleet,aI a0.Regime.Gap,aB a0.Regime.NoMeet]++dm a0.Crew.row)),(8,[aI (0:U),aI (0:U),aI (0:U),.nil]),(10,(dm x1.row)),(11,[aI x2,aI r3,aI v6,.own 2432])],[(2432,5,Y X3.row r4)]⟩ (A8 [.c 8 T 4,9] [.ag [.v (.int .i64 zr.1.Start),.v (.int .i64 zr.1.Arrival),.v (.int .i64 zr.1.Cost),.o 5 (Y X3.row zr.1.Passages)],.sc (.v (.bool zr.2))])
theorem A0d{a2 a0 x1 x2 r3 r4}{n:W}:eG a2 a0 x1 x2 r3 r4 (GN a2 a0 x1 x2 r3 r4 n):=by
 induction n with
 | zero=>intro _ _ r h; cases h
 | succ n ih=>
  intro v5 v6 r h σ hσ S hS
  conv at hS=>rhs; reduce
  try simp only[zB,zA,Ah,UInt8.reduceOfNat] at hS
  subst hS;rw[GN] at h;refine AM (Ay ?_);obtain⟨h7,h⟩|⟨h7,h⟩:=ic h
  ·obtain⟨x8,h8,h⟩:=ob h;try simp only[hσ,h7,h8,C,E,F,G,H,J]
   refine An ?_;obtain⟨x9,h9,h⟩:=ob h;obtain⟨r10,h10,h⟩:=ob h;try simp only[h7,h8,h9,C,E,F,G,H,J]
   refine BS (Ac Tj h10) ?_;try simp only[h7,h8,h9,C,E,F,G,H,J]
   refine An ?_;try simp only[h7,h8,h9,C,E,F,G,H,J]
   refine ih h ?_ (by kernel_rfl);try simp only[h7,h8,h9,C,E,F,G,H,J,pL,aM,I]
  ·try simp only[hσ,h7,C,E,F,G,H,J]
   refine EA (ks:= [8,11]) (bs:= [8,11]) (rs:= [2432]) (τ:=(QN x2 r3 r4 v6)) X (A0c x2 r3 r4 v6 _ L L L L) ?_;simp only[QN,Jj,A6];try simp only[h7,C,E,F,G,H,J]
   cases h;try simp only[H4,C,E,F,G,H,J]
   trivial
instance yo:Ct 90 (∀{a0} {a1} {a2} {a3} {r},NA a0 a1 a2 a3=N r→FC Z 90 [.ag (X6.row a0),.ag (zE a1),.sc (.sl (Y rI a2)),.sc (.sl (Y rI a3))] [.ag [.v (.int .i64 r.1.Start),.v (.int .i64 r.1.Arrival),.v (.int .i64 r.1.Cost),.o 5 (Y X3.row r.1.Passages)],.sc (.v (.bool r.2))]):=by
 refine⟨fun{a0} {a1} {a2} {a3} {r} h=> ?_⟩;unfold NA at h;refine A5 A4 Vz [.c 8 T 4,9] 69 ?_;intro S hS
 conv at hS=>rhs; reduce
 try simp only[zB,zA,Ah,UInt8.reduceOfNat] at hS
 subst hS;simp only[C,E,F,G,H,J];try simp only[C,E,F,G,H,J]
 refine Bk ?_;try simp only[C,E,F,G,H,J]
 refine Bk ?_;try simp only[C,E,F,G,H,J]
 refine By ?_;obtain⟨x1,h1,h⟩:=ob h;try simp only[h1,C,E,F,G,H,J]
 refine By ?_;try simp only[h1,C,E,F,G,H,J]
 refine An ?_;obtain⟨x2,h2,h⟩:=ob h;obtain⟨r3,h3,h⟩:=ob h;try simp only[h1,h2,C,E,F,G,H,J]
 refine BS (Ac xy h3) ?_;obtain⟨r4,h4,h⟩:=ob h;try simp only[h1,h2,C,E,F,G,H,J]
 refine BS (Ac yf h4) ?_;try simp only[h1,h2,C,E,F,G,H,J]
 refine FJ (m:= .box 11 [aI (0:U),aI (0:U),aI (0:U),.nil]) X X (J2 X X) ?_;try simp only[h1,h2,C,E,F,G,H,J]
 refine An ?_;try simp only[h1,h2,C,E,F,G,H,J]
 refine A0d h ?_ (by kernel_rfl);try simp only[h1,h2,C,E,F,G,H,J,pL,aM,I]
/- 55:spec_OptionsOf -/
def RW:Hw:=([(32,[2,3,5,7,8,9,10,11],[2,3,7],[2816,3200,3264]),(56,[2,3,5,7,8,9,10,11],[2,3,7],[2816,3200,3264])],[(54,2,(O,.frz 5315))])
def dY:=fun(r3:(P U) × V) v8 (a0:X6) (a1:Xa) (x5:X4) r6 r7 (k_:(P X0)→Q (P X0))=>∀{v17} {zr},k_ v17=N zr→Kh Z 55 RW 56 [2,3,5,7,8,9,10,11] [2,3,7] [2816,3200,3264] ⟨[pB 2,pB 3,pL 5 rI r3.1,pB 7,pW 8 2816,pW 9 3200,pW 10 3264,pI 11 v8],[(2,([aI a0.Forecast.Tide.Mean,aM zD a0.Forecast.Tide.Parts,aM X9.row a0.Forecast.Surges,aM X7.row a0.Chart.Points,aM X2.row a0.Chart.Segments,aM X4.row a0.Fleet,aI a0.Regime.Gap,aB a0.Regime.NoMeet]++dm a0.Crew.row)),(3,(dm a1.row)),(7,(dm x5.row))],[(2816,1,Y (rL X5.row) r6),(3200,1,Y rI r7),(3264,4,Y X0.row v17)]⟩ (A8 [4] [.sc (.o 4 (Y X0.row zr))])
def TU:=fun(r3:(P U) × V) (a0:X6) (a1:Xa) (x5:X4) r6 r7 (k_:U→(P X0)→Q (P X0))=>∀{v8 v9} {zr},k_ v8 v9=N zr→Kh Z 55 RW 32 [2,3,5,7,8,9,10,11] [2,3,7] [2816,3200,3264] ⟨[pB 2,pB 3,pL 5 rI r3.1,pB 7,pW 8 2816,pW 9 3200,pW 10 3264,pI 11 v8],[(2,([aI a0.Forecast.Tide.Mean,aM zD a0.Forecast.Tide.Parts,aM X9.row a0.Forecast.Surges,aM X7.row a0.Chart.Points,aM X2.row a0.Chart.Segments,aM X4.row a0.Fleet,aI a0.Regime.Gap,aB a0.Regime.NoMeet]++dm a0.Crew.row)),(3,(dm a1.row)),(7,(dm x5.row))],[(2816,1,Y (rL X5.row) r6),(3200,1,Y rI r7),(3264,4,Y X0.row v9)]⟩ (A8 [4] [.sc (.o 4 (Y X0.row zr))])
theorem Tp{r3 v8 a0 a1 x5 r6 r7}{Qm}(ow:TU r3 a0 a1 x5 r6 r7 Qm):dY r3 v8 a0 a1 x5 r6 r7 (Iw r3 v8 a0 a1 x5 r6 r7 Qm):=by
 intro v17 r h σ hσ;unfold Iw at h;have k0:= @ow;exact gc
theorem A0e{r3 a0 a1 x5 r6 r7}{n:W}:TU r3 a0 a1 x5 r6 r7 (Fw r3 a0 a1 x5 r6 r7 n):=by
 induction n with
 | zero=>intro _ _ r h; cases h
 | succ n ih=>
  intro v8 v9 r h σ hσ S hS
  conv at hS=>rhs; reduce
  try simp only[zB,zA,Ah,UInt8.reduceOfNat] at hS
  subst hS;rw[Fw] at h;refine AM (Ay ?_);obtain⟨h10,h⟩|⟨h10,h⟩:=ic h
  ·obtain⟨h11,h⟩|⟨h11,h⟩:=ic h
   ·obtain⟨r12,h12,h⟩:=ob h;try simp only[hσ,h10,h11,C,E,F,G,H,J]
    refine Cf (Ac yk h12) X (CN X ⟨CB,X,⟨⟩⟩) X (uf X) ?_;obtain⟨h13,h⟩|⟨h13,h⟩:=ic h
    ·obtain⟨r14,h14,h⟩:=ob h;try simp only[h10,h11,h13,C,E,F,G,H,J]
     refine Cf (Ac yo h14) X (CN X ⟨X,X,X,CB,X,⟨⟩⟩) X (uf X) ?_;try simp only[h10,h11,h13,C,E,F,G,H,J]
     refine By ?_;obtain⟨h15,h⟩|⟨h15,h⟩:=ic h
     ·try simp only[h10,h11,h13,h15,C,E,F,G,H,J]
      refine Cq ?_;try simp only[h10,h11,h13,h15,C,E,F,G,H,J]
      refine B7 (es:=Y X0.row ([r14.1]:P X0)) ?_;obtain⟨h16,h⟩:=AW h;try simp only[h10,h11,h13,h15,h16,C,E,F,G,H,J]
      refine Tp ih h ?_ (by kernel_rfl);try simp only[h10,h11,h13,h15,h16,C,E,F,G,H,J,pL,aM,I]
     ·try simp only[h10,h11,h13,h15,C,E,F,G,H,J]
      refine Tp ih h ?_ (by kernel_rfl);try simp only[h10,h11,h13,h15,C,E,F,G,H,J,pL,aM,I]
    ·try simp only[h10,h11,h13,C,E,F,G,H,J]
     refine Tp ih h ?_ (by kernel_rfl);try simp only[h10,h11,h13,C,E,F,G,H,J,pL,aM,I]
   ·try simp only[hσ,h10,h11,C,E,F,G,H,J]
    cases h;exact t0
  ·try simp only[hσ,h10,C,E,F,G,H,J]
   cases h;exact t0
instance A9z:Ct 55 (∀{a0} {a1} {r},KC a0 a1=N r→FC Z 55 [.ag (X6.row a0),.ag (zE a1)] [.sc (.o 4 (Y X0.row r))]):=by
 refine⟨fun{a0} {a1} {r} h=> ?_⟩;unfold KC at h;refine A5 A4 RW [4] 92 ?_;have s0:= @AD (Y X0.row ([]:P X0));have k0:= @A0e;exact gc
/- 22:spec_l16Options -/
def VB:Hw:=([(8,[2,5,9,10,11],[2],[512])],[(19,4,(O,.frz 1152))])
def eI:=fun a1 (a0:X6) (k_:U→(P (P X0))→Q (P (P X0)))=>∀{v1 v2} {zr},k_ v1 v2=N zr→Kh Z 22 VB 8 [2,5,9,10,11] [2] [512] ⟨[pB 2,pW 5 512,pL 9 zE a1,pI 10 (a1.length:U),pI 11 v1],[(2,([aI a0.Forecast.Tide.Mean,aM zD a0.Forecast.Tide.Parts,aM X9.row a0.Forecast.Surges,aM X7.row a0.Chart.Points,aM X2.row a0.Chart.Segments,aM X4.row a0.Fleet,aI a0.Regime.Gap,aB a0.Regime.NoMeet]++dm a0.Crew.row))],[(512,1,Y (rL X0.row) v2)]⟩ (A8 [4] [.sc (.o 1 (Y (rL X0.row) zr))])
theorem A0f{a1 a0}{n:W}:eI a1 a0 (IN a1 a0 n):=by
 induction n with
 | zero=>intro _ _ r h; cases h
 | succ n ih=>
  intro v1 v2 r h σ hσ;rw[IN] at h;have s0:=fun(r5:(P X0))=> @AD (Y (rL X0.row) ([r5]:P (P X0)))
  exact gc
instance yq:Ct 22 (∀{a0} {a1} {r},PS a0 a1=N r→FC Z 22 [.ag (X6.row a0),.sc (.sl (Y zE a1))] [.sc (.o 1 (Y (rL X0.row) r))]):=by
 refine⟨fun{a0} {a1} {r} h=> ?_⟩;unfold PS at h;refine A5 A4 VB [4] 23 ?_;have s0:= @AD (Y (rL X0.row) ([]:P (P X0)));have k0:= @A0f;exact gc
/- 138:spec_Overlaps -/
instance A90:Ct 138 (∀{a0} {a1} {r},KD a0 a1=N r→FC Z 138 [.ag (X3.row a0),.ag (X3.row a1)] [.sc (.v (.bool r))]):=by
 refine⟨fun{a0} {a1} {r} h=> ?_⟩;unfold KD at h;refine A5 A4 h0 [4] 16 ?_;exact gc
/- 139:spec_l09Near -/
def VC:Hw:=([(14,[2,7,8],[],[])],[])
def dy:=fun a2 (k_:U→U→Q V)=>∀{v3 v4} {zr},k_ v3 v4=N zr→Kh Z 139 VC 14 [2,7,8] [] [] ⟨[pI 2 a2,pI 7 v3,pI 8 v4],[],[]⟩ (A8 [6] [.sc (.v (.bool zr))])
theorem A0g{a2}:dy a2 (Nx a2):=by
 intro v3 v4 r h σ hσ;unfold Nx at h;exact gc
instance B0t:Ct 139 (∀{a0} {a1} {a2} {r},KK a0 a1 a2=N r→FC Z 139 [.sc (.int .i64 a0),.sc (.int .i64 a1),.sc (.int .i64 a2)] [.sc (.v (.bool r))]):=by
 refine⟨fun{a0} {a1} {a2} {r} h=> ?_⟩;unfold KK at h;refine A5 A4 VC [6] 28 ?_;have k0:= @A0g;exact gc
/- 91:spec_ConflictOf -/
instance A9m:Ct 91 (∀{a0} {a1} {a2} {a3} {r},N2 a0 a1 a2 a3=N r→FC Z 91 [.ag (X1.row a0),.ag (Xi.row a1),.ag (X3.row a2),.ag (X3.row a3)] [.sc (.v (.int .i64 r))]):=by
 refine⟨fun{a0} {a1} {a2} {a3} {r} h=> ?_⟩;unfold N2 at h;refine A5 A4 h0 [8] 108 ?_;exact gc
/- 56:spec_Clashes -/
def RX:Hw:=([(6,[3,4,5,13,14,15],[4,5],[]),(20,[3,4,5,10,13,14,15,19,20,21],[4,5,10],[])],[])
def dK:=fun a3 a2 v1 (a0:X1) (a1:Xi) (x3:X3) (k_:U→Q V)=>∀{v4} {zr},k_ v4=N zr→Kh Z 56 RX 20 [3,4,5,10,13,14,15,19,20,21] [4,5,10] [] ⟨[pL 3 X3.row a3,pB 4,pB 5,pB 10,pL 13 X3.row a2,pI 14 (a2.length:U),pI 15 v1,pL 19 X3.row a3,pI 20 (a3.length:U),pI 21 v4],[(4,[aM X7.row a0.Points,aM X2.row a0.Segments]),(5,(dm a1.row)),(10,(dm x3.row))],[]⟩ (A8 [8] [.sc (.v (.bool zr))])
def TT:=fun a3 a2 (a0:X1) (a1:Xi) (k_:U→Q V)=>∀{v1} {zr},k_ v1=N zr→Kh Z 56 RX 6 [3,4,5,13,14,15] [4,5] [] ⟨[pL 3 X3.row a3,pB 4,pB 5,pL 13 X3.row a2,pI 14 (a2.length:U),pI 15 v1],[(4,[aM X7.row a0.Points,aM X2.row a0.Segments]),(5,(dm a1.row))],[]⟩ (A8 [8] [.sc (.v (.bool zr))])
theorem A0h{a3 a2 v1 a0 a1 x3}{O4}(ov:TT a3 a2 a0 a1 O4){n:W}:dK a3 a2 v1 a0 a1 x3 (Il a3 a2 v1 a0 a1 x3 O4 n):=by
 induction n with
 | zero=>intro _ r h; cases h
 | succ n ih=>
  intro v4 r h σ hσ;rw[Il] at h;have k0:= @ov;exact gc
theorem A0i{a3 a2 a0 a1}{n:W}:TT a3 a2 a0 a1 (Fv a3 a2 a0 a1 n):=by
 induction n with
 | zero=>intro _ r h; cases h
 | succ n ih=>
  intro v1 r h σ hσ;rw[Fv] at h;have k0:= @A0h;exact gc
instance A9l:Ct 56 (∀{a0} {a1} {a2} {a3} {r},N1 a0 a1 a2 a3=N r→FC Z 56 [.ag (X1.row a0),.ag (Xi.row a1),.sc (.sl (Y X3.row a2)),.sc (.sl (Y X3.row a3))] [.sc (.v (.bool r))]):=by
 refine⟨fun{a0} {a1} {a2} {a3} {r} h=> ?_⟩;unfold N1 at h;refine A5 A4 RX [8] 33 ?_;have k0:= @A0i;exact gc
/- 23:spec_l16Clash -/
def NK:Hw:=([(8,[1,2,5,18,19,20],[2],[1088]),(25,[1,2,5,7,8,18,19,20,25,26,27],[2],[1088,1536]),(42,[1,2,5,7,8,10,11,18,19,20,25,26,27,32,33,34],[2],[1088,1536,1984]),(59,[1,2,5,7,8,10,11,13,14,18,19,20,25,26,27,32,33,34,39,40,41],[2,13],[1088,1536,1984,2432])],[(72,2,(O,.frz 2432)),(74,2,(O,.frz 1984)),(76,2,(O,.frz 1536))])
def eH:=fun a1 x4 x8 v1 v5 v9 (a0:X6) (x12:X0) v2 v6 v10 (k_:U→(P V)→Q (P (P (P (P V)))))=>∀{v13 v14} {zr},k_ v13 v14=N zr→Kh Z 23 NK 59 [1,2,5,7,8,10,11,13,14,18,19,20,25,26,27,32,33,34,39,40,41] [2,13] [1088,1536,1984,2432] ⟨[pL 1 (rL X0.row) a1,pB 2,pW 5 1088,pL 7 X0.row x4,pW 8 1536,pL 10 X0.row x8,pW 11 1984,pB 13,pW 14 2432,pL 18 (rL X0.row) a1,pI 19 (a1.length:U),pI 20 v1,pL 25 (rL X0.row) a1,pI 26 (a1.length:U),pI 27 v5,pL 32 X0.row x4,pI 33 (x4.length:U),pI 34 v9,pL 39 X0.row x8,pI 40 (x8.length:U),pI 41 v13],[(2,([aI a0.Forecast.Tide.Mean,aM zD a0.Forecast.Tide.Parts,aM X9.row a0.Forecast.Surges,aM X7.row a0.Chart.Points,aM X2.row a0.Chart.Segments,aM X4.row a0.Fleet,aI a0.Regime.Gap,aB a0.Regime.NoMeet]++dm a0.Crew.row)),(13,(dm x12.row))],[(1088,1,Y (rL (rL (rL rB))) v2),(1536,1,Y (rL (rL rB)) v6),(1984,1,Y (rL rB) v10),(2432,1,Y rB v14)]⟩ (A8 [4] [.sc (.o 1 (Y (rL (rL (rL rB))) zr))])
def U5:=fun a1 x4 x8 v1 v5 (a0:X6) v2 v6 (k_:U→(P (P V))→Q (P (P (P (P V)))))=>∀{v9 v10} {zr},k_ v9 v10=N zr→Kh Z 23 NK 42 [1,2,5,7,8,10,11,18,19,20,25,26,27,32,33,34] [2] [1088,1536,1984] ⟨[pL 1 (rL X0.row) a1,pB 2,pW 5 1088,pL 7 X0.row x4,pW 8 1536,pL 10 X0.row x8,pW 11 1984,pL 18 (rL X0.row) a1,pI 19 (a1.length:U),pI 20 v1,pL 25 (rL X0.row) a1,pI 26 (a1.length:U),pI 27 v5,pL 32 X0.row x4,pI 33 (x4.length:U),pI 34 v9],[(2,([aI a0.Forecast.Tide.Mean,aM zD a0.Forecast.Tide.Parts,aM X9.row a0.Forecast.Surges,aM X7.row a0.Chart.Points,aM X2.row a0.Chart.Segments,aM X4.row a0.Fleet,aI a0.Regime.Gap,aB a0.Regime.NoMeet]++dm a0.Crew.row))],[(1088,1,Y (rL (rL (rL rB))) v2),(1536,1,Y (rL (rL rB)) v6),(1984,1,Y (rL rB) v10)]⟩ (A8 [4] [.sc (.o 1 (Y (rL (rL (rL rB))) zr))])
def U4:=fun a1 x4 v1 (a0:X6) v2 (k_:U→(P (P (P V)))→Q (P (P (P (P V)))))=>∀{v5 v6} {zr},k_ v5 v6=N zr→Kh Z 23 NK 25 [1,2,5,7,8,18,19,20,25,26,27] [2] [1088,1536] ⟨[pL 1 (rL X0.row) a1,pB 2,pW 5 1088,pL 7 X0.row x4,pW 8 1536,pL 18 (rL X0.row) a1,pI 19 (a1.length:U),pI 20 v1,pL 25 (rL X0.row) a1,pI 26 (a1.length:U),pI 27 v5],[(2,([aI a0.Forecast.Tide.Mean,aM zD a0.Forecast.Tide.Parts,aM X9.row a0.Forecast.Surges,aM X7.row a0.Chart.Points,aM X2.row a0.Chart.Segments,aM X4.row a0.Fleet,aI a0.Regime.Gap,aB a0.Regime.NoMeet]++dm a0.Crew.row))],[(1088,1,Y (rL (rL (rL rB))) v2),(1536,1,Y (rL (rL rB)) v6)]⟩ (A8 [4] [.sc (.o 1 (Y (rL (rL (rL rB))) zr))])
def U3:=fun a1 (a0:X6) (k_:U→(P (P (P (P V))))→Q (P (P (P (P V)))))=>∀{v1 v2} {zr},k_ v1 v2=N zr→Kh Z 23 NK 8 [1,2,5,18,19,20] [2] [1088] ⟨[pL 1 (rL X0.row) a1,pB 2,pW 5 1088,pL 18 (rL X0.row) a1,pI 19 (a1.length:U),pI 20 v1],[(2,([aI a0.Forecast.Tide.Mean,aM zD a0.Forecast.Tide.Parts,aM X9.row a0.Forecast.Surges,aM X7.row a0.Chart.Points,aM X2.row a0.Chart.Segments,aM X4.row a0.Fleet,aI a0.Regime.Gap,aB a0.Regime.NoMeet]++dm a0.Crew.row))],[(1088,1,Y (rL (rL (rL rB))) v2)]⟩ (A8 [4] [.sc (.o 1 (Y (rL (rL (rL rB))) zr))])
theorem A0k{a1 x4 x8 v1 v5 v9 a0 x12 v2 v6 v10}{Oa}(pF:U5 a1 x4 x8 v1 v5 a0 v2 v6 Oa){n:W}:eH a1 x4 x8 v1 v5 v9 a0 x12 v2 v6 v10 (IM a1 x4 x8 v1 v5 v9 a0 x12 v2 v6 v10 Oa n):=by
 induction n with
 | zero=>intro _ _ r h; cases h
 | succ n ih=>
  intro v13 v14 r h σ hσ;rw[IM] at h;have s0:=fun(r17:V)=> @AD (Y rB ([r17]:P V))
  have s1:= @AD (Y (rL rB) ([v14]:P (P V)));have k0:= @pF;exact gc
theorem A0l{a1 x4 x8 v1 v5 a0 v2 v6}{O9}(pE:U4 a1 x4 v1 a0 v2 O9){n:W}:U5 a1 x4 x8 v1 v5 a0 v2 v6 (FG a1 x4 x8 v1 v5 a0 v2 v6 O9 n):=by
 induction n with
 | zero=>intro _ _ r h; cases h
 | succ n ih=>
  intro v9 v10 r h σ hσ;rw[FG] at h;have s0:= @AD (Y rB ([]:P V));have s1:= @AD (Y (rL (rL rB)) ([v10]:P (P (P V))));have k0:= @A0k; have k1:= @pE;exact gc
theorem A0m{a1 x4 v1 a0 v2}{O8}(pD:U3 a1 a0 O8){n:W}:U4 a1 x4 v1 a0 v2 (E5 a1 x4 v1 a0 v2 O8 n):=by
 induction n with
 | zero=>intro _ _ r h; cases h
 | succ n ih=>
  intro v5 v6 r h σ hσ;rw[E5] at h;have s0:= @AD (Y (rL rB) ([]:P (P V)));have s1:= @AD (Y (rL (rL (rL rB))) ([v6]:P (P (P (P V)))));have k0:= @A0l; have k1:= @pD;exact gc
theorem A0n{a1 a0}{n:W}:U3 a1 a0 (Dg a1 a0 n):=by
 induction n with
 | zero=>intro _ _ r h; cases h
 | succ n ih=>
  intro v1 v2 r h σ hσ;rw[Dg] at h;have s0:= @AD (Y (rL (rL rB)) ([]:P (P (P V))));have k0:= @A0m;exact gc
instance yp:Ct 23 (∀{a0} {a1} {r},NB a0 a1=N r→FC Z 23 [.ag (X6.row a0),.sc (.sl (Y (rL X0.row) a1))] [.sc (.o 1 (Y (rL (rL (rL rB))) r))]):=by
 refine⟨fun{a0} {a1} {r} h=> ?_⟩;unfold NB at h;refine A5 A4 NK [4] 74 ?_;have s0:= @AD (Y (rL (rL (rL rB))) ([]:P (P (P (P V)))));have k0:= @A0n;exact gc
/- 92:spec_l21Account -/
def VD:Hw:=([(8,[2,3,6,7,14,15,16],[3,6,7],[704,768])],[])
def eJ:=fun a2 a1 (a0:X6) (k_:U→(P U)→(P U)→Q Xo)=>∀{v3 v4 v5} {zr},k_ v3 v4 v5=N zr→Kh Z 92 VD 8 [2,3,6,7,14,15,16] [3,6,7] [704,768] ⟨[pL 2 X0.row a2,pB 3,pB 6,pB 7,pL 14 zE a1,pI 15 (a1.length:U),pI 16 v3],[(3,([aI a0.Forecast.Tide.Mean,aM zD a0.Forecast.Tide.Parts,aM X9.row a0.Forecast.Surges,aM X7.row a0.Chart.Points,aM X2.row a0.Chart.Segments,aM X4.row a0.Fleet,aI a0.Regime.Gap,aB a0.Regime.NoMeet]++dm a0.Crew.row)),(6,[.nil,.nil]),(7,[.own 704,.own 768])],[(704,1,Y rI v4),(768,1,Y rI v5)]⟩ (A8 [.c 6 T 2] [.ag [.o 1 (Y rI zr.Waits),.o 1 (Y rI zr.Calls)]])
theorem A0o{a2 a1 a0}{n:W}:eJ a2 a1 a0 (IQ a2 a1 a0 n):=by
 induction n with
 | zero=>intro _ _ _ r h; cases h
 | succ n ih=>
  intro v3 v4 v5 r h σ hσ S hS
  conv at hS=>rhs; reduce
  try simp only[zB,zA,Ah,UInt8.reduceOfNat] at hS
  subst hS;rw[IQ] at h;refine AM (Ay ?_);obtain⟨h6,h⟩|⟨h6,h⟩:=ic h
  ·obtain⟨x7,h7,h⟩:=ob h;try simp only[hσ,h6,h7,C,E,F,G,H,J]
   refine By ?_;obtain⟨x8,h8,h⟩:=ob h;try simp only[h6,h7,h8,C,E,F,G,H,J]
   refine An ?_;obtain⟨x9,h9,h⟩:=ob h;have h9n:=Av h9;obtain⟨x10,h10,h⟩:=ob h;try simp only[h6,h7,h8,h9,h9n,h10,C,E,F,G,H,J]
   refine AS (row:=rI) (y:=(IntKind.i64.wrap (x9+x10.Cost))) X X h9n X X (by rfl) ?_;try simp only[h6,h7,h8,h9,h9n,h10,C,E,F,G,H,J]
   refine An ?_;obtain⟨x11,h11,h⟩:=ob h;have h11n:=Av h11;try simp only[h6,h7,h8,h9,h9n,h10,h11,h11n,C,E,F,G,H,J]
   refine AS (row:=rI) (y:=(IntKind.i64.wrap (x11+(1:U)))) X X h11n X X (by rfl) ?_;try simp only[h6,h7,h8,h9,h9n,h10,h11,h11n,C,E,F,G,H,J]
   refine ih h ?_ (by kernel_rfl);try simp only[h6,h7,h8,h9,h9n,h10,h11,h11n,C,E,F,G,H,J,pL,aM,I]
  ·try simp only[hσ,h6,C,E,F,G,H,J]
   cases h;try simp only[H4,C,E,F,G,H,J]
   trivial
instance yr:Ct 92 (∀{a0} {a1} {a2} {r},IP a0 a1 a2=N r→FC Z 92 [.ag (X6.row a0),.sc (.sl (Y zE a1)),.sc (.sl (Y X0.row a2))] [.ag [.o 1 (Y rI r.Waits),.o 1 (Y rI r.Calls)]]):=by
 refine⟨fun{a0} {a1} {a2} {r} h=> ?_⟩;unfold IP at h;refine A5 A4 VD [.c 6 T 2] 52 ?_;intro S hS
 conv at hS=>rhs; reduce
 try simp only[zB,zA,Ah,UInt8.reduceOfNat] at hS
 subst hS;simp only[C,E,F,G,H,J];try simp only[C,E,F,G,H,J]
 refine Bk ?_;try simp only[C,E,F,G,H,J]
 refine By ?_;try simp only[C,E,F,G,H,J]
 refine An ?_;obtain⟨n1,hn1,h⟩:=ob h;try simp only[C,E,F,G,H,J]
 refine FJ (m:= .row 11 1 (Y rI (List.replicate n1 (0:U)))) (Og X X hn1 X (Jd X)) X (L5 X) ?_;obtain⟨n2,hn2,h⟩:=ob h;try simp only[C,E,F,G,H,J]
 refine FJ (m:= .row 12 1 (Y rI (List.replicate n2 (0:U)))) (Og X X hn2 X (Jd X)) X (L5 X) ?_;try simp only[C,E,F,G,H,J]
 refine FJ (m:= .box 7 [.nil,.nil]) X X (J2 X X) ?_;try simp only[C,E,F,G,H,J]
 refine An ?_;try simp only[C,E,F,G,H,J]
 refine A0o h ?_ (by kernel_rfl);try simp only[C,E,F,G,H,J,pL,aM,I]
/- 93:spec_CostOf -/
def VE:Hw:=([(8,[3,6,7,8],[],[])],[])
def dL:=fun a0 (k_:U→U→Q U)=>∀{v1 v2} {zr},k_ v1 v2=N zr→Kh Z 93 VE 8 [3,6,7,8] [] [] ⟨[pI 3 v1,pL 6 X0.row a0,pI 7 (a0.length:U),pI 8 v2],[],[]⟩ (A8 [2] [.sc (.v (.int .i64 zr))])
theorem A0p{a0}{n:W}:dL a0 (Ku a0 n):=by
 induction n with
 | zero=>intro _ _ r h; cases h
 | succ n ih=>
  intro v1 v2 r h σ hσ;rw[Ku] at h;exact gc
instance yb:Ct 93 (∀{a0} {r},N3 a0=N r→FC Z 93 [.sc (.sl (Y X0.row a0))] [.sc (.v (.int .i64 r))]):=by
 refine⟨fun{a0} {r} h=> ?_⟩;unfold N3 at h;refine A5 A4 VE [2] 18 ?_;have k0:= @A0p;exact gc
/- 95:spec_ChainsOf -/
def VF:Hw:=([(8,[3,7,8,9],[],[384])],[(19,5,(O,.frz 896))])
def dH:=fun a0 (k_:U→(P (P X3))→Q (P (P X3)))=>∀{v1 v2} {zr},k_ v1 v2=N zr→Kh Z 95 VF 8 [3,7,8,9] [] [384] ⟨[pW 3 384,pL 7 X0.row a0,pI 8 (a0.length:U),pI 9 v1],[],[(384,1,Y (rL X3.row) v2)]⟩ (A8 [2] [.sc (.o 1 (Y (rL X3.row) zr))])
theorem A0q{a0}{n:W}:dH a0 (Ii a0 n):=by
 induction n with
 | zero=>intro _ _ r h; cases h
 | succ n ih=>
  intro v1 v2 r h σ hσ S hS
  conv at hS=>rhs; reduce
  try simp only[zB,zA,Ah,UInt8.reduceOfNat] at hS
  subst hS;rw[Ii] at h;refine AM (Ay ?_);obtain⟨h3,h⟩|⟨h3,h⟩:=ic h
  ·obtain⟨x4,h4,h⟩:=ob h;try simp only[hσ,h3,h4,C,E,F,G,H,J]
   refine By ?_;try simp only[h3,h4,C,E,F,G,H,J]
   refine B7 (es:=Y X3.row ([]:P X3)) ?_;obtain⟨h5,h⟩:=AW h;try simp only[h3,h4,h5,C,E,F,G,H,J]
   refine Cq ?_;try simp only[h3,h4,h5,C,E,F,G,H,J]
   refine B7 (es:=Y (rL X3.row) ([x4.Passages]:P (P X3))) ?_;obtain⟨h6,h⟩:=AW h;try simp only[h3,h4,h5,h6,C,E,F,G,H,J]
   refine ih h ?_ (by kernel_rfl);try simp only[h3,h4,h5,h6,C,E,F,G,H,J,pL,aM,I]
  ·try simp only[hσ,h3,C,E,F,G,H,J]
   cases h;exact t0
instance Th:Ct 95 (∀{a0} {r},Gw a0=N r→FC Z 95 [.sc (.sl (Y X0.row a0))] [.sc (.o 1 (Y (rL X3.row) r))]):=by
 refine⟨fun{a0} {r} h=> ?_⟩;unfold Gw at h;refine A5 A4 VF [2] 22 ?_;have s0:= @AD (Y (rL X3.row) ([]:P (P X3)));have k0:= @A0q;exact gc
/- 188:spec_PassageOk -/
instance A92:Ct 188 (∀{a0} {a1} {a2} {r},KE a0 a1 a2=N r→FC Z 188 [.ag (X1.row a0),.sc (.sl (Y X4.row a1)),.ag (X3.row a2)] [.sc (.v (.bool r))]):=by
 refine⟨fun{a0} {a1} {a2} {r} h=> ?_⟩;unfold KE at h;refine A5 A4 h0 [6] 60 ?_;exact gc
/- 189:spec_l08Ends -/
instance B0r:Ct 189 (∀{a0} {a1} {r},FD a0 a1=N r→FC Z 189 [.ag (X1.row a0),.ag (X3.row a1)] [.sc (.v (.int .i64 r.1)),.sc (.v (.int .i64 r.2))]):=by
 refine⟨fun{a0} {a1} {r} h=> ?_⟩;unfold FD at h;refine A5 A4 h0 [4,5] 23 ?_;exact gc
/- 168:spec_l14Tugs -/
def RY:Hw:=([(8,[1,3,8,15,16,17],[3],[896]),(33,[1,3,8,10,11,12,13,15,16,17],[3,10],[896])],[])
def eF:=fun a1 (r7:U × U) a2 v1 (a0:X1) (x4:X3) (k_:U→(P Xb)→Q ((P Xb) × V))=>∀{v8 v9} {zr},k_ v8 v9=N zr→Kh Z 168 RY 33 [1,3,8,10,11,12,13,15,16,17] [3,10] [896] ⟨[pL 1 X4.row a1,pB 3,pW 8 896,pB 10,pI 11 r7.1,pI 12 r7.2,pI 13 v8,pL 15 X3.row a2,pI 16 (a2.length:U),pI 17 v1],[(3,[aM X7.row a0.Points,aM X2.row a0.Segments]),(10,(dm x4.row))],[(896,4,Y zC v9)]⟩ (A8 [6,7] [.sc (.o 4 (Y zC zr.1)),.sc (.v (.bool zr.2))])
def U2:=fun a1 a2 (a0:X1) (k_:U→(P Xb)→Q ((P Xb) × V))=>∀{v1 v2} {zr},k_ v1 v2=N zr→Kh Z 168 RY 8 [1,3,8,15,16,17] [3] [896] ⟨[pL 1 X4.row a1,pB 3,pW 8 896,pL 15 X3.row a2,pI 16 (a2.length:U),pI 17 v1],[(3,[aM X7.row a0.Points,aM X2.row a0.Segments])],[(896,4,Y zC v2)]⟩ (A8 [6,7] [.sc (.o 4 (Y zC zr.1)),.sc (.v (.bool zr.2))])
theorem A0r{a1 r7 a2 v1 a0 x4}{O7}(pC:U2 a1 a2 a0 O7){n:W}:eF a1 r7 a2 v1 a0 x4 (GM a1 r7 a2 v1 a0 x4 O7 n):=by
 induction n with
 | zero=>intro _ _ r h; cases h
 | succ n ih=>
  intro v8 v9 r h σ hσ;rw[GM] at h;have s0:= @AD (Y zC ([(⟨x4.Start,x4.End,r7.1,r7.2⟩:Xb)]:P Xb));have k0:= @pC;exact gc
theorem A0s{a1 a2 a0}{n:W}:U2 a1 a2 a0 (FF a1 a2 a0 n):=by
 induction n with
 | zero=>intro _ _ r h; cases h
 | succ n ih=>
  intro v1 v2 r h σ hσ;rw[FF] at h;have k0:= @A0r;exact gc
instance B0x:Ct 168 (∀{a0} {a1} {a2} {r},PR a0 a1 a2=N r→FC Z 168 [.ag (X1.row a0),.sc (.sl (Y X4.row a1)),.sc (.sl (Y X3.row a2))] [.sc (.o 4 (Y zC r.1)),.sc (.v (.bool r.2))]):=by
 refine⟨fun{a0} {a1} {a2} {r} h=> ?_⟩;unfold PR at h;refine A5 A4 RY [6,7] 57 ?_;have s0:= @AD (Y zC ([]:P Xb));have k0:= @A0s;exact gc
/- 211:spec_l13Duty -/
instance B0v:Ct 211 (∀{a0} {r},IL a0=N r→FC Z 211 [.ag (zC a0)] [.sc (.v (.bool r))]):=by
 refine⟨fun{a0} {r} h=> ?_⟩;unfold IL at h;refine A5 A4 h0 [2] 28 ?_;exact gc
/- 190:spec_DutiesOk -/
def VH:Hw:=([(14,[8,9,10],[],[])],[])
def dN:=fun a0 (k_:U→Q V)=>∀{v2} {zr},k_ v2=N zr→Kh Z 190 VH 14 [8,9,10] [] [] ⟨[pL 8 zC a0,pI 9 (a0.length:U),pI 10 v2],[],[]⟩ (A8 [2] [.sc (.v (.bool zr))])
theorem A0t{a0}{n:W}:dN a0 (Ip a0 n):=by
 induction n with
 | zero=>intro _ r h; cases h
 | succ n ih=>
  intro v2 r h σ hσ;rw[Ip] at h;exact gc
instance A9o:Ct 190 (∀{a0} {r},N4 a0=N r→FC Z 190 [.sc (.sl (Y zC a0))] [.sc (.v (.bool r))]):=by
 refine⟨fun{a0} {r} h=> ?_⟩;unfold N4 at h;refine A5 A4 VH [2] 18 ?_;have k0:= @A0t;exact gc
/- 224:spec_Gap -/
def VI:Hw:=([(5,[0,1,6,7,25],[6,7],[])],[])
def dQ:=fun a0 a1 (a2:Xb) (a3:Xb) (k_:V→Q (U × V))=>∀{v6} {zr},k_ v6=N zr→Kh Z 224 VI 5 [0,1,6,7,25] [6,7] [] ⟨[pI 0 a0,pL 1 rI a1,pB 6,pB 7,(25,vc (aB v6))],[(6,(dm a2.row)),(7,(dm a3.row))],[]⟩ (A8 [8,9] [.sc (.v (.int .i64 zr.1)),.sc (.v (.bool zr.2))])
theorem A0u{a0 a1 a2 a3}:dQ a0 a1 a2 a3 (Kx a0 a1 a2 a3):=by
 intro v6 r h σ hσ;unfold Kx at h;exact gc
instance A9r:Ct 224 (∀{a0} {a1} {a2} {a3} {r},PJ a0 a1 a2 a3=N r→FC Z 224 [.sc (.int .i64 a0),.sc (.sl (Y rI a1)),.ag (zC a2),.ag (zC a3)] [.sc (.v (.int .i64 r.1)),.sc (.v (.bool r.2))]):=by
 refine⟨fun{a0} {a1} {a2} {a3} {r} h=> ?_⟩;unfold PJ at h;refine A5 A4 VI [8,9] 37 ?_;have k0:= @A0u;exact gc
/- 212:spec_CanFollow -/
instance A9k:Ct 212 (∀{a0} {a1} {a2} {a3} {r},Kt a0 a1 a2 a3=N r→FC Z 212 [.sc (.int .i64 a0),.sc (.sl (Y rI a1)),.ag (zC a2),.ag (zC a3)] [.sc (.v (.bool r))]):=by
 refine⟨fun{a0} {a1} {a2} {a3} {r} h=> ?_⟩;unfold Kt at h;refine A5 A4 h0 [8] 37 ?_;exact gc
/- 191:spec_l13Both -/
def RZ:Hw:=([(8,[0,1,2,7,14,15,16],[],[832]),(25,[0,1,2,7,9,10,14,15,16,21,22,23],[9],[832,1280])],[(38,2,(O,.frz 1280))])
def dz:=fun a0 a1 a2 v1 (x4:Xb) v2 (k_:U→(P V)→Q (P (P V)))=>∀{v5 v6} {zr},k_ v5 v6=N zr→Kh Z 191 RZ 25 [0,1,2,7,9,10,14,15,16,21,22,23] [9] [832,1280] ⟨[pI 0 a0,pL 1 rI a1,pL 2 zC a2,pW 7 832,pB 9,pW 10 1280,pL 14 zC a2,pI 15 (a2.length:U),pI 16 v1,pL 21 zC a2,pI 22 (a2.length:U),pI 23 v5],[(9,(dm x4.row))],[(832,1,Y (rL rB) v2),(1280,1,Y rB v6)]⟩ (A8 [6] [.sc (.o 1 (Y (rL rB) zr))])
def U1:=fun a0 a1 a2 (k_:U→(P (P V))→Q (P (P V)))=>∀{v1 v2} {zr},k_ v1 v2=N zr→Kh Z 191 RZ 8 [0,1,2,7,14,15,16] [] [832] ⟨[pI 0 a0,pL 1 rI a1,pL 2 zC a2,pW 7 832,pL 14 zC a2,pI 15 (a2.length:U),pI 16 v1],[],[(832,1,Y (rL rB) v2)]⟩ (A8 [6] [.sc (.o 1 (Y (rL rB) zr))])
theorem A0v{a0 a1 a2 v1 x4 v2}{L2}(pA:U1 a0 a1 a2 L2){n:W}:dz a0 a1 a2 v1 x4 v2 (GI a0 a1 a2 v1 x4 v2 L2 n):=by
 induction n with
 | zero=>intro _ _ r h; cases h
 | succ n ih=>
  intro v5 v6 r h σ hσ;rw[GI] at h;have s0:= @AD (Y rB ([T]:P V));have s1:=fun(r12:V)=> @AD (Y rB ([r12]:P V))
  have s2:= @AD (Y (rL rB) ([v6]:P (P V)));have k0:= @pA;exact gc
theorem A0x{a0 a1 a2}{n:W}:U1 a0 a1 a2 (FE a0 a1 a2 n):=by
 induction n with
 | zero=>intro _ _ r h; cases h
 | succ n ih=>
  intro v1 v2 r h σ hσ;rw[FE] at h;have s0:= @AD (Y rB ([]:P V));have k0:= @A0v;exact gc
instance B0u:Ct 191 (∀{a0} {a1} {a2} {r},Ny a0 a1 a2=N r→FC Z 191 [.sc (.int .i64 a0),.sc (.sl (Y rI a1)),.sc (.sl (Y zC a2))] [.sc (.o 1 (Y (rL rB) r))]):=by
 refine⟨fun{a0} {a1} {a2} {r} h=> ?_⟩;unfold Ny at h;refine A5 A4 RZ [6] 49 ?_;have s0:= @AD (Y (rL rB) ([]:P (P V)));have k0:= @A0x;exact gc
/- 192:spec_l13Search -/
def NL:Hw:=([(16,[0,1,2,8,23,24,25],[],[]),(33,[0,1,2,8,11],[],[]),(48,[0,1,2,8,11,12,44,45,46],[],[]),(80,[0,1,2,8,11],[],[])],[(72,8,(O,.frz 4480))])
def eC:=fun a0 a1 a2 v2 v6 (k_:Q ((P U) × V))=>∀{zr},k_=N zr→Kh Z 192 NL 80 [0,1,2,8,11] [] [] ⟨[pL 0 (rL rB) a0,pL 1 rI a1,pI 2 a2,pI 8 v2,pI 11 v6],[],[]⟩ (A8 [6,7] [.sc (.v (.sl (Y rI zr.1))),.sc (.v (.bool zr.2))])
def eB:=fun a0 a1 a2 v2 v6 (k_:V→U→Q ((P U) × V))=>∀{v9 v10} {zr},k_ v9 v10=N zr→Kh Z 192 NL 48 [0,1,2,8,11,12,44,45,46] [] [] ⟨[pL 0 (rL rB) a0,pL 1 rI a1,pI 2 a2,pI 8 v2,pI 11 v6,(12,vc (aB v9)),pL 44 rI a1,pI 45 (a1.length:U),pI 46 v10],[],[]⟩ (A8 [6,7] [.sc (.v (.sl (Y rI zr.1))),.sc (.v (.bool zr.2))])
def R4:=fun a0 a1 a2 v2 (k_:U→Q ((P U) × V))=>∀{v6} {zr},k_ v6=N zr→Kh Z 192 NL 33 [0,1,2,8,11] [] [] ⟨[pL 0 (rL rB) a0,pL 1 rI a1,pI 2 a2,pI 8 v2,pI 11 v6],[],[]⟩ (A8 [6,7] [.sc (.v (.sl (Y rI zr.1))),.sc (.v (.bool zr.2))])
def eA:=fun a0 a1 a2 (k_:U→U→Q ((P U) × V))=>∀{v2 v3} {zr},k_ v2 v3=N zr→Kh Z 192 NL 16 [0,1,2,8,23,24,25] [] [] ⟨[pL 0 (rL rB) a0,pL 1 rI a1,pI 2 a2,pI 8 v2,pL 23 rI a1,pI 24 (a1.length:U),pI 25 v3],[],[]⟩ (A8 [6,7] [.sc (.v (.sl (Y rI zr.1))),.sc (.v (.bool zr.2))])
theorem A0y{rec_:(P (P V))→(P U)→U→Q ((P U) × V)}(h_rec:∀(a0:P (P V)) (a1:P U) (a2:U) zr,rec_ a0 a1 a2=N zr→FC Z 192 [.sc (.sl (Y (rL rB) a0)),.sc (.sl (Y rI a1)),.sc (.int .i64 a2)] [.sc (.v (.sl (Y rI zr.1))),.sc (.v (.bool zr.2))]){a0 a1 a2 v2 v6}{Dn}(WH:R4 a0 a1 a2 v2 Dn):eC a0 a1 a2 v2 v6 (KL rec_ a0 a1 a2 v2 v6 Dn):=by
 intro r h σ hσ;unfold KL at h;have:Ct 192 _:=⟨h_rec⟩;have k0:= @WH;exact gc
theorem A0z{rec_:(P (P V))→(P U)→U→Q ((P U) × V)}(h_rec:∀(a0:P (P V)) (a1:P U) (a2:U) zr,rec_ a0 a1 a2=N zr→FC Z 192 [.sc (.sl (Y (rL rB) a0)),.sc (.sl (Y rI a1)),.sc (.int .i64 a2)] [.sc (.v (.sl (Y rI zr.1))),.sc (.v (.bool zr.2))]){a0 a1 a2 v2 v6}{Dn}(WH:R4 a0 a1 a2 v2 Dn){n:W}:eB a0 a1 a2 v2 v6 (DF rec_ a0 a1 a2 v2 v6 Dn n):=by
 induction n with
 | zero=>intro _ _ r h; cases h
 | succ n ih=>
  intro v9 v10 r h σ hσ;rw[DF] at h;have:Ct 192 _:=⟨h_rec⟩;have s0:= @AD (Y rI ([]:P U));have s1:= @AD (Y rI ([v6]:P U));have k0:= @A0y;exact gc
theorem A00{rec_:(P (P V))→(P U)→U→Q ((P U) × V)}(h_rec:∀(a0:P (P V)) (a1:P U) (a2:U) zr,rec_ a0 a1 a2=N zr→FC Z 192 [.sc (.sl (Y (rL rB) a0)),.sc (.sl (Y rI a1)),.sc (.int .i64 a2)] [.sc (.v (.sl (Y rI zr.1))),.sc (.v (.bool zr.2))]){a0 a1 a2 v2}{n:W}:R4 a0 a1 a2 v2 (E4 rec_ a0 a1 a2 v2 n):=by
 induction n with
 | zero=>intro _ r h; cases h
 | succ n ih=>
  intro v6 r h σ hσ;rw[E4] at h;have:Ct 192 _:=⟨h_rec⟩;have k0:= @A0z;exact gc
theorem A01{rec_:(P (P V))→(P U)→U→Q ((P U) × V)}(h_rec:∀(a0:P (P V)) (a1:P U) (a2:U) zr,rec_ a0 a1 a2=N zr→FC Z 192 [.sc (.sl (Y (rL rB) a0)),.sc (.sl (Y rI a1)),.sc (.int .i64 a2)] [.sc (.v (.sl (Y rI zr.1))),.sc (.v (.bool zr.2))]){a0 a1 a2}{n:W}:eA a0 a1 a2 (GJ rec_ a0 a1 a2 n):=by
 induction n with
 | zero=>intro _ _ r h; cases h
 | succ n ih=>
  intro v2 v3 r h σ hσ;rw[GJ] at h;have:Ct 192 _:=⟨h_rec⟩;have k0:= @A00;exact gc
theorem ym(rec_:(P (P V))→(P U)→U→Q ((P U) × V))(a0:P (P V))(a1:P U)(a2:U)(r:(P U) × V)(h_rec:∀(a0:P (P V)) (a1:P U) (a2:U) zr,rec_ a0 a1 a2=N zr→FC Z 192 [.sc (.sl (Y (rL rB) a0)),.sc (.sl (Y rI a1)),.sc (.int .i64 a2)] [.sc (.v (.sl (Y rI zr.1))),.sc (.v (.bool zr.2))])(h:Nz rec_ a0 a1 a2=N r):FC Z 192 [.sc (.sl (Y (rL rB) a0)),.sc (.sl (Y rI a1)),.sc (.int .i64 a2)] [.sc (.v (.sl (Y rI r.1))),.sc (.v (.bool r.2))]:=by
 unfold Nz at h;refine A5 A4 NL [6,7] 82 ?_;have:Ct 192 _:=⟨h_rec⟩;have k0:= @A01;exact gc
theorem yn:∀(n:W) (a0:P (P V)) (a1:P U) (a2:U) (r:(P U) × V),Cz n a0 a1 a2=N r→FC Z 192 [.sc (.sl (Y (rL rB) a0)),.sc (.sl (Y rI a1)),.sc (.int .i64 a2)] [.sc (.v (.sl (Y rI r.1))),.sc (.v (.bool r.2))]:=by
 intro n
 induction n with
 | zero=>intro _ _ _ r h; cases h
 | succ n ih=>intro a0 a1 a2 r h; rw[Cz] at h; exact ym (Cz n) a0 a1 a2 r ih h
theorem yl{a0}{a1}{a2}{r}(h:PQ a0 a1 a2=N r):FC Z 192 [.sc (.sl (Y (rL rB) a0)),.sc (.sl (Y rI a1)),.sc (.int .i64 a2)] [.sc (.v (.sl (Y rI r.1))),.sc (.v (.bool r.2))]:=yn bigN a0 a1 a2 r h
/- 169:spec_LeastCover -/
def S0:Hw:=([(5,[0,1,2,21],[],[]),(16,[2,9,10],[],[])],[(11,4,(O,.frz 1600)),(26,3,(O,.frz 2176))])
def dW:=fun a2 r6 (k_:U→Q ((P U) × U × V))=>∀{v7} {zr},k_ v7=N zr→Kh Z 169 S0 16 [2,9,10] [] [] ⟨[pL 2 zC a2,pL 9 (rL rB) r6,pI 10 v7],[],[]⟩ (A8 [6,7,8] [.sc (.v (.sl (Y rI zr.1))),.sc (.v (.int .i64 zr.2.1)),.sc (.v (.bool zr.2.2))])
def dV:=fun a0 a1 a2 (k_:V→Q ((P U) × U × V))=>∀{v4} {zr},k_ v4=N zr→Kh Z 169 S0 5 [0,1,2,21] [] [] ⟨[pI 0 a0,pL 1 rI a1,pL 2 zC a2,(21,vc (aB v4))],[],[]⟩ (A8 [6,7,8] [.sc (.v (.sl (Y rI zr.1))),.sc (.v (.int .i64 zr.2.1)),.sc (.v (.bool zr.2.2))])
theorem A02{a2 r6}{n:W}:dW a2 r6 (Iu a2 r6 n):=by
 induction n with
 | zero=>intro _ r h; cases h
 | succ n ih=>
  intro v7 r h σ hσ S hS
  conv at hS=>rhs; reduce
  try simp only[zB,zA,Ah,UInt8.reduceOfNat] at hS
  subst hS;rw[Iu] at h;refine AM (Ay ?_);obtain⟨h8,h⟩|⟨h8,h⟩:=ic h
  ·try simp only[hσ,h8,C,E,F,G,H,J]
   refine B7 (es:=Y rI ([]:P U)) ?_;try simp only[h8,C,E,F,G,H,J]
   refine Cq ?_;obtain⟨r9,h9,h⟩:=ob h;try simp only[h8,C,E,F,G,H,J]
   refine AJ (yl h9) ?_;obtain⟨h10,h⟩|⟨h10,h⟩:=ic h
   ·try simp only[h8,h10,C,E,F,G,H,J]
    cases h;trivial
   ·try simp only[h8,h10,C,E,F,G,H,J]
    refine ih h ?_ (by kernel_rfl);try simp only[h8,h10,C,E,F,G,H,J,pL,aM,I]
  ·try simp only[hσ,h8,C,E,F,G,H,J]
   cases h;trivial
theorem A03{a0 a1 a2}:dV a0 a1 a2 (Na a0 a1 a2):=by
 intro v4 r h σ hσ;unfold Na at h;have k0:= @A02;exact gc
instance yd:Ct 169 (∀{a0} {a1} {a2} {r},It a0 a1 a2=N r→FC Z 169 [.sc (.int .i64 a0),.sc (.sl (Y rI a1)),.sc (.sl (Y zC a2))] [.sc (.v (.sl (Y rI r.1))),.sc (.v (.int .i64 r.2.1)),.sc (.v (.bool r.2.2))]):=by
 refine⟨fun{a0} {a1} {a2} {r} h=> ?_⟩;unfold It at h;refine A5 A4 S0 [6,7,8] 42 ?_;have k0:= @A03;exact gc
/- 140:spec_TugsNeeded -/
def oV:Hw:=([],[(13,3,(O,.frz 1152))])
instance B0g:Ct 140 (∀{a0} {a1} {a2} {a3} {r},KF a0 a1 a2 a3=N r→FC Z 140 [.ag (Xn.row a0),.ag (X1.row a1),.sc (.sl (Y X4.row a2)),.sc (.sl (Y X3.row a3))] [.sc (.v (.int .i64 r))]):=by
 refine⟨fun{a0} {a1} {a2} {a3} {r} h=> ?_⟩;unfold KF at h;refine A5 A4 oV [8] 39 ?_;exact gc
/- 193:spec_IsChain -/
def VK:Hw:=([(14,[1,2,14,15,16],[2],[])],[])
def dS:=fun a1 (a0:X1) (k_:U→Q V)=>∀{v3} {zr},k_ v3=N zr→Kh Z 193 VK 14 [1,2,14,15,16] [2] [] ⟨[pL 1 X3.row a1,pB 2,pL 14 X3.row a1,pI 15 (a1.length:U),pI 16 v3],[(2,[aM X7.row a0.Points,aM X2.row a0.Segments])],[]⟩ (A8 [4] [.sc (.v (.bool zr))])
theorem A04{a1 a0}{n:W}:dS a1 a0 (Gy a1 a0 n):=by
 induction n with
 | zero=>intro _ r h; cases h
 | succ n ih=>
  intro v3 r h σ hσ;rw[Gy] at h;exact gc
instance A9u:Ct 193 (∀{a0} {a1} {r},N7 a0 a1=N r→FC Z 193 [.ag (X1.row a0),.sc (.sl (Y X3.row a1))] [.sc (.v (.bool r))]):=by
 refine⟨fun{a0} {a1} {r} h=> ?_⟩;unfold N7 at h;refine A5 A4 VK [4] 71 ?_;have k0:= @A04;exact gc
/- 170:spec_PilotDuty -/
def S2:Hw:=([(5,[1,2,3,6,23],[3,6],[]),(14,[1,2,3,6,25,26,27],[3,6],[])],[])
def db:=fun a1 a2 (a0:X1) (k_:U→Q (Xb × V))=>∀{v5} {zr},k_ v5=N zr→Kh Z 170 S2 14 [1,2,3,6,25,26,27] [3,6] [] ⟨[pL 1 X4.row a1,pL 2 X3.row a2,pB 3,pB 6,pL 25 X3.row a2,pI 26 (a2.length:U),pI 27 v5],[(3,[aM X7.row a0.Points,aM X2.row a0.Segments]),(6,[aI (0:U),aI (0:U),aI (0:U),aI (0:U)])],[]⟩ (A8 [.c 6 T 4,7] [.ag [.v (.int .i64 zr.1.From),.v (.int .i64 zr.1.To),.v (.int .i64 zr.1.A),.v (.int .i64 zr.1.B)],.sc (.v (.bool zr.2))])
def da:=fun a1 a2 (a0:X1) (k_:V→Q (Xb × V))=>∀{v3} {zr},k_ v3=N zr→Kh Z 170 S2 5 [1,2,3,6,23] [3,6] [] ⟨[pL 1 X4.row a1,pL 2 X3.row a2,pB 3,pB 6,(23,vc (aB v3))],[(3,[aM X7.row a0.Points,aM X2.row a0.Segments]),(6,[aI (0:U),aI (0:U),aI (0:U),aI (0:U)])],[]⟩ (A8 [.c 6 T 4,7] [.ag [.v (.int .i64 zr.1.From),.v (.int .i64 zr.1.To),.v (.int .i64 zr.1.A),.v (.int .i64 zr.1.B)],.sc (.v (.bool zr.2))])
theorem A05{a1 a2 a0}{n:W}:db a1 a2 a0 (Iy a1 a2 a0 n):=by
 induction n with
 | zero=>intro _ r h; cases h
 | succ n ih=>
  intro v5 r h σ hσ;rw[Iy] at h;exact gc
theorem A06{a1 a2 a0}:da a1 a2 a0 (Nh a1 a2 a0):=by
 intro v3 r h σ hσ;unfold Nh at h;have k0:= @A05;exact gc
instance yg:Ct 170 (∀{a0} {a1} {a2} {r},Ng a0 a1 a2=N r→FC Z 170 [.ag (X1.row a0),.sc (.sl (Y X4.row a1)),.sc (.sl (Y X3.row a2))] [.ag [.v (.int .i64 r.1.From),.v (.int .i64 r.1.To),.v (.int .i64 r.1.A),.v (.int .i64 r.1.B)],.sc (.v (.bool r.2))]):=by
 refine⟨fun{a0} {a1} {a2} {r} h=> ?_⟩;unfold Ng at h;refine A5 A4 S2 [.c 6 T 4,7] 67 ?_;have k0:= @A06;exact gc
/- 141:spec_PilotsNeeded -/
def VL:Hw:=([(16,[2,4,5,9,21,22,23],[4,5],[1280])],[(46,5,(O,.frz 1280))])
def dc:=fun a2 a3 (a0:Xn) (a1:X1) (k_:U→(P Xb)→Q U)=>∀{v3 v4} {zr},k_ v3 v4=N zr→Kh Z 141 VL 16 [2,4,5,9,21,22,23] [4,5] [1280] ⟨[pL 2 X4.row a2,pB 4,pB 5,pW 9 1280,pL 21 (rL X3.row) a3,pI 22 (a3.length:U),pI 23 v3],[(4,(dm a0.row)),(5,[aM X7.row a1.Points,aM X2.row a1.Segments])],[(1280,4,Y zC v4)]⟩ (A8 [8] [.sc (.v (.int .i64 zr))])
theorem A07{a2 a3 a0 a1}{n:W}:dc a2 a3 a0 a1 (GA a2 a3 a0 a1 n):=by
 induction n with
 | zero=>intro _ _ r h; cases h
 | succ n ih=>
  intro v3 v4 r h σ hσ S hS
  conv at hS=>rhs; reduce
  try simp only[zB,zA,Ah,UInt8.reduceOfNat] at hS
  subst hS;rw[GA] at h;refine AM (Ay ?_);obtain⟨h5,h⟩|⟨h5,h⟩:=ic h
  ·obtain⟨x6,h6,h⟩:=ob h;obtain⟨h7,h⟩|⟨h7,h⟩:=ic h
   ·try simp only[hσ,h5,h6,h7,C,E,F,G,H,J]
    refine ih h ?_ (by kernel_rfl);try simp only[h5,h6,h7,C,E,F,G,H,J,pL,aM,I]
   ·obtain⟨r9,h9,h⟩:=ob h;try simp only[hσ,h5,h6,h7,C,E,F,G,H,J]
    refine AJ (Ac yg h9) ?_;try simp only[h5,h6,h7,C,E,F,G,H,J]
    refine By ?_;obtain⟨h10,h⟩|⟨h10,h⟩:=ic h
    ·try simp only[h5,h6,h7,h10,C,E,F,G,H,J]
     refine B7 (es:=Y zC ([r9.1]:P Xb)) ?_;obtain⟨h11,h⟩:=AW h;try simp only[h5,h6,h7,h10,h11,C,E,F,G,H,J]
     refine ih h ?_ (by kernel_rfl);try simp only[h5,h6,h7,h10,h11,C,E,F,G,H,J,pL,aM,I]
    ·try simp only[h5,h6,h7,h10,C,E,F,G,H,J]
     cases h;exact t0
  ·try simp only[hσ,h5,C,E,F,G,H,J]
   refine Cq ?_;obtain⟨r12,h12,h⟩:=ob h;try simp only[h5,C,E,F,G,H,J]
   refine AJ (Ac yd h12) ?_;obtain⟨h13,h⟩|⟨h13,h⟩:=ic h
   ·try simp only[h5,h13,C,E,F,G,H,J]
    cases h;exact t0
   ·try simp only[h5,h13,C,E,F,G,H,J]
    cases h;exact t0
instance A93:Ct 141 (∀{a0} {a1} {a2} {a3} {r},Ni a0 a1 a2 a3=N r→FC Z 141 [.ag (Xn.row a0),.ag (X1.row a1),.sc (.sl (Y X4.row a2)),.sc (.sl (Y (rL X3.row) a3))] [.sc (.v (.int .i64 r))]):=by
 refine⟨fun{a0} {a1} {a2} {a3} {r} h=> ?_⟩;unfold Ni at h;refine A5 A4 VL [8] 57 ?_;have s0:= @AD (Y zC ([]:P Xb));have k0:= @A07;exact gc
/- 94:spec_CrewSuffices -/
def VM:Hw:=([(8,[2,3,4,5,9,13,14,15],[4,5],[768])],[])
def dM:=fun a2 a3 (a0:Xn) (a1:X1) (k_:U→(P X3)→Q V)=>∀{v1 v2} {zr},k_ v1 v2=N zr→Kh Z 94 VM 8 [2,3,4,5,9,13,14,15] [4,5] [768] ⟨[pL 2 X4.row a2,pL 3 (rL X3.row) a3,pB 4,pB 5,pW 9 768,pL 13 (rL X3.row) a3,pI 14 (a3.length:U),pI 15 v1],[(4,(dm a0.row)),(5,[aM X7.row a1.Points,aM X2.row a1.Segments])],[(768,5,Y X3.row v2)]⟩ (A8 [8] [.sc (.v (.bool zr))])
theorem A08{a2 a3 a0 a1}{n:W}:dM a2 a3 a0 a1 (Io a2 a3 a0 a1 n):=by
 induction n with
 | zero=>intro _ _ r h; cases h
 | succ n ih=>
  intro v1 v2 r h σ hσ;rw[Io] at h;exact gc
instance Ti:Ct 94 (∀{a0} {a1} {a2} {a3} {r},In a0 a1 a2 a3=N r→FC Z 94 [.ag (Xn.row a0),.ag (X1.row a1),.sc (.sl (Y X4.row a2)),.sc (.sl (Y (rL X3.row) a3))] [.sc (.v (.bool r))]):=by
 refine⟨fun{a0} {a1} {a2} {a3} {r} h=> ?_⟩;unfold In at h;refine A5 A4 VM [8] 41 ?_;have s0:= @AD (Y X3.row ([]:P X3));have k0:= @A08;exact gc
/- 57:spec_l21Take -/
def NM:Hw:=([(6,[0,1,4,12,13,14],[99999999999],[90000,704]),(25,[0,1,4,7,43,44,45],[99999999999],[90000,704,2688]),(46,[0,1,7,10],[99999999999],[90000])],[(39,3,(O,.frz 704))])
def eN:=fun a1 v10 r14 (a0:Xf) (k_:V→Q Xf)=>∀{v28} {zr},k_ v28=N zr→Kh Z 57 NM 46 [0,1,7,10] [99999999999] [90000] ⟨[(0,vc (.pb 99999999999 0)),pL 1 rI a1,pI 7 v10,pI 10 r14],[(99999999999,([aI a0.h.Forecast.Tide.Mean,aM zD a0.h.Forecast.Tide.Parts,aM X9.row a0.h.Forecast.Surges,aM X7.row a0.h.Chart.Points,aM X2.row a0.h.Chart.Segments,aM X4.row a0.h.Fleet,aI a0.h.Regime.Gap,aB a0.h.Regime.NoMeet]++dm a0.h.Crew.row++ [aM zE a0.calls,aM (rL X0.row) a0.lists,aL (Y (rL (rL (rL rB))) a0.clash),.own 90000,aI a0.most,aI a0.cost,aB v28]))],[(90000,1,Y rI a0.best)]⟩ (D3 [] [] (Cl zr) (Cm zr))
def eM:=fun a1 (r9:Xo) (a0:Xf) v2 (k_:U→U→Q Xf)=>∀{v10 v11} {zr},k_ v10 v11=N zr→Kh Z 57 NM 25 [0,1,4,7,43,44,45] [99999999999] [90000,704,2688] ⟨[(0,vc (.pb 99999999999 0)),pL 1 rI a1,pW 4 704,pI 7 v10,pW 43 2688,pI 44 (r9.Waits.length:U),pI 45 v11],[(99999999999,([aI a0.h.Forecast.Tide.Mean,aM zD a0.h.Forecast.Tide.Parts,aM X9.row a0.h.Forecast.Surges,aM X7.row a0.h.Chart.Points,aM X2.row a0.h.Chart.Segments,aM X4.row a0.h.Fleet,aI a0.h.Regime.Gap,aB a0.h.Regime.NoMeet]++dm a0.h.Crew.row++ [aM zE a0.calls,aM (rL X0.row) a0.lists,aL (Y (rL (rL (rL rB))) a0.clash),.own 90000,aI a0.most,aI a0.cost,aB a0.found]))],[(90000,1,Y rI a0.best),(704,4,Y X0.row v2),(2688,1,Y rI r9.Waits)]⟩ (D3 [] [] (Cl zr) (Cm zr))
def eL:=fun a1 (a0:Xf) (k_:U→(P X0)→Q Xf)=>∀{v1 v2} {zr},k_ v1 v2=N zr→Kh Z 57 NM 6 [0,1,4,12,13,14] [99999999999] [90000,704] ⟨[(0,vc (.pb 99999999999 0)),pL 1 rI a1,pW 4 704,pL 12 rI a1,pI 13 (a1.length:U),pI 14 v1],[(99999999999,([aI a0.h.Forecast.Tide.Mean,aM zD a0.h.Forecast.Tide.Parts,aM X9.row a0.h.Forecast.Surges,aM X7.row a0.h.Chart.Points,aM X2.row a0.h.Chart.Segments,aM X4.row a0.h.Fleet,aI a0.h.Regime.Gap,aB a0.h.Regime.NoMeet]++dm a0.h.Crew.row++ [aM zE a0.calls,aM (rL X0.row) a0.lists,aL (Y (rL (rL (rL rB))) a0.clash),.own 90000,aI a0.most,aI a0.cost,aB a0.found]))],[(90000,1,Y rI a0.best),(704,4,Y X0.row v2)]⟩ (D3 [] [] (Cl zr) (Cm zr))
theorem Tq{a1 v10 r14 a0}:eN a1 v10 r14 a0 (KM a1 v10 r14 a0):=by
 intro v28 r h σ hσ S hS
 conv at hS=>rhs; reduce
 try simp only[zB,zA,Ah,UInt8.reduceOfNat] at hS
 subst hS;refine Ay ?_;unfold KM at h;try simp only[hσ,C,E,F,G,H,J]
 refine B7 (es:=Y rI ([]:P U)) ?_;obtain⟨h29,h⟩:=AW h;try simp only[h29,C,E,F,G,H,J]
 cases h;exact⟨trivial,[6720],by decide,by decide,X,X⟩
theorem A1a{a1 r9 a0 v2}{n:W}:eM a1 r9 a0 v2 (Di a1 r9 a0 v2 n):=by
 induction n with
 | zero=>intro _ _ r h; cases h
 | succ n ih=>
  intro v10 v11 r h σ hσ S hS
  conv at hS=>rhs; reduce
  try simp only[zB,zA,Ah,UInt8.reduceOfNat] at hS
  subst hS;rw[Di] at h;refine AM (Ay ?_);obtain⟨h12,h⟩|⟨h12,h⟩:=ic h
  ·obtain⟨x13,h13,h⟩:=ob h;have h13n:=Av h13;try simp only[hσ,h12,h13,h13n,C,E,F,G,H,J]
   refine ih h ?_ (by kernel_rfl);try simp only[h12,h13,h13n,C,E,F,G,H,J,pL,aM,I]
  ·obtain⟨r14,h14,h⟩:=ob h;try simp only[hσ,h12,C,E,F,G,H,J]
   refine Cf (Ac yb h14) X (Ce X) X (uf X) ?_;try simp only[h12,C,E,F,G,H,J]
   refine Cq ?_;try simp only[h12,C,E,F,G,H,J]
   refine An ?_;obtain⟨h15,h⟩|⟨h15,h⟩:=ic h
   ·obtain⟨h16,h⟩|⟨h16,h⟩:=ic h
    ·try simp only[h12,h15,h16,C,E,F,G,H,J]
     cases h;exact⟨trivial,[90000],by decide,by decide,X,X⟩
    ·obtain⟨h17,h⟩|⟨h17,h⟩:=ic h
     ·obtain⟨h18,h⟩|⟨h18,h⟩:=ic h
      ·try simp only[h12,h15,h16,h17,h18,C,E,F,G,H,J]
       cases h;exact⟨trivial,[90000],by decide,by decide,X,X⟩
      ·obtain⟨r19,h19,h⟩:=ob h;try simp only[h12,h15,h16,h17,h18,C,E,F,G,H,J]
       refine BS (Ac Th h19) ?_;obtain⟨r20,h20,h⟩:=ob h;try simp only[h12,h15,h16,h17,h18,C,E,F,G,H,J]
       refine GQ (Ac Ti h20) (by first | rfl | kernel_rfl) (Ce X) X (uf X) ?_;obtain⟨h25,h⟩|⟨h25,h⟩:=ic h
       ·try simp only[h12,h15,h16,h17,h18,h25,C,E,F,G,H,J]
        refine Tq h ?_ (by kernel_rfl);try simp only[h12,h15,h16,h17,h18,h25,C,E,F,G,H,J,pL,aM,I]
       ·try simp only[h12,h15,h16,h17,h18,h25,C,E,F,G,H,J]
        cases h;exact⟨trivial,[90000],by decide,by decide,X,X⟩
     ·obtain⟨r21,h21,h⟩:=ob h;try simp only[h12,h15,h16,h17,C,E,F,G,H,J]
      refine BS (Ac Th h21) ?_;obtain⟨r22,h22,h⟩:=ob h;try simp only[h12,h15,h16,h17,C,E,F,G,H,J]
      refine GQ (Ac Ti h22) (by first | rfl | kernel_rfl) (Ce X) X (uf X) ?_;obtain⟨h26,h⟩|⟨h26,h⟩:=ic h
      ·try simp only[h12,h15,h16,h17,h26,C,E,F,G,H,J]
       refine Tq h ?_ (by kernel_rfl);try simp only[h12,h15,h16,h17,h26,C,E,F,G,H,J,pL,aM,I]
      ·try simp only[h12,h15,h16,h17,h26,C,E,F,G,H,J]
       cases h;exact⟨trivial,[90000],by decide,by decide,X,X⟩
   ·obtain⟨r23,h23,h⟩:=ob h;try simp only[h12,h15,C,E,F,G,H,J]
    refine BS (Ac Th h23) ?_;obtain⟨r24,h24,h⟩:=ob h;try simp only[h12,h15,C,E,F,G,H,J]
    refine GQ (Ac Ti h24) (by first | rfl | kernel_rfl) (Ce X) X (uf X) ?_;obtain⟨h27,h⟩|⟨h27,h⟩:=ic h
    ·try simp only[h12,h15,h27,C,E,F,G,H,J]
     refine Tq h ?_ (by kernel_rfl);try simp only[h12,h15,h27,C,E,F,G,H,J,pL,aM,I]
    ·try simp only[h12,h15,h27,C,E,F,G,H,J]
     cases h;exact⟨trivial,[90000],by decide,by decide,X,X⟩
theorem A1b{a1 a0}{n:W}:eL a1 a0 (IR a1 a0 n):=by
 induction n with
 | zero=>intro _ _ r h; cases h
 | succ n ih=>
  intro v1 v2 r h σ hσ S hS
  conv at hS=>rhs; reduce
  try simp only[zB,zA,Ah,UInt8.reduceOfNat] at hS
  subst hS;rw[IR] at h;refine AM (Ay ?_);obtain⟨h3,h⟩|⟨h3,h⟩:=ic h
  ·obtain⟨x4,h4,h⟩:=ob h;obtain⟨x5,h5,h⟩:=ob h;obtain⟨x6,h6,h⟩:=ob h;try simp only[hσ,h3,h4,h5,h6,C,E,F,G,H,J]
   refine B7 (es:=Y X0.row ([x6]:P X0)) ?_;obtain⟨h7,h⟩:=AW h;try simp only[h3,h4,h5,h6,h7,C,E,F,G,H,J]
   refine ih h ?_ (by kernel_rfl);try simp only[h3,h4,h5,h6,h7,C,E,F,G,H,J,pL,aM,I]
  ·try simp only[hσ,h3,C,E,F,G,H,J]
   refine An ?_;obtain⟨r9,h9,h⟩:=ob h;try simp only[h3,C,E,F,G,H,J]
   refine GQ (Ac yr h9) (by first | rfl | kernel_rfl) (CN X ⟨CB,CB,⟨⟩⟩) X (uf X) ?_;try simp only[h3,C,E,F,G,H,J]
   refine A1a h ?_ (by kernel_rfl);try simp only[h3,C,E,F,G,H,J,pL,aM,I]
theorem jx:B4 Z 57=N ((BY Z 57 NM).strip,[],121):=by kernel_rfl
theorem yy{a0}{a1}{r}(h:ND a0 a1=N r):FCz Z 57 [.p,.d (.sc (.sl (Y rI a1)))] (Cl a0) (Cm a0) (Cl r) (Cm r) []:=by
 unfold ND at h;refine Lq (σ:=⟨[(0,vc (.pb 99999999999 0)),(1,vc (aL (Y rI a1)))],[(99999999999,[aI a0.h.Forecast.Tide.Mean,aL (Y zD a0.h.Forecast.Tide.Parts),aL (Y X9.row a0.h.Forecast.Surges),aL (Y X7.row a0.h.Chart.Points),aL (Y X2.row a0.h.Chart.Segments),aL (Y X4.row a0.h.Fleet),aI a0.h.Regime.Gap,aB a0.h.Regime.NoMeet,aI a0.h.Crew.Tugs,aI a0.h.Crew.Pilots,aI a0.h.Crew.Rest,aL (Y rI a0.h.Crew.Moves),aL (Y zE a0.calls),aL (Y (rL X0.row) a0.lists),aL (Y (rL (rL (rL rB))) a0.clash),.own 90000,aI a0.most,aI a0.cost,aB a0.found])],[(90000,1,Y rI a0.best)]⟩) A4 jx X X X X ?_;refine C9 NM ?_;have s0:= @AD (Y X0.row ([]:P X0));have k0:= @A1b;exact gc
/- 24:spec_l21Search -/
def PZ:Hw:=([(13,[0,1,4,28,29],[99999999999],[90000]),(30,[0,1,4,5,6,28,29,32,33,34],[99999999999],[90000])],[(50,7,(O,.frz 3712))])
def eK:=fun a1 v4 (x3:P X0) v5 v6 v7 v8 v9 v10 v11 v12 v13 v14 v15 v16 v17 v18 v19 v20 v21 v22 v23 (k_:V→U→Q Xf)=>∀{v25 v26} {zr},k_ v25 v26=N zr→Kh Z 24 PZ 30 [0,1,4,5,6,28,29,32,33,34] [99999999999] [90000] ⟨[(0,vc (.pb 99999999999 0)),pL 1 rI a1,pI 4 (a1.length:U),pI 5 v4,(6,vc (aB v25)),pI 28 (x3.length:U),pI 29 v4,pL 32 rI a1,pI 33 (a1.length:U),pI 34 v26],[(99999999999,[aI v5,aM zD v6,aM X9.row v7,aM X7.row v8,aM X2.row v9,aM X4.row v10,aI v11,aB v12,aI v13,aI v14,aI v15,aM rI v16,aM zE v17,aM (rL X0.row) v18,aL (Y (rL (rL (rL rB))) v19),.own 90000,aI v20,aI v21,aB v22])],[(90000,1,Y rI v23)]⟩ (D3 [] [] (Cl zr) (Cm zr))
def U6:=fun a1 (x3:P X0) (k_:U→U→(P Xc)→(P X9)→(P X7)→(P X2)→(P X4)→U→V→U→U→U→(P U)→(P Xa)→(P (P X0))→(P (P (P (P V))))→U→U→V→(P U)→Q Xf)=>∀{v4 v5 v6 v7 v8 v9 v10 v11 v12 v13 v14 v15 v16 v17 v18 v19 v20 v21 v22 v23} {zr},k_ v4 v5 v6 v7 v8 v9 v10 v11 v12 v13 v14 v15 v16 v17 v18 v19 v20 v21 v22 v23=N zr→Kh Z 24 PZ 13 [0,1,4,28,29] [99999999999] [90000] ⟨[(0,vc (.pb 99999999999 0)),pL 1 rI a1,pI 4 (a1.length:U),pI 28 (x3.length:U),pI 29 v4],[(99999999999,[aI v5,aM zD v6,aM X9.row v7,aM X7.row v8,aM X2.row v9,aM X4.row v10,aI v11,aB v12,aI v13,aI v14,aI v15,aM rI v16,aM zE v17,aM (rL X0.row) v18,aL (Y (rL (rL (rL rB))) v19),.own 90000,aI v20,aI v21,aB v22])],[(90000,1,Y rI v23)]⟩ (D3 [] [] (Cl zr) (Cm zr))
theorem A1c{rec_:Xf→(P U)→Q Xf}(h_rec:∀(a0:Xf) (a1:P U) zr,rec_ a0 a1=N zr→FCz Z 24 [.p,.d (.sc (.sl (Y rI a1)))] (Cl a0) (Cm a0) (Cl zr) (Cm zr) []){a1 v4 x3 v5 v6 v7 v8 v9 v10 v11 v12 v13 v14 v15 v16 v17 v18 v19 v20 v21 v22 v23}{IZ}(WI:U6 a1 x3 IZ){n:W}:eK a1 v4 x3 v5 v6 v7 v8 v9 v10 v11 v12 v13 v14 v15 v16 v17 v18 v19 v20 v21 v22 v23 (E6 rec_ a1 v4 x3 v5 v6 v7 v8 v9 v10 v11 v12 v13 v14 v15 v16 v17 v18 v19 v20 v21 v22 v23 IZ n):=by
 induction n with
 | zero=>intro _ _ r h; cases h
 | succ n ih=>
  intro v25 v26 r h σ hσ S hS
  conv at hS=>rhs; reduce
  try simp only[zB,zA,Ah,UInt8.reduceOfNat] at hS
  subst hS;rw[E6] at h;refine AM (Ay ?_);obtain⟨h27,h⟩|⟨h27,h⟩:=ic h
  ·obtain⟨x28,h28,h⟩:=ob h;obtain⟨x29,h29,h⟩:=ob h;obtain⟨x30,h30,h⟩:=ob h;obtain⟨x31,h31,h⟩:=ob h;obtain⟨x32,h32,h⟩:=ob h;obtain⟨h33,h⟩|⟨h33,h⟩:=ic h
   ·try simp only[hσ,h27,h28,h29,h30,h31,h32,h33,C,E,F,G,H,J]
    refine ih h ?_ (by kernel_rfl);try simp only[h27,h28,h29,h30,h31,h32,h33,C,E,F,G,H,J,pL,aM,I]
   ·try simp only[hσ,h27,h28,h29,h30,h31,h32,h33,C,E,F,G,H,J]
    refine ih h ?_ (by kernel_rfl);try simp only[h27,h28,h29,h30,h31,h32,h33,C,E,F,G,H,J,pL,aM,I]
  ·obtain⟨h34,h⟩|⟨h34,h⟩:=ic h
   ·try simp only[hσ,h27,h34,C,E,F,G,H,J]
    refine B7 (es:=Y rI ([]:P U)) ?_;obtain⟨h35,h⟩:=AW h;try simp only[h27,h34,h35,C,E,F,G,H,J]
    refine B7 (es:=Y rI ([v4]:P U)) ?_;obtain⟨h36,h⟩:=AW h;try simp only[h27,h34,h35,h36,C,E,F,G,H,J]
    refine Cq ?_;try simp only[h27,h34,h35,h36,C,E,F,G,H,J]
    refine KR ?_;obtain⟨r37,h37,h⟩:=ob h;try simp only[h27,h34,h35,h36,C,E,F,G,H,J]
    refine FI (h_rec _ _ _ h37) 99999999999 [90000] rfl X X X (by decide) X X X ?_;try simp only[h27,h34,h35,h36,C,E,F,G,H,J]
    refine WI h ?_ (by kernel_rfl);try simp only[h27,h34,h35,h36,C,E,F,G,H,J,pL,aM,I]
   ·try simp only[hσ,h27,h34,C,E,F,G,H,J]
    refine WI h ?_ (by kernel_rfl);try simp only[h27,h34,C,E,F,G,H,J,pL,aM,I]
theorem A1d{rec_:Xf→(P U)→Q Xf}(h_rec:∀(a0:Xf) (a1:P U) zr,rec_ a0 a1=N zr→FCz Z 24 [.p,.d (.sc (.sl (Y rI a1)))] (Cl a0) (Cm a0) (Cl zr) (Cm zr) []){a1 x3}{n:W}:U6 a1 x3 (FH rec_ a1 x3 n):=by
 induction n with
 | zero=>intro _ _ _ _ _ _ _ _ _ _ _ _ _ _ _ _ _ _ _ _ r h; cases h
 | succ n ih=>
  intro v4 v5 v6 v7 v8 v9 v10 v11 v12 v13 v14 v15 v16 v17 v18 v19 v20 v21 v22 v23 r h σ hσ S hS
  conv at hS=>rhs; reduce
  try simp only[zB,zA,Ah,UInt8.reduceOfNat] at hS
  subst hS;rw[FH] at h;refine AM (Ay ?_);obtain⟨h24,h⟩|⟨h24,h⟩:=ic h
  ·try simp only[hσ,h24,C,E,F,G,H,J]
   refine A1c h_rec ih h ?_ (by kernel_rfl);try simp only[h24,C,E,F,G,H,J,pL,aM,I]
  ·try simp only[hσ,h24,C,E,F,G,H,J]
   cases h;exact⟨trivial,[90000],by decide,by decide,X,X⟩
theorem jy:B4 Z 24=N ((BY Z 24 PZ).strip,[],66):=by kernel_rfl
theorem yw(rec_:Xf→(P U)→Q Xf)(a0:Xf)(a1:P U)(r:Xf)(h_rec:∀(a0:Xf) (a1:P U) zr,rec_ a0 a1=N zr→FCz Z 24 [.p,.d (.sc (.sl (Y rI a1)))] (Cl a0) (Cm a0) (Cl zr) (Cm zr) [])(h:NC rec_ a0 a1=N r):FCz Z 24 [.p,.d (.sc (.sl (Y rI a1)))] (Cl a0) (Cm a0) (Cl r) (Cm r) []:=by
 unfold NC at h;refine Lq (σ:=⟨[(0,vc (.pb 99999999999 0)),(1,vc (aL (Y rI a1)))],[(99999999999,[aI a0.h.Forecast.Tide.Mean,aL (Y zD a0.h.Forecast.Tide.Parts),aL (Y X9.row a0.h.Forecast.Surges),aL (Y X7.row a0.h.Chart.Points),aL (Y X2.row a0.h.Chart.Segments),aL (Y X4.row a0.h.Fleet),aI a0.h.Regime.Gap,aB a0.h.Regime.NoMeet,aI a0.h.Crew.Tugs,aI a0.h.Crew.Pilots,aI a0.h.Crew.Rest,aL (Y rI a0.h.Crew.Moves),aL (Y zE a0.calls),aL (Y (rL X0.row) a0.lists),aL (Y (rL (rL (rL rB))) a0.clash),.own 90000,aI a0.most,aI a0.cost,aB a0.found])],[(90000,1,Y rI a0.best)]⟩) A4 jy X X X X ?_;refine C9 PZ ?_;intro S hS
 conv at hS=>rhs; reduce
 try simp only[zB,zA,Ah,UInt8.reduceOfNat] at hS
 subst hS;obtain⟨h1,h⟩|⟨h1,h⟩:=ic h
 ·try simp only[h1,C,E,F,G,H,J]
  refine KR ?_;obtain⟨r2,h2,h⟩:=ob h;try simp only[h1,C,E,F,G,H,J]
  refine FI (yy h2) 99999999999 [90000] rfl X X X (by decide) X X X ?_;try simp only[h1,C,E,F,G,H,J]
  cases h;exact⟨trivial,[90000],by decide,by decide,X,X⟩
 ·obtain⟨x3,h3,h⟩:=ob h;try simp only[h1,h3,C,E,F,G,H,J]
  refine A1d h_rec h ?_ (by kernel_rfl);try simp only[h1,h3,C,E,F,G,H,J,pL,aM,I]
theorem yx:∀(n:W) (a0:Xf) (a1:P U) (r:Xf),Dh n a0 a1=N r→FCz Z 24 [.p,.d (.sc (.sl (Y rI a1)))] (Cl a0) (Cm a0) (Cl r) (Cm r) []:=by
 intro n
 induction n with
 | zero=>intro _ _ r h; cases h
 | succ n ih=>intro a0 a1 r h; rw[Dh] at h; exact yw (Dh n) a0 a1 r ih h
theorem yu{a0}{a1}{r}(h:RL a0 a1=N r):FCz Z 24 [.p,.d (.sc (.sl (Y rI a1)))] (Cl a0) (Cm a0) (Cl r) (Cm r) []:=yx bigN a0 a1 r h
/- 6:spec_FairPlan -/
def oW:Hw:=([],[(11,3,(O,.frz 960)),(15,0,(O,.ownb 23 15 152512 1)),(15,3,(O,.frz 1344)),(15,4,(O,.frz 1600))])
instance yc:Ct 6 (∀{a0} {a1} {r},N5 a0 a1=N r→FC Z 6 [.ag (X6.row a0),.sc (.sl (Y zE a1))] [.sc (.o 1 (Y rI r.1)),.sc (.v (.int .i64 r.2.1)),.sc (.v (.bool r.2.2))]):=by
 refine⟨fun{a0} {a1} {r} h=> ?_⟩;unfold N5 at h;refine A5 A4 oW [4,5,6] 40 ?_;intro S hS
 conv at hS=>rhs; reduce
 try simp only[zB,zA,Ah,UInt8.reduceOfNat] at hS
 subst hS;simp only[C,E,F,G,H,J];try simp only[C,E,F,G,H,J]
 refine Bk ?_;obtain⟨r1,h1,h⟩:=ob h;try simp only[C,E,F,G,H,J]
 refine AJ (Ac xz h1) ?_;obtain⟨h2,h⟩|⟨h2,h⟩:=ic h
 ·obtain⟨r3,h3,h⟩:=ob h;try simp only[h2,C,E,F,G,H,J]
  refine AJ (Ac yq h3) ?_;try simp only[h2,C,E,F,G,H,J]
  refine Cq ?_;try simp only[h2,C,E,F,G,H,J]
  refine An ?_;obtain⟨r4,h4,h⟩:=ob h;try simp only[h2,C,E,F,G,H,J]
  refine BS (Ac yp h4) ?_;try simp only[h2,C,E,F,G,H,J]
  refine Bk ?_;try simp only[h2,C,E,F,G,H,J]
  refine FL (cs':= [aI a0.Forecast.Tide.Mean,aL (Y zD a0.Forecast.Tide.Parts),aL (Y X9.row a0.Forecast.Surges),aL (Y X7.row a0.Chart.Points),aL (Y X2.row a0.Chart.Segments),aL (Y X4.row a0.Fleet),aI a0.Regime.Gap,aB a0.Regime.NoMeet,aI a0.Crew.Tugs,aI a0.Crew.Pilots,aI a0.Crew.Rest,aL (Y rI a0.Crew.Moves),aL (Y zE a1),aL (Y (rL X0.row) r3),.own 1344,.own 152512,aI (0:U),aI (0:U),aB L]) X X X X ?_;try simp only[h2,C,E,F,G,H,J]
  refine B7 (es:=Y rI ([]:P U)) ?_;try simp only[h2,C,E,F,G,H,J]
  refine Cq ?_;try simp only[h2,C,E,F,G,H,J]
  refine Cq ?_;try simp only[h2,C,E,F,G,H,J]
  refine KR ?_;obtain⟨r5,h5,h⟩:=ob h;try simp only[h2,C,E,F,G,H,J]
  refine FI (yu h5) 23 [152512] rfl X X X (by decide) X X X ?_;obtain⟨h6,h⟩|⟨h6,h⟩:=ic h
  ·try simp only[h2,h6,C,E,F,G,H,J]
   refine An ?_;try simp only[h2,h6,C,E,F,G,H,J]
   cases h;trivial
  ·try simp only[h2,h6,C,E,F,G,H,J]
   cases h;trivial
 ·try simp only[h2,C,E,F,G,H,J]
  cases h;trivial
/- 107:impl_within -/
instance A77:Ct 107 (∀{a0} {a1} {a2} {r},BN a0 a1 a2=N r→FC Z 107 [.sc (.int .i64 a0),.sc (.int .i64 a1),.sc (.int .i64 a2)] [.sc (.v (.bool r))]):=by
 refine⟨fun{a0} {a1} {a2} {r} h=> ?_⟩;unfold BN at h;refine A5 A4 h0 [6] 15 ?_;exact gc
/- 194:impl_isPeriod -/
instance A7z:Ct 194 (∀{a0} {r},K3 a0=N r→FC Z 194 [.sc (.int .i64 a0)] [.sc (.v (.bool r))]):=by
 refine⟨fun{a0} {r} h=> ?_⟩;unfold K3 at h;refine A5 A4 h0 [2] 10 ?_;exact gc
/- 171:impl_PartOk -/
instance A7b:Ct 171 (∀{a0} {r},LW a0=N r→FC Z 171 [.ag (zD a0)] [.sc (.v (.bool r))]):=by
 refine⟨fun{a0} {r} h=> ?_⟩;unfold LW at h;refine A5 A4 h0 [2] 19 ?_;exact gc
/- 143:impl_TideOk -/
def VN:Hw:=([(14,[16,17,18],[],[])],[])
def br:=fun(a0:Xl) (k_:U→Q V)=>∀{v4} {zr},k_ v4=N zr→Kh Z 143 VN 14 [16,17,18] [] [] ⟨[pL 16 zD a0.Parts,pI 17 (a0.Parts.length:U),pI 18 v4],[],[]⟩ (A8 [2] [.sc (.v (.bool zr))])
theorem A1e{a0}{n:W}:br a0 (HI a0 n):=by
 induction n with
 | zero=>intro _ r h; cases h
 | succ n ih=>
  intro v4 r h σ hσ;rw[HI] at h;exact gc
instance A7p:Ct 143 (∀{a0} {r},M5 a0=N r→FC Z 143 [.ag (Xl.row a0)] [.sc (.v (.bool r))]):=by
 refine⟨fun{a0} {r} h=> ?_⟩;unfold M5 at h;refine A5 A4 VN [2] 26 ?_;have k0:= @A1e;exact gc
/- 106:impl_isMinute -/
instance xV:Ct 106 (∀{a0} {r},D4 a0=N r→FC Z 106 [.sc (.int .i64 a0)] [.sc (.v (.bool r))]):=by
 refine⟨fun{a0} {r} h=> ?_⟩;unfold D4 at h;refine A5 A4 h0 [2] 5 ?_;exact gc
/- 144:impl_SurgeOk -/
instance A7o:Ct 144 (∀{a0} {r},M4 a0=N r→FC Z 144 [.ag (X9.row a0)] [.sc (.v (.bool r))]):=by
 refine⟨fun{a0} {r} h=> ?_⟩;unfold M4 at h;refine A5 A4 h0 [2] 23 ?_;exact gc
/- 100:impl_ForecastOk -/
def VP:Hw:=([(14,[1,25,26,27],[1],[])],[])
def bZ:=fun(a0:Xd) (k_:U→Q V)=>∀{v7} {zr},k_ v7=N zr→Kh Z 100 VP 14 [1,25,26,27] [1] [] ⟨[pB 1,pL 25 X9.row a0.Surges,pI 26 (a0.Surges.length:U),pI 27 v7],[(1,[aI a0.Tide.Mean,aM zD a0.Tide.Parts,aM X9.row a0.Surges])],[]⟩ (A8 [2] [.sc (.v (.bool zr))])
theorem A1f{a0}{n:W}:bZ a0 (Gg a0 n):=by
 induction n with
 | zero=>intro _ r h; cases h
 | succ n ih=>
  intro v7 r h σ hσ;rw[Gg] at h;exact gc
instance xJ:Ct 100 (∀{a0} {r},Gf a0=N r→FC Z 100 [.ag (Xd.row a0)] [.sc (.v (.bool r))]):=by
 refine⟨fun{a0} {r} h=> ?_⟩;unfold Gf at h;refine A5 A4 VP [2] 52 ?_;have k0:= @A1f;exact gc
/- 145:impl_IsName -/
def Q0:Hw:=([(14,[0,3],[],[]),(25,[0,3,4],[],[]),(32,[0,3],[],[])],[])
def bf:=fun a0 v3 (k_:Q V)=>∀{zr},k_=N zr→Kh Z 145 Q0 32 [0,3] [] [] ⟨[(0,vc (aS a0)),pI 3 v3],[],[]⟩ (A8 [2] [.sc (.v (.bool zr))])
def be:=fun a0 v3 (k_:V→Q V)=>∀{v7} {zr},k_ v7=N zr→Kh Z 145 Q0 25 [0,3,4] [] [] ⟨[(0,vc (aS a0)),pI 3 v3,(4,vc (aB v7))],[],[]⟩ (A8 [2] [.sc (.v (.bool zr))])
def QW:=fun a0 (k_:U→Q V)=>∀{v3} {zr},k_ v3=N zr→Kh Z 145 Q0 14 [0,3] [] [] ⟨[(0,vc (aS a0)),pI 3 v3],[],[]⟩ (A8 [2] [.sc (.v (.bool zr))])
theorem A1g{a0 v3}{EE}(WC:QW a0 EE):bf a0 v3 (LP a0 v3 EE):=by
 intro r h σ hσ;unfold LP at h;have k0:= @WC;exact gc
theorem A1h{a0 v3}{EE}(WC:QW a0 EE):be a0 v3 (LO a0 v3 EE):=by
 intro v7 r h σ hσ;unfold LO at h;have k0:= @A1g;exact gc
theorem A1i{a0}{n:W}:QW a0 (Gh a0 n):=by
 induction n with
 | zero=>intro _ r h; cases h
 | succ n ih=>
  intro v3 r h σ hσ;rw[Gh] at h;have k0:= @A1h;exact gc
instance A64:Ct 145 (∀{a0} {r},JT a0=N r→FC Z 145 [.sc (.str a0)] [.sc (.v (.bool r))]):=by
 refine⟨fun{a0} {r} h=> ?_⟩;unfold JT at h;refine A5 A4 Q0 [2] 43 ?_;have k0:= @A1i;exact gc
/- 146:impl_PointNamed -/
def VQ:Hw:=([(6,[1,8,9,10],[],[])],[])
def bk:=fun a1 (a0:X1) (k_:U→Q U)=>∀{v1} {zr},k_ v1=N zr→Kh Z 146 VQ 6 [1,8,9,10] [] [] ⟨[(1,vc (aS a1)),pL 8 X7.row a0.Points,pI 9 (a0.Points.length:U),pI 10 v1],[],[]⟩ (A8 [4] [.sc (.v (.int .i64 zr))])
theorem A1j{a1 a0}{n:W}:bk a1 a0 (HF a1 a0 n):=by
 induction n with
 | zero=>intro _ r h; cases h
 | succ n ih=>
  intro v1 r h σ hσ;rw[HF] at h;exact gc
instance A7f:Ct 146 (∀{a0} {a1} {r},LZ a0 a1=N r→FC Z 146 [.ag (X1.row a0),.sc (.str a1)] [.sc (.v (.int .i64 r))]):=by
 refine⟨fun{a0} {a1} {r} h=> ?_⟩;unfold LZ at h;refine A5 A4 VQ [4] 21 ?_;have k0:= @A1j;exact gc
/- 105:impl_isIndex -/
instance QP:Ct 105 (∀{a0} {a1} {r},Bz a0 a1=N r→FC Z 105 [.sc (.int .i64 a0),.sc (.int .i64 a1)] [.sc (.v (.bool r))]):=by
 refine⟨fun{a0} {a1} {r} h=> ?_⟩;unfold Bz at h;refine A5 A4 h0 [4] 12 ?_;exact gc
/- 147:impl_Segment_joins -/
instance A7i:Ct 147 (∀{a0} {a1} {a2} {r},M1 a0 a1 a2=N r→FC Z 147 [.ag (X2.row a0),.sc (.int .i64 a1),.sc (.int .i64 a2)] [.sc (.v (.bool r))]):=by
 refine⟨fun{a0} {a1} {a2} {r} h=> ?_⟩;unfold M1 at h;refine A5 A4 h0 [6] 29 ?_;exact gc
/- 101:impl_ChartOk -/
def Q1:Hw:=([(14,[1,20,21,22],[1],[]),(37,[1,41,42,43],[1],[]),(59,[1,6,41,42,43,86,87,88],[1,6],[])],[])
def bS:=fun(a0:X1) v11 (x13:X2) y24 y25 (k_:U→Q V)=>∀{v26} {zr},k_ v26=N zr→Kh Z 101 Q1 59 [1,6,41,42,43,86,87,88] [1,6] [] ⟨[pB 1,pB 6,pL 41 X2.row a0.Segments,pI 42 (a0.Segments.length:U),pI 43 v11,pL 86 X2.row y24,pI 87 y25,pI 88 v26],[(1,[aM X7.row a0.Points,aM X2.row a0.Segments]),(6,(dm x13.row))],[]⟩ (A8 [2] [.sc (.v (.bool zr))])
def TG:=fun(a0:X1) (k_:U→Q V)=>∀{v11} {zr},k_ v11=N zr→Kh Z 101 Q1 37 [1,41,42,43] [1] [] ⟨[pB 1,pL 41 X2.row a0.Segments,pI 42 (a0.Segments.length:U),pI 43 v11],[(1,[aM X7.row a0.Points,aM X2.row a0.Segments])],[]⟩ (A8 [2] [.sc (.v (.bool zr))])
def bR:=fun(a0:X1) (k_:U→Q V)=>∀{v3} {zr},k_ v3=N zr→Kh Z 101 Q1 14 [1,20,21,22] [1] [] ⟨[pB 1,pL 20 X7.row a0.Points,pI 21 (a0.Points.length:U),pI 22 v3],[(1,[aM X7.row a0.Points,aM X2.row a0.Segments])],[]⟩ (A8 [2] [.sc (.v (.bool zr))])
theorem A1l{a0 v11 x13 y24 y25}{NW}(od:TG a0 NW){n:W}:bS a0 v11 x13 y24 y25 (Hr a0 v11 x13 y24 y25 NW n):=by
 induction n with
 | zero=>intro _ r h; cases h
 | succ n ih=>
  intro v26 r h σ hσ;rw[Hr] at h;have k0:= @od;exact gc
theorem A1m{a0}{n:W}:TG a0 (En a0 n):=by
 induction n with
 | zero=>intro _ r h; cases h
 | succ n ih=>
  intro v11 r h σ hσ;rw[En] at h;have k0:= @A1l;exact gc
theorem A1n{a0}{n:W}:bR a0 (Hq a0 n):=by
 induction n with
 | zero=>intro _ r h; cases h
 | succ n ih=>
  intro v3 r h σ hσ;rw[Hq] at h;have k0:= @A1m;exact gc
instance xE:Ct 101 (∀{a0} {r},DB a0=N r→FC Z 101 [.ag (X1.row a0)] [.sc (.v (.bool r))]):=by
 refine⟨fun{a0} {r} h=> ?_⟩;unfold DB at h;refine A5 A4 Q1 [2] 100 ?_;have k0:= @A1n;exact gc
/- 148:impl_ShipOk -/
instance A7k:Ct 148 (∀{a0} {r},Eo a0=N r→FC Z 148 [.ag (X4.row a0)] [.sc (.v (.bool r))]):=by
 refine⟨fun{a0} {r} h=> ?_⟩;unfold Eo at h;refine A5 A4 h0 [2] 26 ?_;exact gc
/- 149:impl_ShipNamed -/
def VR:Hw:=([(6,[1,7,8,9],[],[])],[])
def bp:=fun a1 a0 (k_:U→Q U)=>∀{v1} {zr},k_ v1=N zr→Kh Z 149 VR 6 [1,7,8,9] [] [] ⟨[(1,vc (aS a1)),pL 7 X4.row a0,pI 8 (a0.length:U),pI 9 v1],[],[]⟩ (A8 [4] [.sc (.v (.int .i64 zr))])
theorem A1o{a1 a0}{n:W}:bp a1 a0 (HH a1 a0 n):=by
 induction n with
 | zero=>intro _ r h; cases h
 | succ n ih=>
  intro v1 r h σ hσ;rw[HH] at h;exact gc
instance A7j:Ct 149 (∀{a0} {a1} {r},M2 a0 a1=N r→FC Z 149 [.sc (.sl (Y X4.row a0)),.sc (.str a1)] [.sc (.v (.int .i64 r))]):=by
 refine⟨fun{a0} {a1} {r} h=> ?_⟩;unfold M2 at h;refine A5 A4 VR [4] 20 ?_;have k0:= @A1o;exact gc
/- 102:impl_FleetOk -/
def VS:Hw:=([(14,[0,8,9,10],[],[])],[])
def bY:=fun a0 (k_:U→Q V)=>∀{v2} {zr},k_ v2=N zr→Kh Z 102 VS 14 [0,8,9,10] [] [] ⟨[pL 0 X4.row a0,pL 8 X4.row a0,pI 9 (a0.length:U),pI 10 v2],[],[]⟩ (A8 [2] [.sc (.v (.bool zr))])
theorem A1p{a0}{n:W}:bY a0 (HA a0 n):=by
 induction n with
 | zero=>intro _ r h; cases h
 | succ n ih=>
  intro v2 r h σ hσ;rw[HA] at h;exact gc
instance A6y:Ct 102 (∀{a0} {r},JR a0=N r→FC Z 102 [.sc (.sl (Y X4.row a0))] [.sc (.v (.bool r))]):=by
 refine⟨fun{a0} {r} h=> ?_⟩;unfold JR at h;refine A5 A4 VS [2] 27 ?_;have k0:= @A1p;exact gc
/- 103:impl_RegimeOk -/
instance A7g:Ct 103 (∀{a0} {r},Pj a0=N r→FC Z 103 [.ag (Xi.row a0)] [.sc (.v (.bool r))]):=by
 refine⟨fun{a0} {r} h=> ?_⟩;unfold Pj at h;refine A5 A4 h0 [2] 6 ?_;exact gc
/- 150:impl_movesOk -/
def VT:Hw:=([(14,[8,9,10],[],[])],[])
def cM:=fun a0 (k_:U→Q V)=>∀{v2} {zr},k_ v2=N zr→Kh Z 150 VT 14 [8,9,10] [] [] ⟨[pL 8 rI a0,pI 9 (a0.length:U),pI 10 v2],[],[]⟩ (A8 [2] [.sc (.v (.bool zr))])
theorem A1q{a0}{n:W}:cM a0 (Gp a0 n):=by
 induction n with
 | zero=>intro _ r h; cases h
 | succ n ih=>
  intro v2 r h σ hσ;rw[Gp] at h;exact gc
instance A70:Ct 150 (∀{a0} {r},Gn a0=N r→FC Z 150 [.sc (.sl (Y rI a0))] [.sc (.v (.bool r))]):=by
 refine⟨fun{a0} {r} h=> ?_⟩;unfold Gn at h;refine A5 A4 VT [2] 18 ?_;have k0:= @A1q;exact gc
/- 104:impl_CrewOk -/
instance A6w:Ct 104 (∀{a0} {r},LK a0=N r→FC Z 104 [.ag (Xn.row a0)] [.sc (.v (.bool r))]):=by
 refine⟨fun{a0} {r} h=> ?_⟩;unfold LK at h;refine A5 A4 h0 [2] 21 ?_;exact gc
/- 64:impl_HarbourOk -/
instance A62:Ct 64 (∀{a0} {r},JS a0=N r→FC Z 64 [.ag (X6.row a0)] [.sc (.v (.bool r))]):=by
 refine⟨fun{a0} {r} h=> ?_⟩;unfold JS at h;refine A5 A4 h0 [2] 26 ?_;exact gc
/- 65:impl_callOk -/
instance A7u:Ct 65 (∀{a0} {a1} {r},JZ a0 a1=N r→FC Z 65 [.ag (X6.row a0),.ag (zE a1)] [.sc (.v (.bool r))]):=by
 refine⟨fun{a0} {a1} {r} h=> ?_⟩;unfold JZ at h;refine A5 A4 h0 [4] 47 ?_;exact gc
/- 31:impl_CallsOk -/
def S3:Hw:=([(14,[1,2,17,18,19],[2],[]),(36,[1,2,6,17,18,19,30,31,32],[2,6],[])],[])
def bQ:=fun a1 v4 (a0:X6) (x6:Xa) y10 y11 (k_:U→Q V)=>∀{v12} {zr},k_ v12=N zr→Kh Z 31 S3 36 [1,2,6,17,18,19,30,31,32] [2,6] [] ⟨[pL 1 zE a1,pB 2,pB 6,pL 17 zE a1,pI 18 (a1.length:U),pI 19 v4,pL 30 zE y10,pI 31 y11,pI 32 v12],[(2,([aI a0.Forecast.Tide.Mean,aM zD a0.Forecast.Tide.Parts,aM X9.row a0.Forecast.Surges,aM X7.row a0.Chart.Points,aM X2.row a0.Chart.Segments,aM X4.row a0.Fleet,aI a0.Regime.Gap,aB a0.Regime.NoMeet]++dm a0.Crew.row)),(6,(dm x6.row))],[]⟩ (A8 [4] [.sc (.v (.bool zr))])
def TF:=fun a1 (a0:X6) (k_:U→Q V)=>∀{v4} {zr},k_ v4=N zr→Kh Z 31 S3 14 [1,2,17,18,19] [2] [] ⟨[pL 1 zE a1,pB 2,pL 17 zE a1,pI 18 (a1.length:U),pI 19 v4],[(2,([aI a0.Forecast.Tide.Mean,aM zD a0.Forecast.Tide.Parts,aM X9.row a0.Forecast.Surges,aM X7.row a0.Chart.Points,aM X2.row a0.Chart.Segments,aM X4.row a0.Fleet,aI a0.Regime.Gap,aB a0.Regime.NoMeet]++dm a0.Crew.row))],[]⟩ (A8 [4] [.sc (.v (.bool zr))])
theorem A1r{a1 v4 a0 x6 y10 y11}{NV}(oc:TF a1 a0 NV){n:W}:bQ a1 v4 a0 x6 y10 y11 (F6 a1 v4 a0 x6 y10 y11 NV n):=by
 induction n with
 | zero=>intro _ r h; cases h
 | succ n ih=>
  intro v12 r h σ hσ;rw[F6] at h;have k0:= @oc;exact gc
theorem A1s{a1 a0}{n:W}:TF a1 a0 (DX a1 a0 n):=by
 induction n with
 | zero=>intro _ r h; cases h
 | succ n ih=>
  intro v4 r h σ hσ;rw[DX] at h;have k0:= @A1r;exact gc
instance xD:Ct 31 (∀{a0} {a1} {r},LJ a0 a1=N r→FC Z 31 [.ag (X6.row a0),.sc (.sl (Y zE a1))] [.sc (.v (.bool r))]):=by
 refine⟨fun{a0} {a1} {r} h=> ?_⟩;unfold LJ at h;refine A5 A4 S3 [4] 43 ?_;have k0:= @A1s;exact gc
/- 111:impl_CallOk -/
instance A6u:Ct 111 (∀{a0} {a1} {r},LI a0 a1=N r→FC Z 111 [.ag (X6.row a0),.ag (zE a1)] [.sc (.v (.bool r))]):=by
 refine⟨fun{a0} {a1} {r} h=> ?_⟩;unfold LI at h;refine A5 A4 h0 [4] 12 ?_;exact gc
/- 109:impl_clone_int -/
instance QO:Ct 109 (∀{a0} {r},BD a0=N r→FC Z 109 [.sc (.sl (Y rI a0))] [.sc (.o 1 (Y rI r))]):=by
 refine⟨fun{a0} {r} h=> ?_⟩;unfold BD at h;refine A5 A4 h0 [2] 8 ?_;have s0:= @EJ _ rI (0:U);exact gc
/- 200:impl_Segment_end -/
instance ZP:Ct 200 (∀{a0} {a1} {r},JX a0 a1=N r→FC Z 200 [.ag (X2.row a0),.sc (.int .i64 a1)] [.sc (.v (.int .i64 r))]):=by
 refine⟨fun{a0} {a1} {r} h=> ?_⟩;unfold JX at h;refine A5 A4 h0 [4] 18 ?_;exact gc
end Go.Vi
