/-
Walks. No condition.
-/
import Derived.Test.YtpfcgapakfcllaaGreatDoorCNf
import Derived.Test.YtpfcgapakfcllaaGreatDoorChecked
import Derived.Test.YtpfcgapakfcllaaGreatDoorCSh
import Derived.Test.YtpfcgapakfcllaaGreatDoorCVi43
import Derived.KernelRfl
import Derived.Test.YtpfcgapakfcllaaGreatDoorCWConfirmsb
namespace Go.Vi
open Go.Proofs
set_option linter.all false
set_option maxRecDepth 20000
set_option maxHeartbeats 2000000
open Nat renaming reduceBEq → C, reduceMul → E, reduceAdd → F, reduceDiv → G, le_of_ble_eq_true → uf
open Int renaming reduceBEq → H
attribute [local irreducible] go AM Gx
open List renaming map → Z, map_nil → zA, cons_append → zE, nil_append → zF, all_eq_true → zG
open Tryz renaming prog → I
open Xf renaming row → zB
open Xb renaming row → zC
open Xd renaming row → zD
open Bool renaming true → T, false → L
open Option renaming some → N, none → O
open _root_ renaming List → P, Option → Q, Int → U, Bool → V, Nat → W, UInt8 → X, rfl → Y
def La:Hw:=([(16,[0,1,5,17,18],[],[1024]),(30,[0,1,5,6,17,18,27,28,29],[],[1024,1728]),(47,[0,1,5,6,9,17,18,27,28,29,35,36,37],[],[1024,2176,1728])],[(7,1,(O,.frz 896)),(60,2,(O,.frz 2176))])
def Wn:=fun a0 a1 v2 r5 v6 x9 v7 (k_:U→(P U)→Q (P (P U)))=>∀{v10 v11} {zr},k_ v10 v11=N zr→Kh I 125 La 47 [0,1,5,6,9,17,18,27,28,29,35,36,37] [] [1024,2176,1728] ⟨[pI 0 a0,pI 1 a1,pW 5 1024,pI 6 v2,pW 9 2176,pI 17 a0,pI 18 v2,pW 27 1728,pI 28 (r5.length:U),pI 29 v6,pL 35 rI x9,pI 36 (x9.length:U),pI 37 v10],[],[(1024,1,Z (rL rI) v7),(2176,1,Z rI v11),(1728,1,Z (rL rI) r5)]⟩ (A4 [4] [.sc (.o 1 (Z (rL rI) zr))])
def Pn:=fun a0 a1 v2 r5 (k_:U→(P (P U))→Q (P (P U)))=>∀{v6 v7} {zr},k_ v6 v7=N zr→Kh I 125 La 30 [0,1,5,6,17,18,27,28,29] [] [1024,1728] ⟨[pI 0 a0,pI 1 a1,pW 5 1024,pI 6 v2,pI 17 a0,pI 18 v2,pW 27 1728,pI 28 (r5.length:U),pI 29 v6],[],[(1024,1,Z (rL rI) v7),(1728,1,Z (rL rI) r5)]⟩ (A4 [4] [.sc (.o 1 (Z (rL rI) zr))])
def Pm:=fun a0 a1 (k_:U→(P (P U))→Q (P (P U)))=>∀{v2 v3} {zr},k_ v2 v3=N zr→Kh I 125 La 16 [0,1,5,17,18] [] [1024] ⟨[pI 0 a0,pI 1 a1,pW 5 1024,pI 17 a0,pI 18 v2],[],[(1024,1,Z (rL rI) v3)]⟩ (A4 [4] [.sc (.o 1 (Z (rL rI) zr))])
theorem qv{rec_:U→U→Q (P (P U))}(h_rec:∀(a0 a1:U) zr,rec_ a0 a1=N zr→FC I 125 [.sc (.int .i64 a0),.sc (.int .i64 a1)] [.sc (.o 1 (Z (rL rI) zr))]){a0 a1 v2 r5 v6 x9 v7}{Iv}(fC:Pn a0 a1 v2 r5 Iv){n:W}:Wn a0 a1 v2 r5 v6 x9 v7 (KJ rec_ a0 a1 v2 r5 v6 x9 v7 Iv n):=by
 induction n with
 | zero=>intro _ _ r h; cases h
 | succ n ih=>
  intro v10 v11 r h σ hσ;rw[KJ] at h;have:Ct 125 _:=⟨h_rec⟩;have s0:=fun(x13:U)=> @Ap (Z rI ([(IntKind.i64.wrap ((IntKind.i64.wrap (v2+(1:U)))+x13))]:P U))
  have s1:= @Ap (Z (rL rI) ([v11]:P (P U)));have k0:= @fC;exact gc
theorem qw{rec_:U→U→Q (P (P U))}(h_rec:∀(a0 a1:U) zr,rec_ a0 a1=N zr→FC I 125 [.sc (.int .i64 a0),.sc (.int .i64 a1)] [.sc (.o 1 (Z (rL rI) zr))]){a0 a1 v2 r5}{Iu}(fB:Pm a0 a1 Iu){n:W}:Pn a0 a1 v2 r5 (KI rec_ a0 a1 v2 r5 Iu n):=by
 induction n with
 | zero=>intro _ _ r h; cases h
 | succ n ih=>
  intro v6 v7 r h σ hσ S hS;refine ev hS ?_;rw[KI] at h;refine AF (An ?_);obtain⟨h8,h⟩|⟨h8,h⟩:=ic h
  ·obtain⟨x9,h9,h⟩:=ob h;have h9n:=Ah h9;try simp only[hσ,h8,h9,h9n,C,E,F,G,H,J]
   refine AP (es:=Z rI ([v2]:P U)) ?_;try simp only[h8,h9,h9n,C,E,F,G,H,J]
   refine qv h_rec ih h ?_ (by kernel_rfl);try simp only[h8,h9,h9n,C,E,F,G,H,J,pL,aM,zA]
  ·try simp only[hσ,h8,C,E,F,G,H,J]
   refine fB h ?_ (by kernel_rfl);try simp only[h8,C,E,F,G,H,J,pL,aM,zA]
theorem qx{rec_:U→U→Q (P (P U))}(h_rec:∀(a0 a1:U) zr,rec_ a0 a1=N zr→FC I 125 [.sc (.int .i64 a0),.sc (.int .i64 a1)] [.sc (.o 1 (Z (rL rI) zr))]){a0 a1}{n:W}:Pm a0 a1 (KH rec_ a0 a1 n):=by
 induction n with
 | zero=>intro _ _ r h; cases h
 | succ n ih=>
  intro v2 v3 r h σ hσ;rw[KH] at h;have:Ct 125 _:=⟨h_rec⟩;have k0:= @qw;exact gc
theorem om(rec_:U→U→Q (P (P U)))(a0 a1:U)(r:(P (P U)))(h_rec:∀(a0 a1:U) zr,rec_ a0 a1=N zr→FC I 125 [.sc (.int .i64 a0),.sc (.int .i64 a1)] [.sc (.o 1 (Z (rL rI) zr))])(h:Nw rec_ a0 a1=N r):FC I 125 [.sc (.int .i64 a0),.sc (.int .i64 a1)] [.sc (.o 1 (Z (rL rI) r))]:=by
 unfold Nw at h;refine A2 mixed La [4] 56 ?_;have:Ct 125 _:=⟨h_rec⟩;have s0:= @Ap (Z rI ([]:P U));have s1:= @Ap (Z (rL rI) ([([]:P U)]:P (P U)));have s2:= @Ap (Z (rL rI) ([]:P (P U)));have k0:= @qx;exact gc
theorem oo:∀(n:W) (a0:U) (a1:U) (r:(P (P U))),I2 n a0 a1=N r→FC I 125 [.sc (.int .i64 a0),.sc (.int .i64 a1)] [.sc (.o 1 (Z (rL rI) r))]:=by
 intro n
 induction n with
 | zero=>intro _ _ r h; cases h
 | succ n ih=>intro a0 a1 r h; rw[I2] at h; exact om (I2 n) a0 a1 r ih h
theorem ol{a0}{a1}{r}(h:KG a0 a1=N r):FC I 125 [.sc (.int .i64 a0),.sc (.int .i64 a1)] [.sc (.o 1 (Z (rL rI) r))]:=oo bigN a0 a1 r h
def QR:Hw:=([(6,[0,1,7,8,9],[],[])],[])
def Wc:=fun a0 a1 (k_:U→Q V)=>∀{v1} {zr},k_ v1=N zr→Kh I 162 QR 6 [0,1,7,8,9] [] [] ⟨[pL 0 X4.row a0,pL 1 rI a1,pL 7 rI a1,pI 8 (a1.length:U),pI 9 v1],[],[]⟩ (A4 [4] [.sc (.v (.bool zr))])
theorem qz{a0 a1}{n:W}:Wc a0 a1 (HS a0 a1 n):=by
 induction n with
 | zero=>intro _ r h; cases h
 | succ n ih=>
  intro v1 r h σ hσ;rw[HS] at h;exact gc
instance um:Ct 162 (∀{a0} {a1} {r},HR a0 a1=N r→FC I 162 [.sc (.sl (Z X4.row a0)),.sc (.sl (Z rI a1))] [.sc (.v (.bool r))]):=by
 refine⟨fun h=> ?_⟩;unfold HR at h;refine A2 mixed QR [4] 33 ?_;have k0:= @qz;exact gc
def QS:Hw:=([(16,[0,5,13,14,15],[],[768])],[])
def VO:=fun a0 a1 (k_:U→(P X4)→Q (P X4))=>∀{v3 v4} {zr},k_ v3 v4=N zr→Kh I 164 QS 16 [0,5,13,14,15] [] [768] ⟨[pL 0 X4.row a0,pW 5 768,pL 13 rI a1,pI 14 (a1.length:U),pI 15 v3],[],[(768,5,Z X4.row v4)]⟩ (A4 [4] [.sc (.o 5 (Z X4.row zr))])
theorem rC{a0 a1}{n:W}:VO a0 a1 (Kc a0 a1 n):=by
 induction n with
 | zero=>intro _ _ r h; cases h
 | succ n ih=>
  intro v3 v4 r h σ hσ;rw[Kc] at h;have s0:=fun(x7:X4)=> @Ap (Z X4.row ([x7]:P X4))
  exact gc
instance uK:Ct 164 (∀{a0} {a1} {r},Kb a0 a1=N r→FC I 164 [.sc (.sl (Z X4.row a0)),.sc (.sl (Z rI a1))] [.sc (.o 5 (Z X4.row r))]):=by
 refine⟨fun h=> ?_⟩;unfold Kb at h;refine A2 mixed QS [4] 28 ?_;have s0:= @Ap (Z X4.row ([]:P X4));have k0:= @rC;exact gc
instance tS:Ct 163 (∀{a0} {a1} {r},Jp a0 a1=N r→FC I 163 [.ag (X2.row a0),.sc (.sl (Z X4.row a1))] [.sc (.v (.bool r))]):=by
 refine⟨fun h=> ?_⟩;unfold Jp at h;refine A2 mixed h0 [4] 16 ?_;exact gc
instance oB:Ct 126 (∀{a0} {a1} {a2} {r},G2 a0 a1 a2=N r→FC I 126 [.ag (X2.row a0),.sc (.sl (Z X4.row a1)),.sc (.sl (Z rI a2))] [.sc (.v (.bool r))]):=by
 refine⟨fun h=> ?_⟩;unfold G2 at h;refine A2 mixed h0 [6] 22 ?_;exact gc
def NS:Hw:=([(14,[1,2,14,15],[2],[]),(28,[1,2,14,15,21,22,23],[2],[1344])],[])
def VK:=fun a1 y3 v4 r6 (a0:X2) (k_:U→Q (P U))=>∀{v7} {zr},k_ v7=N zr→Kh I 84 NS 28 [1,2,14,15,21,22,23] [2] [1344] ⟨[pL 1 X4.row a1,pB 2,pI 14 y3,pI 15 v4,pW 21 1344,pI 22 (r6.length:U),pI 23 v7],[(2,(dm a0.row))],[(1344,1,Z (rL rI) r6)]⟩ (A4 [4] [.sc (.v (.sl (Z rI zr)))])
def Pg:=fun a1 (a0:X2) y3 (k_:U→Q (P U))=>∀{v4} {zr},k_ v4=N zr→Kh I 84 NS 14 [1,2,14,15] [2] [] ⟨[pL 1 X4.row a1,pB 2,pI 14 y3,pI 15 v4],[(2,(dm a0.row))],[]⟩ (A4 [4] [.sc (.v (.sl (Z rI zr)))])
theorem rD{a1 y3 v4 r6 a0}{Iq}(ew:Pg a1 a0 y3 Iq){n:W}:VK a1 y3 v4 r6 a0 (EQ a1 y3 v4 r6 a0 Iq n):=by
 induction n with
 | zero=>intro _ r h; cases h
 | succ n ih=>
  intro v7 r h σ hσ S hS;refine ev hS ?_;rw[EQ] at h;refine AF (An ?_);obtain⟨h8,h⟩|⟨h8,h⟩:=ic h
  ·obtain⟨x9,h9,h⟩:=ob h;have h9n:=Ah h9;obtain⟨r10,h10,h⟩:=ob h;try simp only[hσ,h8,h9,h9n,C,E,F,G,H,J]
   refine Ai (A6 oB h10) ?_;obtain⟨h11,h⟩|⟨h11,h⟩:=ic h
   ·try simp only[h8,h9,h9n,h11,C,E,F,G,H,J]
    refine ih h ?_ (by kernel_rfl);try simp only[h8,h9,h9n,h11,C,E,F,G,H,J,pL,aM,zA]
   ·try simp only[h8,h9,h9n,h11,C,E,F,G,H,J]
    cases h;exact t0
  ·try simp only[hσ,h8,C,E,F,G,H,J]
   refine ew h ?_ (by kernel_rfl);try simp only[h8,C,E,F,G,H,J,pL,aM,zA]
theorem rE{a1 a0 y3}{n:W}:Pg a1 a0 y3 (G0 a1 a0 y3 n):=by
 induction n with
 | zero=>intro _ r h; cases h
 | succ n ih=>
  intro v4 r h σ hσ S hS;refine ev hS ?_;rw[G0] at h;refine AF (An ?_);obtain⟨h5,h⟩|⟨h5,h⟩:=ic h
  ·obtain⟨r6,h6,h⟩:=ob h;try simp only[hσ,h5,C,E,F,G,H,J]
   refine Ai (ol h6) ?_;try simp only[h5,C,E,F,G,H,J]
   refine rD ih h ?_ (by kernel_rfl);try simp only[h5,C,E,F,G,H,J,pL,aM,zA]
  ·try simp only[hσ,h5,C,E,F,G,H,J]
   cases h;exact t0
instance uE:Ct 84 (∀{a0} {a1} {r},Hx a0 a1=N r→FC I 84 [.ag (X2.row a0),.sc (.sl (Z X4.row a1))] [.sc (.v (.sl (Z rI r)))]):=by
 refine⟨fun h=> ?_⟩;unfold Hx at h;refine A2 mixed NS [4] 35 ?_;have k0:= @rE;exact gc
def QT:Hw:=([(16,[1,2,5,15,16,17],[2],[768])],[])
def VJ:=fun a1 r3 (a0:X2) (k_:U→(P (P X))→Q (P X))=>∀{v4 v5} {zr},k_ v4 v5=N zr→Kh I 55 QT 16 [1,2,5,15,16,17] [2] [768] ⟨[pL 1 X4.row a1,pB 2,pW 5 768,pL 15 rI r3,pI 16 (r3.length:U),pI 17 v4],[(2,(dm a0.row))],[(768,1,Z rS v5)]⟩ (A4 [4] [.sc (.v (.str zr))])
theorem rF{a1 r3 a0}{n:W}:VJ a1 r3 a0 (Hv a1 r3 a0 n):=by
 induction n with
 | zero=>intro _ _ r h; cases h
 | succ n ih=>
  intro v4 v5 r h σ hσ;rw[Hv] at h;have s0:=fun(x9:X8)=> @Ap (Z rS ([x9.Name]:P (P X)))
  exact gc
instance nx:Ct 55 (∀{a0} {a1} {r},EP a0 a1=N r→FC I 55 [.ag (X2.row a0),.sc (.sl (Z X4.row a1))] [.sc (.v (.str r))]):=by
 refine⟨fun h=> ?_⟩;unfold EP at h;refine A2 mixed QT [4] 40 ?_;have s0:= @Ap (Z rS ([]:P (P X)));have k0:= @rF;exact gc
def QU:Hw:=([(14,[1,25,26,27],[1],[])],[])
def Vh:=fun(a0:Xo) (k_:U→Q V)=>∀{v5} {zr},k_ v5=N zr→Kh I 85 QU 14 [1,25,26,27] [1] [] ⟨[pB 1,pL 25 rI a0.Starts,pI 26 (a0.Starts.length:U),pI 27 v5],[(1,(dm a0.row))],[]⟩ (A4 [2] [.sc (.v (.bool zr))])
theorem rG{a0}{n:W}:Vh a0 (Hf a0 n):=by
 induction n with
 | zero=>intro _ r h; cases h
 | succ n ih=>
  intro v5 r h σ hσ;rw[Hf] at h;exact gc
instance tX:Ct 85 (∀{a0} {r},MN a0=N r→FC I 85 [.ag (Xo.row a0)] [.sc (.v (.bool r))]):=by
 refine⟨fun h=> ?_⟩;unfold MN at h;refine A2 mixed QU [2] 47 ?_;have k0:= @rG;exact gc
def QV:Hw:=([(16,[1,3,13,14,15],[1],[])],[])
def Vf:=fun(a0:Xo) (k_:(P X)→U→Q (P X))=>∀{v4 v5} {zr},k_ v4 v5=N zr→Kh I 56 QV 16 [1,3,13,14,15] [1] [] ⟨[pB 1,(3,vc (aS v4)),pL 13 rI a0.Starts,pI 14 (a0.Starts.length:U),pI 15 v5],[(1,(dm a0.row))],[]⟩ (A4 [2] [.sc (.v (.str zr))])
theorem rJ{a0}{n:W}:Vf a0 (FP a0 n):=by
 induction n with
 | zero=>intro _ _ r h; cases h
 | succ n ih=>
  intro v4 v5 r h σ hσ S hS;refine ev hS ?_;rw[FP] at h;refine AF (An ?_);obtain⟨h6,h⟩|⟨h6,h⟩:=ic h
  ·obtain⟨x7,h7,h⟩:=ob h;obtain⟨h8,h⟩|⟨h8,h⟩:=ic h
   ·obtain⟨h9,h⟩:=Az h;try simp only[hσ,h6,h7,h8,h9,C,E,F,G,H,J]
    refine ih h ?_ (by kernel_rfl);try simp only[h6,h7,h8,h9,C,E,F,G,H,J,pL,aM,zA]
   ·obtain⟨x10,h10,h⟩:=ob h;obtain⟨h11,h⟩|⟨h11,h⟩:=ic h
    ·obtain⟨r12,h12,h⟩:=ob h;try simp only[hσ,h6,h7,h8,h10,h11,C,E,F,G,H,J]
     refine Ai (A6 Ez h12) ?_;obtain⟨h13,h⟩:=Az h;obtain⟨h14,h⟩:=Az h;try simp only[zE,zF] at h14
     obtain⟨h15,h⟩:=Az h;try simp only[zE,zF] at h15
     try simp only[h6,h7,h8,h10,h11,h13,h14,h15,C,E,F,G,H,J]
     refine ih h ?_ (by kernel_rfl);try simp only[h6,h7,h8,h10,h11,h13,h14,h15,C,E,F,G,H,J,pL,aM,zA]
    ·obtain⟨r16,h16,h⟩:=ob h;try simp only[hσ,h6,h7,h8,h10,h11,C,E,F,G,H,J]
     refine Ai (A6 Ez h16) ?_;obtain⟨h17,h⟩:=Az h;obtain⟨h18,h⟩:=Az h;try simp only[zE,zF] at h18
     try simp only[h6,h7,h8,h10,h11,h17,h18,C,E,F,G,H,J]
     refine ih h ?_ (by kernel_rfl);try simp only[h6,h7,h8,h10,h11,h17,h18,C,E,F,G,H,J,pL,aM,zA]
  ·try simp only[hσ,h6,C,E,F,G,H,J]
   cases h;exact t0
instance nf:Ct 56 (∀{a0} {r},ML a0=N r→FC I 56 [.ag (Xo.row a0)] [.sc (.v (.str r))]):=by
 refine⟨fun h=> ?_⟩;unfold ML at h;refine A2 mixed QV [2] 44 ?_;have k0:= @rJ;exact gc
def NT:Hw:=([(5,[1,2,3,22],[3],[]),(16,[2,3,8,24,25,26],[3],[1472])],[])
def VH:=fun a2 a1 (a0:X2) (k_:U→(P X0)→Q ((P X0) × V))=>∀{v5 v6} {zr},k_ v5 v6=N zr→Kh I 86 NT 16 [2,3,8,24,25,26] [3] [1472] ⟨[pL 2 rI a2,pB 3,pW 8 1472,pL 24 X4.row a1,pI 25 (a1.length:U),pI 26 v5],[(3,(dm a0.row))],[(1472,4,Z X0.row v6)]⟩ (A4 [6,7] [.sc (.o 4 (Z X0.row zr.1)),.sc (.v (.bool zr.2))])
def VG:=fun a1 a2 (a0:X2) (k_:V→Q ((P X0) × V))=>∀{v3} {zr},k_ v3=N zr→Kh I 86 NT 5 [1,2,3,22] [3] [] ⟨[pL 1 X4.row a1,pL 2 rI a2,pB 3,(22,vc (aB v3))],[(3,(dm a0.row))],[]⟩ (A4 [6,7] [.sc (.o 4 (Z X0.row zr.1)),.sc (.v (.bool zr.2))])
theorem rK{a2 a1 a0}{n:W}:VH a2 a1 a0 (FZ a2 a1 a0 n):=by
 induction n with
 | zero=>intro _ _ r h; cases h
 | succ n ih=>
  intro v5 v6 r h σ hσ S hS;refine ev hS ?_;rw[FZ] at h;refine AF (An ?_);obtain⟨h7,h⟩|⟨h7,h⟩:=ic h
  ·obtain⟨x8,h8,h⟩:=ob h;try simp only[hσ,h7,h8,C,E,F,G,H,J]
   refine AI ?_;obtain⟨r9,h9,h⟩:=ob h;try simp only[h7,h8,C,E,F,G,H,J]
   refine Ai (A6 ON h9) ?_;obtain⟨x10,h10,h⟩:=ob h;obtain⟨r11,h11,h⟩:=ob h;try simp only[h7,h8,h10,C,E,F,G,H,J]
   refine Ai (A6 IT h11) ?_;obtain⟨h12,h⟩|⟨h12,h⟩:=ic h
   ·obtain⟨x13,h13,h⟩:=ob h;have h13n:=Ah h13;try simp only[h7,h8,h10,h12,h13,h13n,C,E,F,G,H,J]
    refine AP (es:=Z X0.row ([x13]:P X0)) ?_;obtain⟨h14,h⟩:=Az h;try simp only[h7,h8,h10,h12,h13,h13n,h14,C,E,F,G,H,J]
    refine ih h ?_ (by kernel_rfl);try simp only[h7,h8,h10,h12,h13,h13n,h14,C,E,F,G,H,J,pL,aM,zA]
   ·try simp only[h7,h8,h10,h12,C,E,F,G,H,J]
    cases h;trivial
  ·try simp only[hσ,h7,C,E,F,G,H,J]
   cases h;trivial
theorem rM{a1 a2 a0}:VG a1 a2 a0 (FY a1 a2 a0):=by
 intro v3 r h σ hσ;unfold FY at h;have s0:= @Ap (Z X0.row ([]:P X0));have k0:= @rK;exact gc
instance nw:Ct 86 (∀{a0} {a1} {a2} {r},FX a0 a1 a2=N r→FC I 86 [.ag (X2.row a0),.sc (.sl (Z X4.row a1)),.sc (.sl (Z rI a2))] [.sc (.o 4 (Z X0.row r.1)),.sc (.v (.bool r.2))]):=by
 refine⟨fun h=> ?_⟩;unfold FX at h;refine A2 mixed NT [6,7] 54 ?_;have k0:= @rM;exact gc
theorem am:AB I 57=N ((By I 57 h0).strip,[2,3],34):=by kernel_rfl
theorem nV{a0}{r}(h:DI a0=N r):FCo I 57 [.p] [.int .i64 a0.Harbour.Forecast.Tide.Mean,.sl (Z zB a0.Harbour.Forecast.Tide.Parts),.sl (Z zC a0.Harbour.Forecast.Surges),.sl (Z zD a0.Harbour.Chart.Points),.sl (Z X6.row a0.Harbour.Chart.Segments),.sl (Z X8.row a0.Harbour.Fleet),.int .i64 a0.Harbour.Regime.Gap,.bool a0.Harbour.Regime.NoMeet,.int .i64 a0.Harbour.Crew.Tugs,.int .i64 a0.Harbour.Crew.Pilots,.int .i64 a0.Harbour.Crew.Rest,.sl (Z rI a0.Harbour.Crew.Moves),.sl (Z X4.row a0.Calls),.int .i64 a0.Desk.Now,.sl (Z rI a0.Desk.Starts),.sl (Z rB a0.Desk.Cleared)] [.int .i64 r.2.2.Harbour.Forecast.Tide.Mean,.sl (Z zB r.2.2.Harbour.Forecast.Tide.Parts),.sl (Z zC r.2.2.Harbour.Forecast.Surges),.sl (Z zD r.2.2.Harbour.Chart.Points),.sl (Z X6.row r.2.2.Harbour.Chart.Segments),.sl (Z X8.row r.2.2.Harbour.Fleet),.int .i64 r.2.2.Harbour.Regime.Gap,.bool r.2.2.Harbour.Regime.NoMeet,.int .i64 r.2.2.Harbour.Crew.Tugs,.int .i64 r.2.2.Harbour.Crew.Pilots,.int .i64 r.2.2.Harbour.Crew.Rest,.sl (Z rI r.2.2.Harbour.Crew.Moves),.sl (Z X4.row r.2.2.Calls),.int .i64 r.2.2.Desk.Now,.sl (Z rI r.2.2.Desk.Starts),.sl (Z rB r.2.2.Desk.Cleared)] [.sc (.o 4 (Z X0.row r.1)),.sc (.v (.bool r.2.1))]:=by
 unfold DI at h;refine UN (σ:=⟨[(0,vc (.pb 99999999999 0))],[(99999999999,[aI a0.Harbour.Forecast.Tide.Mean,aL (Z zB a0.Harbour.Forecast.Tide.Parts),aL (Z zC a0.Harbour.Forecast.Surges),aL (Z zD a0.Harbour.Chart.Points),aL (Z X6.row a0.Harbour.Chart.Segments),aL (Z X8.row a0.Harbour.Fleet),aI a0.Harbour.Regime.Gap,aB a0.Harbour.Regime.NoMeet,aI a0.Harbour.Crew.Tugs,aI a0.Harbour.Crew.Pilots,aI a0.Harbour.Crew.Rest,aL (Z rI a0.Harbour.Crew.Moves),aL (Z X4.row a0.Calls),aI a0.Desk.Now,aL (Z rI a0.Desk.Starts),aL (Z rB a0.Desk.Cleared)])],[]⟩) mixed am Y Y ?_;refine BG h0 ?_;intro S hS;refine ev hS ?_;try simp only[C,E,F,G,H,J]
 refine Af ?_;obtain⟨r1,h1,h⟩:=ob h;try simp only[C,E,F,G,H,J]
 refine AR (FC.asV (rs':= [.sc (.v (.sl (Z rI r1.1))),.sc (.v (.int .i64 r1.2.1)),.sc (.v (.bool r1.2.2))]) (A6 nO h1) Y) ?_;obtain⟨h2,h⟩|⟨h2,h⟩:=ic h
 ·try simp only[h2,C,E,F,G,H,J]
  refine Af ?_;obtain⟨r3,h3,h⟩:=ob h;try simp only[h2,C,E,F,G,H,J]
  refine AR (A6 nw h3) ?_;try simp only[h2,C,E,F,G,H,J]
  cases h;trivial
 ·try simp only[h2,C,E,F,G,H,J]
  cases h;trivial
instance uY:Ct 128 (∀{a0} {r},Nb a0=N r→FC I 128 [.sc (.sl (Z X1.row a0))] [.sc (.o 5 (Z X1.row r))]):=by
 refine⟨fun h=> ?_⟩;unfold Nb at h;refine A2 mixed h0 [2] 8 ?_;have s0:= @CG _ X1.row (⟨(0:U),(0:U),L,(0:U),(0:U)⟩:X1);exact gc
def QW:Hw:=([(8,[3,7,8,9],[],[384])],[(19,4,(O,.frz 1024))])
def UX:=fun a0 (k_:U→(P (P X1))→Q (P (P X1)))=>∀{v1 v2} {zr},k_ v1 v2=N zr→Kh I 87 QW 8 [3,7,8,9] [] [384] ⟨[pW 3 384,pL 7 X0.row a0,pI 8 (a0.length:U),pI 9 v1],[],[(384,1,Z (rL X1.row) v2)]⟩ (A4 [2] [.sc (.o 1 (Z (rL X1.row) zr))])
theorem rN{a0}{n:W}:UX a0 (Jq a0 n):=by
 induction n with
 | zero=>intro _ _ r h; cases h
 | succ n ih=>
  intro v1 v2 r h σ hσ;rw[Jq] at h;have s0:=fun(r5:(P X1))=> @Ap (Z (rL X1.row) ([r5]:P (P X1)))
  exact gc
instance tT:Ct 87 (∀{a0} {r},ME a0=N r→FC I 87 [.sc (.sl (Z X0.row a0))] [.sc (.o 1 (Z (rL X1.row) r))]):=by
 refine⟨fun h=> ?_⟩;unfold ME at h;refine A2 mixed QW [2] 21 ?_;have s0:= @Ap (Z (rL X1.row) ([]:P (P X1)));have k0:= @rN;exact gc
instance oF:Ct 88 (∀{a0} {a1} {a2} {a3} {r},N8 a0 a1 a2 a3=N r→FC I 88 [.ag (Xq.row a0),.ag (X5.row a1),.sc (.sl (Z X8.row a2)),.sc (.sl (Z X1.row a3))] [.sc (.v (.int .i64 r))]):=by
 refine⟨fun h=> ?_⟩;unfold N8 at h;refine A2 mixed h0 [8] 37 ?_;exact gc
def QX:Hw:=([(14,[1,2,14,15,16],[2],[])],[])
def Vq:=fun a1 (a0:X5) (k_:U→Q V)=>∀{v3} {zr},k_ v3=N zr→Kh I 174 QX 14 [1,2,14,15,16] [2] [] ⟨[pL 1 X1.row a1,pB 2,pL 14 X1.row a1,pI 15 (a1.length:U),pI 16 v3],[(2,(dm a0.row))],[]⟩ (A4 [4] [.sc (.v (.bool zr))])
theorem rO{a1 a0}{n:W}:Vq a1 a0 (Hk a1 a0 n):=by
 induction n with
 | zero=>intro _ r h; cases h
 | succ n ih=>
  intro v3 r h σ hσ;rw[Hk] at h;exact gc
instance th:Ct 174 (∀{a0} {a1} {r},MR a0 a1=N r→FC I 174 [.ag (X5.row a0),.sc (.sl (Z X1.row a1))] [.sc (.v (.bool r))]):=by
 refine⟨fun h=> ?_⟩;unfold MR at h;refine A2 mixed QX [4] 70 ?_;have k0:= @rO;exact gc
def NU:Hw:=([(5,[1,2,3,6,18],[3,6],[]),(14,[1,2,3,6,20,21,22],[3,6],[])],[])
def VD:=fun a1 a2 (a0:X5) (k_:U→Q (Xc × V))=>∀{v5} {zr},k_ v5=N zr→Kh I 131 NU 14 [1,2,3,6,20,21,22] [3,6] [] ⟨[pL 1 X8.row a1,pL 2 X1.row a2,pB 3,pB 6,pL 20 X1.row a2,pI 21 (a2.length:U),pI 22 v5],[(3,(dm a0.row)),(6,[aI (0:U),aI (0:U),aI (0:U),aI (0:U)])],[]⟩ (A4 [.c 6 T 4,7] [.ag [.v (.int .i64 zr.1.From),.v (.int .i64 zr.1.To),.v (.int .i64 zr.1.A),.v (.int .i64 zr.1.B)],.sc (.v (.bool zr.2))])
def VC:=fun a1 a2 (a0:X5) (k_:V→Q (Xc × V))=>∀{v3} {zr},k_ v3=N zr→Kh I 131 NU 5 [1,2,3,6,18] [3,6] [] ⟨[pL 1 X8.row a1,pL 2 X1.row a2,pB 3,pB 6,(18,vc (aB v3))],[(3,(dm a0.row)),(6,[aI (0:U),aI (0:U),aI (0:U),aI (0:U)])],[]⟩ (A4 [.c 6 T 4,7] [.ag [.v (.int .i64 zr.1.From),.v (.int .i64 zr.1.To),.v (.int .i64 zr.1.A),.v (.int .i64 zr.1.B)],.sc (.v (.bool zr.2))])
theorem rQ{a1 a2 a0}{n:W}:VD a1 a2 a0 (K4 a1 a2 a0 n):=by
 induction n with
 | zero=>intro _ r h; cases h
 | succ n ih=>
  intro v5 r h σ hσ;rw[K4] at h;exact gc
theorem rR{a1 a2 a0}:VC a1 a2 a0 (K3 a1 a2 a0):=by
 intro v3 r h σ hσ;unfold K3 at h;have k0:= @rQ;exact gc
instance uD:Ct 131 (∀{a0} {a1} {a2} {r},MY a0 a1 a2=N r→FC I 131 [.ag (X5.row a0),.sc (.sl (Z X8.row a1)),.sc (.sl (Z X1.row a2))] [.ag [.v (.int .i64 r.1.From),.v (.int .i64 r.1.To),.v (.int .i64 r.1.A),.v (.int .i64 r.1.B)],.sc (.v (.bool r.2))]):=by
 refine⟨fun h=> ?_⟩;unfold MY at h;refine A2 mixed NU [.c 6 T 4,7] 44 ?_;have k0:= @rR;exact gc
def QY:Hw:=([(8,[2,4,5,9,18,19,20],[4,5],[1088])],[])
def VE:=fun a2 a3 (a0:Xq) (a1:X5) (k_:U→(P Xc)→Q U)=>∀{v1 v2} {zr},k_ v1 v2=N zr→Kh I 89 QY 8 [2,4,5,9,18,19,20] [4,5] [1088] ⟨[pL 2 X8.row a2,pB 4,pB 5,pW 9 1088,pL 18 (rL X1.row) a3,pI 19 (a3.length:U),pI 20 v1],[(4,(dm a0.row)),(5,(dm a1.row))],[(1088,4,Z Xc.row v2)]⟩ (A4 [8] [.sc (.v (.int .i64 zr))])
theorem rT{a2 a3 a0 a1}{n:W}:VE a2 a3 a0 a1 (Ht a2 a3 a0 a1 n):=by
 induction n with
 | zero=>intro _ _ r h; cases h
 | succ n ih=>
  intro v1 v2 r h σ hσ;rw[Ht] at h;have s0:=fun(r6:Xc × V)=> @Ap (Z Xc.row ([r6.1]:P Xc))
  exact gc
instance nu:Ct 89 (∀{a0} {a1} {a2} {a3} {r},MZ a0 a1 a2 a3=N r→FC I 89 [.ag (Xq.row a0),.ag (X5.row a1),.sc (.sl (Z X8.row a2)),.sc (.sl (Z (rL X1.row) a3))] [.sc (.v (.int .i64 r))]):=by
 refine⟨fun h=> ?_⟩;unfold MZ at h;refine A2 mixed QY [8] 60 ?_;have s0:= @Ap (Z Xc.row ([]:P Xc));have k0:= @rT;exact gc
def QZ:Hw:=([(18,[2,5,6,15,16,17],[2],[832,896])],[])
def Ve:=fun r3 (a0:X2) (k_:U→(P X1)→Q (P X))=>∀{v4 v5} {zr},k_ v4 v5=N zr→Kh I 58 QZ 18 [2,5,6,15,16,17] [2] [832,896] ⟨[pB 2,pW 5 832,pW 6 896,pW 15 832,pI 16 (r3.length:U),pI 17 v4],[(2,(dm a0.row))],[(832,1,Z (rL X1.row) r3),(896,5,Z X1.row v5)]⟩ (A4 [4] [.sc (.v (.str zr))])
theorem rV{r3 a0}{n:W}:Ve r3 a0 (JF r3 a0 n):=by
 induction n with
 | zero=>intro _ _ r h; cases h
 | succ n ih=>
  intro v4 v5 r h σ hσ S hS;refine ev hS ?_;rw[JF] at h;refine AF (An ?_);obtain⟨h6,h⟩|⟨h6,h⟩:=ic h
  ·obtain⟨x7,h7,h⟩:=ob h;have h7n:=Ah h7;obtain⟨h8,h⟩:=Az h;try simp only[hσ,h6,h7,h7n,h8,C,E,F,G,H,J]
   refine ih h ?_ (by kernel_rfl);try simp only[h6,h7,h7n,h8,C,E,F,G,H,J,pL,aM,zA]
  ·try simp only[hσ,h6,C,E,F,G,H,J]
   refine Af ?_;obtain⟨r9,h9,h⟩:=ob h;try simp only[h6,C,E,F,G,H,J]
   refine DN (A6 oF h9) (by first | rfl | kernel_rfl) (BN Y) Y (uf Y) ?_;obtain⟨r10,h10,h⟩:=ob h;try simp only[h6,C,E,F,G,H,J]
   refine DN (A6 nu h10) (by first | rfl | kernel_rfl) (BN Y) Y (uf Y) ?_;try simp only[h6,C,E,F,G,H,J]
   refine AP (es:=Z rA ([(⟨T,([116,117,103,115]:P X),0⟩:Xm),(⟨L,[],r9⟩:Xm),(⟨T,([112,105,108,111,116,115]:P X),0⟩:Xm),(⟨L,[],r10⟩:Xm)]:P Xm)) ?_;obtain⟨r11,h11,h⟩:=ob h;try simp only[h6,C,E,F,G,H,J]
   refine DN (A6 ov h11) (by first | rfl | kernel_rfl) (BN Y) Y (uf Y) ?_;try simp only[h6,C,E,F,G,H,J]
   cases h;exact t0
instance nd:Ct 58 (∀{a0} {a1} {r},FO a0 a1=N r→FC I 58 [.ag (X2.row a0),.sc (.sl (Z X0.row a1))] [.sc (.v (.str r))]):=by
 refine⟨fun h=> ?_⟩;unfold FO at h;refine A2 mixed QZ [4] 47 ?_;have s0:= @Ap (Z X1.row ([]:P X1));have k0:= @rV;exact gc
def R4:Hw:=([(5,[2,3,4,5,8,25],[4,5,8],[])],[])
def Vx:=fun a2 a3 (a0:X2) (a1:X4) (k_:V→Q (X0 × V))=>∀{v4} {zr},k_ v4=N zr→Kh I 177 R4 5 [2,3,4,5,8,25] [4,5,8] [] ⟨[pL 2 rI a2,pI 3 a3,pB 4,pB 5,pB 8,(25,vc (aB v4))],[(4,(dm a0.row)),(5,(dm a1.row)),(8,[aI (0:U),aI (0:U),aI (0:U),.nil])],[]⟩ (A4 [.c 8 T 4,9] [.ag [.v (.int .i64 zr.1.Start),.v (.int .i64 zr.1.Arrival),.v (.int .i64 zr.1.Cost),.o 5 (Z X1.row zr.1.Passages)],.sc (.v (.bool zr.2))])
theorem rW{a2 a3 a0 a1}:Vx a2 a3 a0 a1 (Hq a2 a3 a0 a1):=by
 intro v4 r h σ hσ;unfold Hq at h;exact gc
instance tw:Ct 177 (∀{a0} {a1} {a2} {a3} {r},FU a0 a1 a2 a3=N r→FC I 177 [.ag (X2.row a0),.ag (X4.row a1),.sc (.sl (Z rI a2)),.sc (.int .i64 a3)] [.ag [.v (.int .i64 r.1.Start),.v (.int .i64 r.1.Arrival),.v (.int .i64 r.1.Cost),.o 5 (Z X1.row r.1.Passages)],.sc (.v (.bool r.2))]):=by
 refine⟨fun h=> ?_⟩;unfold FU at h;refine A2 mixed R4 [.c 8 T 4,9] 50 ?_;have k0:= @rW;exact gc
def Jh:Xe:=GQ [WF [0,1,12,13] [] []] (GQ [bn 14 .lss 13 12] (WH 14 0 1 (GQ [mv 15 13,mv 5 15] (Pr (.drw [o0 (mv 16 0),o0 (mv 17 5),o0 (ia 18 16 17 5),o0 (lw 19 18 5),o0 (mv 20 1),o0 (mv 21 5),o0 (ia 22 20 21 5),o0 (lw 23 22 5),o0 (O,.geq 24 T [.i,.i,.b,.i,.i] (S 19) (S 23))]) (WD 24 (M1 [J6 4 L])))) (WE 25 13)))
def Ml:Xe:=(M1 [J6 4 T])
def PU:Xe:=(GQ [J6 4 L] (WI [mv 6 0,ln 7 6,mv 8 1,ln 9 8,bn 10 .neq 7 9] 10 (M1 [J6 4 L]) (Pr (GQ [mv 11 0,ln 12 11,WG 13 0] (WC 0 Jh)) Ml)))
def Wy:=fun a0 a1 (k_:U→Q V)=>∀{v2} {zr},k_ v2=N zr→Kp I [0,1,12,13] [] [] ⟨[pL 0 X1.row a0,pL 1 X1.row a1,pI 12 (a0.length:U),pI 13 v2],[],[]⟩ (.code (.loop Jh):: [.blk 0,.code Ml]) (A4 [4] [.sc (.v (.bool zr))])
theorem rX{a0 a1}{n:W}:Wy a0 a1 (KW a0 a1 n):=by
 induction n with
 | zero=>intro _ r h; cases h
 | succ n ih=>
  intro v2 r h σ hσ;rw[KW] at h;refine AF ?_;obtain⟨h3,h⟩|⟨h3,h⟩:=ic h
  ·try simp only[hσ,h3,Jh,C,E,F,G,H,J]
   refine Af ?_;obtain⟨x4,h4,h⟩:=ob h;obtain⟨x5,h5,h⟩:=ob h;obtain⟨h6,h⟩|⟨h6,h⟩:=ic h
   ·try simp only[h3,h4,h5,h6,C,E,F,G,H,J]
    refine ih h ?_;try simp only[h3,h4,h5,h6,C,E,F,G,H,J,pL,aM,zA]
   ·try simp only[h3,h4,h5,h6,C,E,F,G,H,J]
    cases h;exact t0
  ·try simp only[hσ,h3,Jh,Ml,C,E,F,G,H,J]
   cases h;exact t0
instance uy:Ct 204 (∀{a0} {a1} {r},NC a0 a1=N r→FC I 204 [.sc (.sl (Z X1.row a0)),.sc (.sl (Z X1.row a1))] [.sc (.v (.bool r))]):=by
 refine⟨fun{a0} {a1} {r} h=> ?_⟩;unfold NC at h;refine UI mixed PU [4] 26 ?_;simp only[PU,C,E,F,G,H,J];obtain⟨h1,h⟩|⟨h1,h⟩:=ic h
 ·try simp only[h1,C,E,F,G,H,J]
  cases h;exact t0
 ·try simp only[h1,C,E,F,G,H,J]
  refine rX h ?_;try simp only[h1,C,E,F,G,H,J,pL,aM,zA]
instance uI:Ct 178 (∀{a0} {a1} {r},K9 a0 a1=N r→FC I 178 [.ag (X0.row a0),.ag (X0.row a1)] [.sc (.v (.bool r))]):=by
 refine⟨fun h=> ?_⟩;unfold K9 at h;refine A2 mixed h0 [4] 31 ?_;exact gc
def R6:Hw:=([(8,[3,4,5,7,14,15,16],[3,4,5],[768])],[])
def Vt:=fun(a2:X0) (a0:X2) (a1:X4) (k_:U→(P U)→Q V)=>∀{v1 v2} {zr},k_ v1 v2=N zr→Kh I 135 R6 8 [3,4,5,7,14,15,16] [3,4,5] [768] ⟨[pB 3,pB 4,pB 5,pW 7 768,pL 14 X1.row a2.Passages,pI 15 (a2.Passages.length:U),pI 16 v1],[(3,(dm a0.row)),(4,(dm a1.row)),(5,(dm a2.row))],[(768,1,Z rI v2)]⟩ (A4 [6] [.sc (.v (.bool zr))])
theorem rY{a2 a0 a1}{n:W}:Vt a2 a0 a1 (FS a2 a0 a1 n):=by
 induction n with
 | zero=>intro _ _ r h; cases h
 | succ n ih=>
  intro v1 v2 r h σ hσ;rw[FS] at h;have s0:=fun(x4:X1)=> @Ap (Z rI ([x4.Segment]:P U))
  exact gc
instance tk:Ct 135 (∀{a0} {a1} {a2} {r},Hn a0 a1 a2=N r→FC I 135 [.ag (X2.row a0),.ag (X4.row a1),.ag (X0.row a2)] [.sc (.v (.bool r))]):=by
 refine⟨fun h=> ?_⟩;unfold Hn at h;refine A2 mixed R6 [6] 41 ?_;have s0:= @Ap (Z rI ([]:P U));have k0:= @rY;exact gc
def R7:Hw:=([(14,[2,3,20,21,22],[3],[])],[])
def Vu:=fun a2 a1 (a0:X2) (k_:U→Q V)=>∀{v4} {zr},k_ v4=N zr→Kh I 91 R7 14 [2,3,20,21,22] [3] [] ⟨[pL 2 X0.row a2,pB 3,pL 20 X4.row a1,pI 21 (a1.length:U),pI 22 v4],[(3,(dm a0.row))],[]⟩ (A4 [6] [.sc (.v (.bool zr))])
theorem rZ{a2 a1 a0}{n:W}:Vu a2 a1 a0 (FT a2 a1 a0 n):=by
 induction n with
 | zero=>intro _ r h; cases h
 | succ n ih=>
  intro v4 r h σ hσ;rw[FT] at h;exact gc
instance tl:Ct 91 (∀{a0} {a1} {a2} {r},Ho a0 a1 a2=N r→FC I 91 [.ag (X2.row a0),.sc (.sl (Z X4.row a1)),.sc (.sl (Z X0.row a2))] [.sc (.v (.bool r))]):=by
 refine⟨fun h=> ?_⟩;unfold Ho at h;refine A2 mixed R7 [6] 48 ?_;have k0:= @rZ;exact gc
def R8:Hw:=([(16,[1,3,7,16,17,18],[3],[960])],[])
def VF:=fun a1 a2 (a0:X2) (k_:U→(P (P X))→Q (P (P X)))=>∀{v3 v4} {zr},k_ v3 v4=N zr→Kh I 60 R8 16 [1,3,7,16,17,18] [3] [960] ⟨[pL 1 X4.row a1,pB 3,pW 7 960,pL 16 X0.row a2,pI 17 (a2.length:U),pI 18 v3],[(3,(dm a0.row))],[(960,1,Z rS v4)]⟩ (A4 [6] [.sc (.o 1 (Z rS zr))])
theorem ra{a1 a2 a0}{n:W}:VF a1 a2 a0 (Hu a1 a2 a0 n):=by
 induction n with
 | zero=>intro _ _ r h; cases h
 | succ n ih=>
  intro v3 v4 r h σ hσ;rw[Hu] at h;have s0:=fun(x8:X8) (x6:X0)=> @Ap (Z rA ([(⟨T,x8.Name,0⟩:Xm),(⟨T,([115,116,97,114,116]:P X),0⟩:Xm),(⟨L,[],x6.Start⟩:Xm),(⟨T,([97,114,114,105,118,101]:P X),0⟩:Xm),(⟨L,[],x6.Arrival⟩:Xm),(⟨T,([119,97,105,116]:P X),0⟩:Xm),(⟨L,[],x6.Cost⟩:Xm)]:P Xm))
  have s1:=fun(r9:(P X))=> @Ap (Z rS ([r9]:P (P X)))
  exact gc
instance nv:Ct 60 (∀{a0} {a1} {a2} {r},EO a0 a1 a2=N r→FC I 60 [.ag (X2.row a0),.sc (.sl (Z X4.row a1)),.sc (.sl (Z X0.row a2))] [.sc (.o 1 (Z rS r))]):=by
 refine⟨fun h=> ?_⟩;unfold EO at h;refine A2 mixed R8 [6] 53 ?_;have s0:= @Ap (Z rS ([]:P (P X)));have k0:= @ra;exact gc
theorem aq:AB I 28=N ((By I 28 h0).strip,[4],68):=by kernel_rfl
theorem nY{a0}{a1}{r}(h:Cb a0 a1=N r):FCy I 28 [.p,.d (.sc (.str a1))] [.int .i64 a0.Harbour.Forecast.Tide.Mean,.sl (Z zB a0.Harbour.Forecast.Tide.Parts),.sl (Z zC a0.Harbour.Forecast.Surges),.sl (Z zD a0.Harbour.Chart.Points),.sl (Z X6.row a0.Harbour.Chart.Segments),.sl (Z X8.row a0.Harbour.Fleet),.int .i64 a0.Harbour.Regime.Gap,.bool a0.Harbour.Regime.NoMeet,.int .i64 a0.Harbour.Crew.Tugs,.int .i64 a0.Harbour.Crew.Pilots,.int .i64 a0.Harbour.Crew.Rest,.sl (Z rI a0.Harbour.Crew.Moves),.sl (Z X4.row a0.Calls),.int .i64 a0.Desk.Now,.sl (Z rI a0.Desk.Starts),.sl (Z rB a0.Desk.Cleared)] [.int .i64 r.2.Harbour.Forecast.Tide.Mean,.sl (Z zB r.2.Harbour.Forecast.Tide.Parts),.sl (Z zC r.2.Harbour.Forecast.Surges),.sl (Z zD r.2.Harbour.Chart.Points),.sl (Z X6.row r.2.Harbour.Chart.Segments),.sl (Z X8.row r.2.Harbour.Fleet),.int .i64 r.2.Harbour.Regime.Gap,.bool r.2.Harbour.Regime.NoMeet,.int .i64 r.2.Harbour.Crew.Tugs,.int .i64 r.2.Harbour.Crew.Pilots,.int .i64 r.2.Harbour.Crew.Rest,.sl (Z rI r.2.Harbour.Crew.Moves),.sl (Z X4.row r.2.Calls),.int .i64 r.2.Desk.Now,.sl (Z rI r.2.Desk.Starts),.sl (Z rB r.2.Desk.Cleared)] [.sc (.v (.str r.1))]:=by
 unfold Cb at h;refine DC (σ:=⟨[(0,vc (.pb 99999999999 0)),(1,vc (aS a1))],[(99999999999,[aI a0.Harbour.Forecast.Tide.Mean,aL (Z zB a0.Harbour.Forecast.Tide.Parts),aL (Z zC a0.Harbour.Forecast.Surges),aL (Z zD a0.Harbour.Chart.Points),aL (Z X6.row a0.Harbour.Chart.Segments),aL (Z X8.row a0.Harbour.Fleet),aI a0.Harbour.Regime.Gap,aB a0.Harbour.Regime.NoMeet,aI a0.Harbour.Crew.Tugs,aI a0.Harbour.Crew.Pilots,aI a0.Harbour.Crew.Rest,aL (Z rI a0.Harbour.Crew.Moves),aL (Z X4.row a0.Calls),aI a0.Desk.Now,aL (Z rI a0.Desk.Starts),aL (Z rB a0.Desk.Cleared)])],[]⟩) mixed aq Y Y ?_;refine BG h0 ?_;intro S hS;refine ev hS ?_;obtain⟨h1,h⟩|⟨h1,h⟩:=ic h
 ·try simp only[h1,C,E,F,G,H,J]
  refine Af ?_;obtain⟨r2,h2,h⟩:=ob h;try simp only[h1,C,E,F,G,H,J]
  refine AR (A6 nP h2) ?_;obtain⟨r3,h3,h⟩:=ob h;try simp only[h1,C,E,F,G,H,J]
  refine AR (A6 IU h3) ?_;try simp only[h1,C,E,F,G,H,J]
  cases h;exact t0
 ·obtain⟨h4,h⟩|⟨h4,h⟩:=ic h
  ·try simp only[h1,h4,C,E,F,G,H,J]
   refine Af ?_;obtain⟨r5,h5,h⟩:=ob h;try simp only[h1,h4,C,E,F,G,H,J]
   refine AR (A6 nx h5) ?_;obtain⟨r6,h6,h⟩:=ob h;try simp only[h1,h4,C,E,F,G,H,J]
   refine AR (A6 IU h6) ?_;try simp only[h1,h4,C,E,F,G,H,J]
   cases h;exact t0
  ·obtain⟨h7,h⟩|⟨h7,h⟩:=ic h
   ·obtain⟨r9,h9,h⟩:=ob h;try simp only[h1,h4,h7,C,E,F,G,H,J]
    refine Ai (A6 nf h9) ?_;obtain⟨r10,h10,h⟩:=ob h;try simp only[h1,h4,h7,C,E,F,G,H,J]
    refine Ai (A6 IU h10) ?_;try simp only[h1,h4,h7,C,E,F,G,H,J]
    cases h;exact t0
   ·obtain⟨r11,h11,h⟩:=ob h;try simp only[h1,h4,h7,C,E,F,G,H,J]
    refine dP (nV h11) 99999999999 Y Y Y Y ?_;obtain⟨h12,h⟩|⟨h12,h⟩:=ic h
    ·obtain⟨h13,h⟩|⟨h13,h⟩:=ic h
     ·obtain⟨r14,h14,h⟩:=ob h;try simp only[h1,h4,h7,h12,h13,C,E,F,G,H,J]
      refine Db (A6 nd h14) Y (BN Y) Y (uf Y) ?_;obtain⟨r15,h15,h⟩:=ob h;try simp only[h1,h4,h7,h12,h13,C,E,F,G,H,J]
      refine Ai (A6 IU h15) ?_;try simp only[h1,h4,h7,h12,h13,C,E,F,G,H,J]
      cases h;exact t0
     ·try simp only[h1,h4,h7,h12,h13,C,E,F,G,H,J]
      refine Af ?_;obtain⟨r16,h16,h⟩:=ob h;try simp only[h1,h4,h7,h12,h13,C,E,F,G,H,J]
      refine DN (A6 nv h16) (by first | rfl | kernel_rfl) (D9 Y ⟨Da,⟨⟩⟩) Y (uf Y) ?_;obtain⟨r17,h17,h⟩:=ob h;try simp only[h1,h4,h7,h12,h13,C,E,F,G,H,J]
      refine DN (A6 OM h17) (by first | rfl | kernel_rfl) (BN Y) Y (uf Y) ?_;obtain⟨r18,h18,h⟩:=ob h;try simp only[h1,h4,h7,h12,h13,C,E,F,G,H,J]
      refine AR (A6 IU h18) ?_;try simp only[h1,h4,h7,h12,h13,C,E,F,G,H,J]
      cases h;exact t0
    ·try simp only[h1,h4,h7,h12,C,E,F,G,H,J]
     cases h;exact t0
def R9:Hw:=([(24,[3,13,14,15],[],[768])],[])
def Vn:=fun a0 (k_:U→(P (P X))→Q (P X))=>∀{v4 v5} {zr},k_ v4 v5=N zr→Kh I 94 R9 24 [3,13,14,15] [] [768] ⟨[pW 3 768,pL 13 X7.row a0,pI 14 (a0.length:U),pI 15 v4],[],[(768,1,Z rS v5)]⟩ (A4 [2] [.sc (.v (.str zr))])
theorem rc{a0}{n:W}:Vn a0 (JM a0 n):=by
 induction n with
 | zero=>intro _ _ r h; cases h
 | succ n ih=>
  intro v4 v5 r h σ hσ;rw[JM] at h;have s0:=fun(r9:(P X)) (r11:(P X))=> @Ap (Z rS ([((r9++([45]:P X))++r11)]:P (P X)))
  exact gc
instance tc:Ct 94 (∀{a0} {r},JL a0=N r→FC I 94 [.sc (.sl (Z X7.row a0))] [.sc (.v (.str r))]):=by
 refine⟨fun h=> ?_⟩;unfold JL at h;refine A2 mixed R9 [2] 33 ?_;have s0:= @Ap (Z rS ([]:P (P X)));have k0:= @rc;exact gc
def Ra:Hw:=([(16,[3,4,5,7,25,26,27],[3,4,5],[1472])],[])
def VT:=fun(a1:X5) (a0:Xh) (a2:X8) (k_:U→(P (P X))→Q (P (P X)))=>∀{v7 v8} {zr},k_ v7 v8=N zr→Kh I 61 Ra 16 [3,4,5,7,25,26,27] [3,4,5] [1472] ⟨[pB 3,pB 4,pB 5,pW 7 1472,pL 25 X6.row a1.Segments,pI 26 (a1.Segments.length:U),pI 27 v7],[(3,(dm a0.row)),(4,(dm a1.row)),(5,(dm a2.row))],[(1472,1,Z rS v8)]⟩ (A4 [6] [.sc (.o 1 (Z rS zr))])
theorem rd{a1 a0 a2}{n:W}:VT a1 a0 a2 (G6 a1 a0 a2 n):=by
 induction n with
 | zero=>intro _ _ r h; cases h
 | succ n ih=>
  intro v7 v8 r h σ hσ;rw[G6] at h;have s0:=fun(x11:Xd) (x13:Xd) (r16:(P X))=> @Ap (Z rA ([(⟨T,((x11.Name++([45]:P X))++x13.Name),0⟩:Xm),(⟨T,r16,0⟩:Xm)]:P Xm))
  have s1:=fun(r17:(P X))=> @Ap (Z rS ([r17]:P (P X)))
  exact gc
instance uP:Ct 61 (∀{a0} {a1} {a2} {r},G5 a0 a1 a2=N r→FC I 61 [.ag (Xh.row a0),.ag (X5.row a1),.ag (X8.row a2)] [.sc (.o 1 (Z rS r))]):=by
 refine⟨fun h=> ?_⟩;unfold G5 at h;refine A2 mixed Ra [6] 63 ?_;have s0:= @Ap (Z rS ([]:P (P X)));have k0:= @rd;exact gc
theorem ar:AB I 29=N ((By I 29 h0).strip,[4],36):=by kernel_rfl
theorem nb{a0}{a1}{r}(h:Hd a0 a1=N r):FCy I 29 [.p,.d (.sc (.str a1))] [.int .i64 a0.Harbour.Forecast.Tide.Mean,.sl (Z zB a0.Harbour.Forecast.Tide.Parts),.sl (Z zC a0.Harbour.Forecast.Surges),.sl (Z zD a0.Harbour.Chart.Points),.sl (Z X6.row a0.Harbour.Chart.Segments),.sl (Z X8.row a0.Harbour.Fleet),.int .i64 a0.Harbour.Regime.Gap,.bool a0.Harbour.Regime.NoMeet,.int .i64 a0.Harbour.Crew.Tugs,.int .i64 a0.Harbour.Crew.Pilots,.int .i64 a0.Harbour.Crew.Rest,.sl (Z rI a0.Harbour.Crew.Moves),.sl (Z X4.row a0.Calls),.int .i64 a0.Desk.Now,.sl (Z rI a0.Desk.Starts),.sl (Z rB a0.Desk.Cleared)] [.int .i64 r.2.Harbour.Forecast.Tide.Mean,.sl (Z zB r.2.Harbour.Forecast.Tide.Parts),.sl (Z zC r.2.Harbour.Forecast.Surges),.sl (Z zD r.2.Harbour.Chart.Points),.sl (Z X6.row r.2.Harbour.Chart.Segments),.sl (Z X8.row r.2.Harbour.Fleet),.int .i64 r.2.Harbour.Regime.Gap,.bool r.2.Harbour.Regime.NoMeet,.int .i64 r.2.Harbour.Crew.Tugs,.int .i64 r.2.Harbour.Crew.Pilots,.int .i64 r.2.Harbour.Crew.Rest,.sl (Z rI r.2.Harbour.Crew.Moves),.sl (Z X4.row r.2.Calls),.int .i64 r.2.Desk.Now,.sl (Z rI r.2.Desk.Starts),.sl (Z rB r.2.Desk.Cleared)] [.sc (.v (.str r.1))]:=by
 unfold Hd at h;refine DC (σ:=⟨[(0,vc (.pb 99999999999 0)),(1,vc (aS a1))],[(99999999999,[aI a0.Harbour.Forecast.Tide.Mean,aL (Z zB a0.Harbour.Forecast.Tide.Parts),aL (Z zC a0.Harbour.Forecast.Surges),aL (Z zD a0.Harbour.Chart.Points),aL (Z X6.row a0.Harbour.Chart.Segments),aL (Z X8.row a0.Harbour.Fleet),aI a0.Harbour.Regime.Gap,aB a0.Harbour.Regime.NoMeet,aI a0.Harbour.Crew.Tugs,aI a0.Harbour.Crew.Pilots,aI a0.Harbour.Crew.Rest,aL (Z rI a0.Harbour.Crew.Moves),aL (Z X4.row a0.Calls),aI a0.Desk.Now,aL (Z rI a0.Desk.Starts),aL (Z rB a0.Desk.Cleared)])],[]⟩) mixed ar Y Y ?_;refine BG h0 ?_;exact gc
def NV:Hw:=([(22,[0,7,11,37,38,39],[99999999999,7],[2112,2368])],[])
def V4:=fun r5 (a0:X9) (k_:U→(P (P X))→Q ((P X) × X9))=>∀{v6 v7} {zr},k_ v6 v7=N zr→Kh I 31 NV 22 [0,7,11,37,38,39] [99999999999,7] [2112,2368] ⟨[(0,vc (.pb 99999999999 0)),pB 7,pW 11 2112,pW 37 2368,pI 38 (r5.length:U),pI 39 v6],[(99999999999,(dm a0.row)),(7,(dm a0.Harbour.Chart.row))],[(2112,1,Z rS v7),(2368,1,Z rI r5)]⟩ (D2 [6] [.sc (.v (.str zr.1))] [.int .i64 zr.2.Harbour.Forecast.Tide.Mean,.sl (Z zB zr.2.Harbour.Forecast.Tide.Parts),.sl (Z zC zr.2.Harbour.Forecast.Surges),.sl (Z zD zr.2.Harbour.Chart.Points),.sl (Z X6.row zr.2.Harbour.Chart.Segments),.sl (Z X8.row zr.2.Harbour.Fleet),.int .i64 zr.2.Harbour.Regime.Gap,.bool zr.2.Harbour.Regime.NoMeet,.int .i64 zr.2.Harbour.Crew.Tugs,.int .i64 zr.2.Harbour.Crew.Pilots,.int .i64 zr.2.Harbour.Crew.Rest,.sl (Z rI zr.2.Harbour.Crew.Moves),.sl (Z X4.row zr.2.Calls),.int .i64 zr.2.Desk.Now,.sl (Z rI zr.2.Desk.Starts),.sl (Z rB zr.2.Desk.Cleared)])
theorem re{r5 a0}{n:W}:V4 r5 a0 (Jz r5 a0 n):=by
 induction n with
 | zero=>intro _ _ r h; cases h
 | succ n ih=>
  intro v6 v7 r h σ hσ S hS;refine ev hS ?_;rw[Jz] at h;refine AF (An ?_);obtain⟨h8,h⟩|⟨h8,h⟩:=ic h
  ·obtain⟨x9,h9,h⟩:=ob h;have h9n:=Ah h9;obtain⟨x10,h10,h⟩:=ob h;try simp only[hσ,h8,h9,h9n,h10,C,E,F,G,H,J]
   refine AP (es:=Z rS ([x10.Name]:P (P X))) ?_;obtain⟨h11,h⟩:=Az h;try simp only[h8,h9,h9n,h10,h11,C,E,F,G,H,J]
   refine ih h ?_ (by kernel_rfl);try simp only[h8,h9,h9n,h10,h11,C,E,F,G,H,J,pL,aM,zA]
  ·obtain⟨r12,h12,h⟩:=ob h;try simp only[hσ,h8,C,E,F,G,H,J]
   refine Db (A6 OM h12) Y (BN Y) Y (uf Y) ?_;try simp only[h8,C,E,F,G,H,J]
   cases h;exact t0
theorem as_:AB I 31=N ((By I 31 NV).strip,[6],55):=by kernel_rfl
theorem nZ{a0}{a1}{a2}{r}(h:Hb a0 a1 a2=N r):FCy I 31 [.p,.d (.sc (.str a1)),.d (.sc (.str a2))] [.int .i64 a0.Harbour.Forecast.Tide.Mean,.sl (Z zB a0.Harbour.Forecast.Tide.Parts),.sl (Z zC a0.Harbour.Forecast.Surges),.sl (Z zD a0.Harbour.Chart.Points),.sl (Z X6.row a0.Harbour.Chart.Segments),.sl (Z X8.row a0.Harbour.Fleet),.int .i64 a0.Harbour.Regime.Gap,.bool a0.Harbour.Regime.NoMeet,.int .i64 a0.Harbour.Crew.Tugs,.int .i64 a0.Harbour.Crew.Pilots,.int .i64 a0.Harbour.Crew.Rest,.sl (Z rI a0.Harbour.Crew.Moves),.sl (Z X4.row a0.Calls),.int .i64 a0.Desk.Now,.sl (Z rI a0.Desk.Starts),.sl (Z rB a0.Desk.Cleared)] [.int .i64 r.2.Harbour.Forecast.Tide.Mean,.sl (Z zB r.2.Harbour.Forecast.Tide.Parts),.sl (Z zC r.2.Harbour.Forecast.Surges),.sl (Z zD r.2.Harbour.Chart.Points),.sl (Z X6.row r.2.Harbour.Chart.Segments),.sl (Z X8.row r.2.Harbour.Fleet),.int .i64 r.2.Harbour.Regime.Gap,.bool r.2.Harbour.Regime.NoMeet,.int .i64 r.2.Harbour.Crew.Tugs,.int .i64 r.2.Harbour.Crew.Pilots,.int .i64 r.2.Harbour.Crew.Rest,.sl (Z rI r.2.Harbour.Crew.Moves),.sl (Z X4.row r.2.Calls),.int .i64 r.2.Desk.Now,.sl (Z rI r.2.Desk.Starts),.sl (Z rB r.2.Desk.Cleared)] [.sc (.v (.str r.1))]:=by
 unfold Hb at h;refine DC (σ:=⟨[(0,vc (.pb 99999999999 0)),(1,vc (aS a1)),(2,vc (aS a2))],[(99999999999,[aI a0.Harbour.Forecast.Tide.Mean,aL (Z zB a0.Harbour.Forecast.Tide.Parts),aL (Z zC a0.Harbour.Forecast.Surges),aL (Z zD a0.Harbour.Chart.Points),aL (Z X6.row a0.Harbour.Chart.Segments),aL (Z X8.row a0.Harbour.Fleet),aI a0.Harbour.Regime.Gap,aB a0.Harbour.Regime.NoMeet,aI a0.Harbour.Crew.Tugs,aI a0.Harbour.Crew.Pilots,aI a0.Harbour.Crew.Rest,aL (Z rI a0.Harbour.Crew.Moves),aL (Z X4.row a0.Calls),aI a0.Desk.Now,aL (Z rI a0.Desk.Starts),aL (Z rB a0.Desk.Cleared)])],[]⟩) mixed as_ Y Y ?_;refine BG NV ?_;have s0:= @Ap (Z rS ([]:P (P X)));have k0:= @re;exact gc
def UA:P (P W × AItem):= [([],(O,.mv 119 (S 0))),([],(O,.mv 120 (S 5))),([1],(O,.iaddr 121 (S 120) (K 1) 1)),([2],(O,.load 122 (S 121) L 1)),([],(O,.mv 123 (S 5))),([4],(O,.iaddr 124 (S 123) (K 2) 1)),([5],(O,.load 125 (S 124) L 1)),([0,3,6],(O,.call 126 31 [(S 119),(S 122),(S 125)])),([7,7,0,1,2,3,4,5,6,7],(O,.mv 4 (S 126)))]
def DO:Hw:=([(18,[0,1,5,10,11],[99999999999],[448]),(36,[0,5,10,19],[99999999999],[448]),(60,[0,5,32],[99999999999],[448]),(69,[0,5,40],[99999999999],[448]),(75,[0,5,79],[99999999999],[448]),(81,[0,5,94],[99999999999],[448]),(87,[0,5,109],[99999999999],[448])],[(20,3,(O,.frz 448)),(38,2,(O,.frz 448)),(44,2,(O,.frz 448))])
abbrev Fc(x46 x47:P X)(r48:(P X) × X9)(c0_ c1_:V)(c2_ c3_:V)(c4_ c5_:V)(c6_ c7_ c8_:V)(bx_:P (W × P AC))(rs_:Rows):St:=⟨[(0,vc (.pb 99999999999 0)),(5,vc (.own 448)),(119,bif c0_ then vc (.pb 99999999999 0) else .undef),(120,bif c1_ then vc (.own 448) else .undef),(121,bif c2_ then vc (.pe 448 (Int.toNat (1:U)) 0) else .undef),(122,bif c3_ then vc (aS x46) else .undef),(123,bif c4_ then vc (.own 448) else .undef),(124,bif c5_ then vc (.pe 448 (Int.toNat (2:U)) 0) else .undef),(125,bif c6_ then vc (aS x47) else .undef),(126,bif c7_ then vc (aS r48.1) else .undef),(4,bif c8_ then vc (aS r48.1) else .undef)],bx_,rs_⟩
abbrev LM(r1:(P (P X)))(x46 x47:P X)(r48:(P X) × X9):St:=(Fc x46 x47 r48 T T T T T T T T T [(99999999999,(dm r48.2.row))] [(448,1,Z rS r1)])
theorem rf(a0 r1 x46 x47 r48)(h46:ix r1 (1:U)=N x46)(h47:ix r1 (2:U)=N x47)(h48:Hb a0 x46 x47=N r48):∀(f:W) (b1 b2:V) (b4 b5 b8:V),Am I UA (LM r1 x46 x47 r48) f [T,b1,b2,T,b4,b5,T,T,b8] (Fc x46 x47 r48 T b1 b2 T b4 b5 T T b8 [(99999999999,(dm r48.2.row))] [(448,1,Z rS r1)]):=by
 intro f;have h46n:=Ah h46;have h47n:=Ah h47
 induction f with
 | zero=>
  intro b1 b2 b4 b5 b8 h;obtain rfl:b1=T:=zG.1 h b1 (by simp);obtain rfl:b2=T:=zG.1 h b2 (by simp);obtain rfl:b4=T:=zG.1 h b4 (by simp);obtain rfl:b5=T:=zG.1 h b5 (by simp);obtain rfl:b8=T:=zG.1 h b8 (by simp);rfl
 | succ f ih=>
  intro b1 b2 b4 b5 b8;refine Aw ⟨?_,?_,?_,?_,?_,?_,?_,?_,?_,⟨⟩⟩<;>try first | (intro h; cases h; done) | (intro h0 hw; obtain rfl:=hz h0 rfl; (try obtain rfl:=hq hw 1 rfl rfl); (try obtain rfl:=hq hw 2 rfl rfl); (try obtain rfl:=hq hw 4 rfl rfl); (try obtain rfl:=hq hw 5 rfl rfl); refine np ?_; simp only[h46,h46n,h47,h47n,Fc,Ab,Ac,A5,C,E,F,G,H,J]; exact ih _ _ _ _ _)
theorem rg(a0 r1 x46 x47 r48)(h46:ix r1 (1:U)=N x46)(h47:ix r1 (2:U)=N x47)(h48:Hb a0 x46 x47=N r48):∀(f:W) (b0 b1:V) (b2 b3:V) (b4 b5 b6:V),Am I UA (LM r1 x46 x47 r48) f [b0,b1,b2,b3,b4,b5,b6,L,L] (Fc x46 x47 r48 b0 b1 b2 b3 b4 b5 b6 L L [(99999999999,(dm a0.row))] [(448,1,Z rS r1)]):=by
 intro f;have h46n:=Ah h46;have h47n:=Ah h47
 induction f with
 | zero=>intro b0 b1 b2 b3 b4 b5 b6 h; simp at h
 | succ f ih=>
  intro b0 b1 b2 b3 b4 b5 b6;refine Aw ⟨?_,?_,?_,?_,?_,?_,?_,?_,?_,⟨⟩⟩<;>try first | (intro _ hw; simp at hw; done) | (intro h0 hw; obtain rfl:=hz h0 rfl; (try obtain rfl:=hq hw 1 rfl rfl); (try obtain rfl:=hq hw 2 rfl rfl); (try obtain rfl:=hq hw 4 rfl rfl); (try obtain rfl:=hq hw 5 rfl rfl); refine np ?_; simp only[h46,h46n,h47,h47n,Fc,Ab,Ac,A5,C,E,F,G,H,J]; exact ih _ _ _ _ _ _ _)
  ·intro h0 hw;obtain rfl:=hq hw 0 rfl rfl;obtain rfl:=hq hw 3 rfl rfl;obtain rfl:=hq hw 6 rfl rfl;refine np ?_;try simp only[Fc,Ab,Ac,A5,C,E,F,G,H,J]
   refine BH (nZ h48) 99999999999 ?_;try simp only[A5,C,E,F,G,H,J]
   exact rf a0 r1 x46 x47 r48 h46 h47 h48 _ b1 b2 b4 b5 L
def Vb:=fun(a0:X9) r1 (k_:V→Q ((P X) × X9))=>∀{v44} {zr},k_ v44=N zr→Kh I 18 DO 87 [0,5,109] [99999999999] [448] ⟨[(0,vc (.pb 99999999999 0)),pW 5 448,(109,vc (aB v44))],[(99999999999,(dm a0.row))],[(448,1,Z rS r1)]⟩ (D2 [4] [.sc (.v (.str zr.1))] [.int .i64 zr.2.Harbour.Forecast.Tide.Mean,.sl (Z zB zr.2.Harbour.Forecast.Tide.Parts),.sl (Z zC zr.2.Harbour.Forecast.Surges),.sl (Z zD zr.2.Harbour.Chart.Points),.sl (Z X6.row zr.2.Harbour.Chart.Segments),.sl (Z X8.row zr.2.Harbour.Fleet),.int .i64 zr.2.Harbour.Regime.Gap,.bool zr.2.Harbour.Regime.NoMeet,.int .i64 zr.2.Harbour.Crew.Tugs,.int .i64 zr.2.Harbour.Crew.Pilots,.int .i64 zr.2.Harbour.Crew.Rest,.sl (Z rI zr.2.Harbour.Crew.Moves),.sl (Z X4.row zr.2.Calls),.int .i64 zr.2.Desk.Now,.sl (Z rI zr.2.Desk.Starts),.sl (Z rB zr.2.Desk.Cleared)])
def Va:=fun(a0:X9) r1 (k_:V→Q ((P X) × X9))=>∀{v39} {zr},k_ v39=N zr→Kh I 18 DO 81 [0,5,94] [99999999999] [448] ⟨[(0,vc (.pb 99999999999 0)),pW 5 448,(94,vc (aB v39))],[(99999999999,(dm a0.row))],[(448,1,Z rS r1)]⟩ (D2 [4] [.sc (.v (.str zr.1))] [.int .i64 zr.2.Harbour.Forecast.Tide.Mean,.sl (Z zB zr.2.Harbour.Forecast.Tide.Parts),.sl (Z zC zr.2.Harbour.Forecast.Surges),.sl (Z zD zr.2.Harbour.Chart.Points),.sl (Z X6.row zr.2.Harbour.Chart.Segments),.sl (Z X8.row zr.2.Harbour.Fleet),.int .i64 zr.2.Harbour.Regime.Gap,.bool zr.2.Harbour.Regime.NoMeet,.int .i64 zr.2.Harbour.Crew.Tugs,.int .i64 zr.2.Harbour.Crew.Pilots,.int .i64 zr.2.Harbour.Crew.Rest,.sl (Z rI zr.2.Harbour.Crew.Moves),.sl (Z X4.row zr.2.Calls),.int .i64 zr.2.Desk.Now,.sl (Z rI zr.2.Desk.Starts),.sl (Z rB zr.2.Desk.Cleared)])
def V9:=fun(a0:X9) r1 (k_:V→Q ((P X) × X9))=>∀{v33} {zr},k_ v33=N zr→Kh I 18 DO 75 [0,5,79] [99999999999] [448] ⟨[(0,vc (.pb 99999999999 0)),pW 5 448,(79,vc (aB v33))],[(99999999999,(dm a0.row))],[(448,1,Z rS r1)]⟩ (D2 [4] [.sc (.v (.str zr.1))] [.int .i64 zr.2.Harbour.Forecast.Tide.Mean,.sl (Z zB zr.2.Harbour.Forecast.Tide.Parts),.sl (Z zC zr.2.Harbour.Forecast.Surges),.sl (Z zD zr.2.Harbour.Chart.Points),.sl (Z X6.row zr.2.Harbour.Chart.Segments),.sl (Z X8.row zr.2.Harbour.Fleet),.int .i64 zr.2.Harbour.Regime.Gap,.bool zr.2.Harbour.Regime.NoMeet,.int .i64 zr.2.Harbour.Crew.Tugs,.int .i64 zr.2.Harbour.Crew.Pilots,.int .i64 zr.2.Harbour.Crew.Rest,.sl (Z rI zr.2.Harbour.Crew.Moves),.sl (Z X4.row zr.2.Calls),.int .i64 zr.2.Desk.Now,.sl (Z rI zr.2.Desk.Starts),.sl (Z rB zr.2.Desk.Cleared)])
def V8:=fun(a0:X9) r1 (k_:V→Q ((P X) × X9))=>∀{v27} {zr},k_ v27=N zr→Kh I 18 DO 69 [0,5,40] [99999999999] [448] ⟨[(0,vc (.pb 99999999999 0)),pW 5 448,(40,vc (aB v27))],[(99999999999,(dm a0.row))],[(448,1,Z rS r1)]⟩ (D2 [4] [.sc (.v (.str zr.1))] [.int .i64 zr.2.Harbour.Forecast.Tide.Mean,.sl (Z zB zr.2.Harbour.Forecast.Tide.Parts),.sl (Z zC zr.2.Harbour.Forecast.Surges),.sl (Z zD zr.2.Harbour.Chart.Points),.sl (Z X6.row zr.2.Harbour.Chart.Segments),.sl (Z X8.row zr.2.Harbour.Fleet),.int .i64 zr.2.Harbour.Regime.Gap,.bool zr.2.Harbour.Regime.NoMeet,.int .i64 zr.2.Harbour.Crew.Tugs,.int .i64 zr.2.Harbour.Crew.Pilots,.int .i64 zr.2.Harbour.Crew.Rest,.sl (Z rI zr.2.Harbour.Crew.Moves),.sl (Z X4.row zr.2.Calls),.int .i64 zr.2.Desk.Now,.sl (Z rI zr.2.Desk.Starts),.sl (Z rB zr.2.Desk.Cleared)])
def V7:=fun(a0:X9) r1 (k_:V→Q ((P X) × X9))=>∀{v19} {zr},k_ v19=N zr→Kh I 18 DO 60 [0,5,32] [99999999999] [448] ⟨[(0,vc (.pb 99999999999 0)),pW 5 448,(32,vc (aB v19))],[(99999999999,(dm a0.row))],[(448,1,Z rS r1)]⟩ (D2 [4] [.sc (.v (.str zr.1))] [.int .i64 zr.2.Harbour.Forecast.Tide.Mean,.sl (Z zB zr.2.Harbour.Forecast.Tide.Parts),.sl (Z zC zr.2.Harbour.Forecast.Surges),.sl (Z zD zr.2.Harbour.Chart.Points),.sl (Z X6.row zr.2.Harbour.Chart.Segments),.sl (Z X8.row zr.2.Harbour.Fleet),.int .i64 zr.2.Harbour.Regime.Gap,.bool zr.2.Harbour.Regime.NoMeet,.int .i64 zr.2.Harbour.Crew.Tugs,.int .i64 zr.2.Harbour.Crew.Pilots,.int .i64 zr.2.Harbour.Crew.Rest,.sl (Z rI zr.2.Harbour.Crew.Moves),.sl (Z X4.row zr.2.Calls),.int .i64 zr.2.Desk.Now,.sl (Z rI zr.2.Desk.Starts),.sl (Z rB zr.2.Desk.Cleared)])
def V6:=fun x2 (a0:X9) r1 (k_:V→Q ((P X) × X9))=>∀{v11} {zr},k_ v11=N zr→Kh I 18 DO 36 [0,5,10,19] [99999999999] [448] ⟨[(0,vc (.pb 99999999999 0)),pW 5 448,(10,vc (aS x2)),(19,vc (aB v11))],[(99999999999,(dm a0.row))],[(448,1,Z rS r1)]⟩ (D2 [4] [.sc (.v (.str zr.1))] [.int .i64 zr.2.Harbour.Forecast.Tide.Mean,.sl (Z zB zr.2.Harbour.Forecast.Tide.Parts),.sl (Z zC zr.2.Harbour.Forecast.Surges),.sl (Z zD zr.2.Harbour.Chart.Points),.sl (Z X6.row zr.2.Harbour.Chart.Segments),.sl (Z X8.row zr.2.Harbour.Fleet),.int .i64 zr.2.Harbour.Regime.Gap,.bool zr.2.Harbour.Regime.NoMeet,.int .i64 zr.2.Harbour.Crew.Tugs,.int .i64 zr.2.Harbour.Crew.Pilots,.int .i64 zr.2.Harbour.Crew.Rest,.sl (Z rI zr.2.Harbour.Crew.Moves),.sl (Z X4.row zr.2.Calls),.int .i64 zr.2.Desk.Now,.sl (Z rI zr.2.Desk.Starts),.sl (Z rB zr.2.Desk.Cleared)])
def V5:=fun a1 x2 (a0:X9) r1 (k_:V→Q ((P X) × X9))=>∀{v5} {zr},k_ v5=N zr→Kh I 18 DO 18 [0,1,5,10,11] [99999999999] [448] ⟨[(0,vc (.pb 99999999999 0)),(1,vc (aS a1)),pW 5 448,(10,vc (aS x2)),(11,vc (aB v5))],[(99999999999,(dm a0.row))],[(448,1,Z rS r1)]⟩ (D2 [4] [.sc (.v (.str zr.1))] [.int .i64 zr.2.Harbour.Forecast.Tide.Mean,.sl (Z zB zr.2.Harbour.Forecast.Tide.Parts),.sl (Z zC zr.2.Harbour.Forecast.Surges),.sl (Z zD zr.2.Harbour.Chart.Points),.sl (Z X6.row zr.2.Harbour.Chart.Segments),.sl (Z X8.row zr.2.Harbour.Fleet),.int .i64 zr.2.Harbour.Regime.Gap,.bool zr.2.Harbour.Regime.NoMeet,.int .i64 zr.2.Harbour.Crew.Tugs,.int .i64 zr.2.Harbour.Crew.Pilots,.int .i64 zr.2.Harbour.Crew.Rest,.sl (Z rI zr.2.Harbour.Crew.Moves),.sl (Z X4.row zr.2.Calls),.int .i64 zr.2.Desk.Now,.sl (Z rI zr.2.Desk.Starts),.sl (Z rB zr.2.Desk.Cleared)])
theorem Up{a0 r1}:Vb a0 r1 (JC a0 r1):=by
 intro v44 r h σ hσ S hS;refine ev hS ?_;refine An ?_;unfold JC at h;obtain⟨h45,h⟩|⟨h45,h⟩:=ic h
 ·try simp only[hσ,h45,C,E,F,G,H,J]
  obtain⟨x46,h46,h⟩:=ob h;obtain⟨x47,h47,h⟩:=ob h;obtain⟨r48,h48,h⟩:=ob h;have h46n:=Ah h46;have h47n:=Ah h47;refine DM (ks:= [0,5]) (bs:= [99999999999]) (rs:= [448]) (τ:=(LM r1 x46 x47 r48)) Y (rg a0 r1 x46 x47 r48 h46 h47 h48 _ L L L L L L L) ?_;simp only[LM,Fc,Ab];try simp only[h45,h46,h46n,h47,h47n,C,E,F,G,H,J]
  cases h;exact t0
 ·try simp only[hσ,h45,C,E,F,G,H,J]
  cases h;exact t0
theorem Uq{a0 r1}:Va a0 r1 (JB a0 r1):=by
 intro v39 r h σ hσ S hS;refine ev hS ?_;refine An ?_;unfold JB at h;obtain⟨h40,h⟩|⟨h40,h⟩:=ic h
 ·obtain⟨x41,h41,h⟩:=ob h;cases h
 ·obtain⟨h42,h⟩|⟨h42,h⟩:=ic h
  ·obtain⟨x43,h43,h⟩:=ob h;have h43n:=Ah h43;try simp only[hσ,h40,h42,h43,h43n,C,E,F,G,H,J]
   refine Up h ?_ (by kernel_rfl);try simp only[h40,h42,h43,h43n,C,E,F,G,H,J,pL,aM,zA]
  ·try simp only[hσ,h40,h42,C,E,F,G,H,J]
   refine Up h ?_ (by kernel_rfl);try simp only[h40,h42,C,E,F,G,H,J,pL,aM,zA]
theorem Ur{a0 r1}:V9 a0 r1 (JA a0 r1):=by
 intro v33 r h σ hσ S hS;refine ev hS ?_;refine An ?_;unfold JA at h;obtain⟨h34,h⟩|⟨h34,h⟩:=ic h
 ·obtain⟨x35,h35,h⟩:=ob h;have h35n:=Ah h35;obtain⟨r36,h36,h⟩:=ob h;try simp only[hσ,h34,h35,h35n,C,E,F,G,H,J]
  refine BH (nb h36) 99999999999 ?_;try simp only[h34,h35,h35n,C,E,F,G,H,J]
  cases h;exact t0
 ·obtain⟨h37,h⟩|⟨h37,h⟩:=ic h
  ·obtain⟨x38,h38,h⟩:=ob h;have h38n:=Ah h38;try simp only[hσ,h34,h37,h38,h38n,C,E,F,G,H,J]
   refine Uq h ?_ (by kernel_rfl);try simp only[h34,h37,h38,h38n,C,E,F,G,H,J,pL,aM,zA]
  ·try simp only[hσ,h34,h37,C,E,F,G,H,J]
   refine Uq h ?_ (by kernel_rfl);try simp only[h34,h37,C,E,F,G,H,J,pL,aM,zA]
theorem GK{a0 r1}:V8 a0 r1 (E7 a0 r1):=by
 intro v27 r h σ hσ S hS;refine ev hS ?_;refine An ?_;unfold E7 at h;obtain⟨h28,h⟩|⟨h28,h⟩:=ic h
 ·obtain⟨x29,h29,h⟩:=ob h;have h29n:=Ah h29;obtain⟨r30,h30,h⟩:=ob h;try simp only[hσ,h28,h29,h29n,C,E,F,G,H,J]
  refine BH (nY h30) 99999999999 ?_;try simp only[h28,h29,h29n,C,E,F,G,H,J]
  cases h;exact t0
 ·obtain⟨h31,h⟩|⟨h31,h⟩:=ic h
  ·obtain⟨x32,h32,h⟩:=ob h;have h32n:=Ah h32;try simp only[hσ,h28,h31,h32,h32n,C,E,F,G,H,J]
   refine Ur h ?_ (by kernel_rfl);try simp only[h28,h31,h32,h32n,C,E,F,G,H,J,pL,aM,zA]
  ·try simp only[hσ,h28,h31,C,E,F,G,H,J]
   refine Ur h ?_ (by kernel_rfl);try simp only[h28,h31,C,E,F,G,H,J,pL,aM,zA]
theorem LS{a0 r1}:V7 a0 r1 (FN a0 r1):=by
 intro v19 r h σ hσ S hS;refine ev hS ?_;refine An ?_;unfold FN at h;obtain⟨h20,h⟩|⟨h20,h⟩:=ic h
 ·cases h
 ·obtain⟨h21,h⟩|⟨h21,h⟩:=ic h
  ·obtain⟨x22,h22,h⟩:=ob h;have h22n:=Ah h22;obtain⟨h23,h⟩|⟨h23,h⟩:=ic h
   ·try simp only[hσ,h20,h21,h22,h22n,h23,C,E,F,G,H,J]
    refine GK h ?_ (by kernel_rfl);try simp only[h20,h21,h22,h22n,h23,C,E,F,G,H,J,pL,aM,zA]
   ·obtain⟨h24,h⟩|⟨h24,h⟩:=ic h
    ·try simp only[hσ,h20,h21,h22,h22n,h23,h24,C,E,F,G,H,J]
     refine GK h ?_ (by kernel_rfl);try simp only[h20,h21,h22,h22n,h23,h24,C,E,F,G,H,J,pL,aM,zA]
    ·obtain⟨h25,h⟩|⟨h25,h⟩:=ic h
     ·try simp only[hσ,h20,h21,h22,h22n,h23,h24,h25,C,E,F,G,H,J]
      refine GK h ?_ (by kernel_rfl);try simp only[h20,h21,h22,h22n,h23,h24,h25,C,E,F,G,H,J,pL,aM,zA]
     ·obtain⟨h26,h⟩|⟨h26,h⟩:=ic h
      ·try simp only[hσ,h20,h21,h22,h22n,h23,h24,h25,h26,C,E,F,G,H,J]
       refine GK h ?_ (by kernel_rfl);try simp only[h20,h21,h22,h22n,h23,h24,h25,h26,C,E,F,G,H,J,pL,aM,zA]
      ·try simp only[hσ,h20,h21,h22,h22n,h23,h24,h25,h26,C,E,F,G,H,J]
       refine GK h ?_ (by kernel_rfl);try simp only[h20,h21,h22,h22n,h23,h24,h25,h26,C,E,F,G,H,J,pL,aM,zA]
  ·try simp only[hσ,h20,h21,C,E,F,G,H,J]
   refine GK h ?_ (by kernel_rfl);try simp only[h20,h21,C,E,F,G,H,J,pL,aM,zA]
theorem LU{x2 a0 r1}:V6 x2 a0 r1 (FM x2 a0 r1):=by
 intro v11 r h σ hσ S hS;refine ev hS ?_;refine An ?_;unfold FM at h;obtain⟨h12,h⟩|⟨h12,h⟩:=ic h
 ·try simp only[hσ,h12,C,E,F,G,H,J]
  refine Ad ?_;obtain⟨r13,h13,h⟩:=ob h;try simp only[h12,C,E,F,G,H,J]
  refine BH (nc h13) 99999999999 ?_;try simp only[h12,C,E,F,G,H,J]
  cases h;exact t0
 ·obtain⟨h14,h⟩|⟨h14,h⟩:=ic h
  ·try simp only[hσ,h12,h14,C,E,F,G,H,J]
   refine Ad ?_;obtain⟨r15,h15,h⟩:=ob h;try simp only[h12,h14,C,E,F,G,H,J]
   refine BH (nW h15) 99999999999 ?_;try simp only[h12,h14,C,E,F,G,H,J]
   cases h;exact t0
  ·obtain⟨h16,h⟩|⟨h16,h⟩:=ic h
   ·try simp only[hσ,h12,h14,h16,C,E,F,G,H,J]
    refine LS h ?_ (by kernel_rfl);try simp only[h12,h14,h16,C,E,F,G,H,J,pL,aM,zA]
   ·obtain⟨h17,h⟩|⟨h17,h⟩:=ic h
    ·try simp only[hσ,h12,h14,h16,h17,C,E,F,G,H,J]
     refine LS h ?_ (by kernel_rfl);try simp only[h12,h14,h16,h17,C,E,F,G,H,J,pL,aM,zA]
    ·obtain⟨h18,h⟩|⟨h18,h⟩:=ic h
     ·try simp only[hσ,h12,h14,h16,h17,h18,C,E,F,G,H,J]
      refine LS h ?_ (by kernel_rfl);try simp only[h12,h14,h16,h17,h18,C,E,F,G,H,J,pL,aM,zA]
     ·try simp only[hσ,h12,h14,h16,h17,h18,C,E,F,G,H,J]
      refine LS h ?_ (by kernel_rfl);try simp only[h12,h14,h16,h17,h18,C,E,F,G,H,J,pL,aM,zA]
theorem OW{a1 x2 a0 r1}:V5 a1 x2 a0 r1 (Hc a1 x2 a0 r1):=by
 intro v5 r h σ hσ S hS;refine ev hS ?_;refine An ?_;unfold Hc at h;obtain⟨h6,h⟩|⟨h6,h⟩:=ic h
 ·try simp only[hσ,h6,C,E,F,G,H,J]
  refine Ad ?_;obtain⟨r7,h7,h⟩:=ob h;try simp only[h6,C,E,F,G,H,J]
  refine BH (nX h7) 99999999999 ?_;try simp only[h6,C,E,F,G,H,J]
  cases h;exact t0
 ·obtain⟨h8,h⟩|⟨h8,h⟩:=ic h
  ·try simp only[hσ,h6,h8,C,E,F,G,H,J]
   refine LU h ?_ (by kernel_rfl);try simp only[h6,h8,C,E,F,G,H,J,pL,aM,zA]
  ·obtain⟨h9,h⟩|⟨h9,h⟩:=ic h
   ·try simp only[hσ,h6,h8,h9,C,E,F,G,H,J]
    refine LU h ?_ (by kernel_rfl);try simp only[h6,h8,h9,C,E,F,G,H,J,pL,aM,zA]
   ·obtain⟨h10,h⟩|⟨h10,h⟩:=ic h
    ·try simp only[hσ,h6,h8,h9,h10,C,E,F,G,H,J]
     refine LU h ?_ (by kernel_rfl);try simp only[h6,h8,h9,h10,C,E,F,G,H,J,pL,aM,zA]
    ·try simp only[hσ,h6,h8,h9,h10,C,E,F,G,H,J]
     refine LU h ?_ (by kernel_rfl);try simp only[h6,h8,h9,h10,C,E,F,G,H,J,pL,aM,zA]
theorem au:AB I 18=N ((By I 18 DO).strip,[4],127):=by kernel_rfl
theorem na{a0}{a1}{r}(h:MI a0 a1=N r):FCy I 18 [.p,.d (.sc (.str a1))] [.int .i64 a0.Harbour.Forecast.Tide.Mean,.sl (Z zB a0.Harbour.Forecast.Tide.Parts),.sl (Z zC a0.Harbour.Forecast.Surges),.sl (Z zD a0.Harbour.Chart.Points),.sl (Z X6.row a0.Harbour.Chart.Segments),.sl (Z X8.row a0.Harbour.Fleet),.int .i64 a0.Harbour.Regime.Gap,.bool a0.Harbour.Regime.NoMeet,.int .i64 a0.Harbour.Crew.Tugs,.int .i64 a0.Harbour.Crew.Pilots,.int .i64 a0.Harbour.Crew.Rest,.sl (Z rI a0.Harbour.Crew.Moves),.sl (Z X4.row a0.Calls),.int .i64 a0.Desk.Now,.sl (Z rI a0.Desk.Starts),.sl (Z rB a0.Desk.Cleared)] [.int .i64 r.2.Harbour.Forecast.Tide.Mean,.sl (Z zB r.2.Harbour.Forecast.Tide.Parts),.sl (Z zC r.2.Harbour.Forecast.Surges),.sl (Z zD r.2.Harbour.Chart.Points),.sl (Z X6.row r.2.Harbour.Chart.Segments),.sl (Z X8.row r.2.Harbour.Fleet),.int .i64 r.2.Harbour.Regime.Gap,.bool r.2.Harbour.Regime.NoMeet,.int .i64 r.2.Harbour.Crew.Tugs,.int .i64 r.2.Harbour.Crew.Pilots,.int .i64 r.2.Harbour.Crew.Rest,.sl (Z rI r.2.Harbour.Crew.Moves),.sl (Z X4.row r.2.Calls),.int .i64 r.2.Desk.Now,.sl (Z rI r.2.Desk.Starts),.sl (Z rB r.2.Desk.Cleared)] [.sc (.v (.str r.1))]:=by
 unfold MI at h;refine DC (σ:=⟨[(0,vc (.pb 99999999999 0)),(1,vc (aS a1))],[(99999999999,[aI a0.Harbour.Forecast.Tide.Mean,aL (Z zB a0.Harbour.Forecast.Tide.Parts),aL (Z zC a0.Harbour.Forecast.Surges),aL (Z zD a0.Harbour.Chart.Points),aL (Z X6.row a0.Harbour.Chart.Segments),aL (Z X8.row a0.Harbour.Fleet),aI a0.Harbour.Regime.Gap,aB a0.Harbour.Regime.NoMeet,aI a0.Harbour.Crew.Tugs,aI a0.Harbour.Crew.Pilots,aI a0.Harbour.Crew.Rest,aL (Z rI a0.Harbour.Crew.Moves),aL (Z X4.row a0.Calls),aI a0.Desk.Now,aL (Z rI a0.Desk.Starts),aL (Z rB a0.Desk.Cleared)])],[]⟩) mixed au Y Y ?_;refine BG DO ?_;intro S hS;refine ev hS ?_;obtain⟨r1,h1,h⟩:=ob h;try simp only[C,E,F,G,H,J]
 refine Ai (A6 U4 h1) ?_;obtain⟨x2,h2,h⟩:=ob h;have h2n:=Ah h2;obtain⟨h3,h⟩|⟨h3,h⟩:=ic h
 ·try simp only[h2,h2n,h3,C,E,F,G,H,J]
  refine OW h ?_ (by kernel_rfl);try simp only[h2,h2n,h3,C,E,F,G,H,J,pL,aM,zA]
 ·obtain⟨h4,h⟩|⟨h4,h⟩:=ic h
  ·try simp only[h2,h2n,h3,h4,C,E,F,G,H,J]
   refine OW h ?_ (by kernel_rfl);try simp only[h2,h2n,h3,h4,C,E,F,G,H,J,pL,aM,zA]
  ·try simp only[h2,h2n,h3,h4,C,E,F,G,H,J]
   refine OW h ?_ (by kernel_rfl);try simp only[h2,h2n,h3,h4,C,E,F,G,H,J,pL,aM,zA]
def Rc:Hw:=([(7,[1,4,6,16],[4,6],[])],[])
def VM:=fun a1 (r1:X9) (k_:V→Q (X9 × (P X)))=>∀{v4} {zr},k_ v4=N zr→Kh I 12 Rc 7 [1,4,6,16] [4,6] [] ⟨[(1,vc (aS a1)),pB 4,pB 6,(16,vc (aB v4))],[(4,[aI (0:U),.nil,.nil,.nil,.nil,.nil,aI (0:U),aB L,aI (0:U),aI (0:U),aI (0:U),.nil,.nil,aI (0:U),.nil,.nil]),(6,(dm r1.row))],[]⟩ (A4 [.c 4 T 16,5] [.ag [.v (.int .i64 zr.1.Harbour.Forecast.Tide.Mean),.v (.sl (Z zB zr.1.Harbour.Forecast.Tide.Parts)),.v (.sl (Z zC zr.1.Harbour.Forecast.Surges)),.v (.sl (Z zD zr.1.Harbour.Chart.Points)),.v (.sl (Z X6.row zr.1.Harbour.Chart.Segments)),.v (.sl (Z X8.row zr.1.Harbour.Fleet)),.v (.int .i64 zr.1.Harbour.Regime.Gap),.v (.bool zr.1.Harbour.Regime.NoMeet),.v (.int .i64 zr.1.Harbour.Crew.Tugs),.v (.int .i64 zr.1.Harbour.Crew.Pilots),.v (.int .i64 zr.1.Harbour.Crew.Rest),.v (.sl (Z rI zr.1.Harbour.Crew.Moves)),.v (.sl (Z X4.row zr.1.Calls)),.v (.int .i64 zr.1.Desk.Now),.v (.sl (Z rI zr.1.Desk.Starts)),.v (.sl (Z rB zr.1.Desk.Cleared))],.sc (.v (.str zr.2))])
theorem Us{a1 r1}:VM a1 r1 (K7 a1 r1):=by
 intro v4 r h σ hσ S hS;refine ev hS ?_;refine An ?_;unfold K7 at h;obtain⟨h5,h⟩|⟨h5,h⟩:=ic h
 ·try simp only[hσ,h5,C,E,F,G,H,J]
  cases h;try simp only[D0,C,E,F,G,H,J]
  trivial
 ·obtain⟨r6,h6,h⟩:=ob h;try simp only[hσ,h5,C,E,F,G,H,J]
  refine BH (na h6) 6 ?_;try simp only[h5,C,E,F,G,H,J]
  cases h;try simp only[D0,C,E,F,G,H,J]
  trivial
instance uH:Ct 12 (∀{a0} {a1} {r},Bi a0 a1=N r→FC I 12 [.ag (X9.row a0),.sc (.str a1)] [.ag [.v (.int .i64 r.1.Harbour.Forecast.Tide.Mean),.v (.sl (Z zB r.1.Harbour.Forecast.Tide.Parts)),.v (.sl (Z zC r.1.Harbour.Forecast.Surges)),.v (.sl (Z zD r.1.Harbour.Chart.Points)),.v (.sl (Z X6.row r.1.Harbour.Chart.Segments)),.v (.sl (Z X8.row r.1.Harbour.Fleet)),.v (.int .i64 r.1.Harbour.Regime.Gap),.v (.bool r.1.Harbour.Regime.NoMeet),.v (.int .i64 r.1.Harbour.Crew.Tugs),.v (.int .i64 r.1.Harbour.Crew.Pilots),.v (.int .i64 r.1.Harbour.Crew.Rest),.v (.sl (Z rI r.1.Harbour.Crew.Moves)),.v (.sl (Z X4.row r.1.Calls)),.v (.int .i64 r.1.Desk.Now),.v (.sl (Z rI r.1.Desk.Starts)),.v (.sl (Z rB r.1.Desk.Cleared))],.sc (.v (.str r.2))]):=by
 refine⟨fun{a0} {a1} {r} h=> ?_⟩;unfold Bi at h;refine A2 mixed Rc [.c 4 T 16,5] 22 ?_;intro S hS;refine ev hS ?_;simp only[C,E,F,G,H,J];try simp only[C,E,F,G,H,J]
 refine BA ?_;try simp only[C,E,F,G,H,J]
 refine AI ?_;obtain⟨r1,h1,h⟩:=ob h;try simp only[C,E,F,G,H,J]
 refine Ai (FC.asV (rs':= [.ag [.v (.int .i64 r1.Harbour.Forecast.Tide.Mean),.v (.sl (Z zB r1.Harbour.Forecast.Tide.Parts)),.v (.sl (Z zC r1.Harbour.Forecast.Surges)),.v (.sl (Z zD r1.Harbour.Chart.Points)),.v (.sl (Z X6.row r1.Harbour.Chart.Segments)),.v (.sl (Z X8.row r1.Harbour.Fleet)),.v (.int .i64 r1.Harbour.Regime.Gap),.v (.bool r1.Harbour.Regime.NoMeet),.v (.int .i64 r1.Harbour.Crew.Tugs),.v (.int .i64 r1.Harbour.Crew.Pilots),.v (.int .i64 r1.Harbour.Crew.Rest),.v (.sl (Z rI r1.Harbour.Crew.Moves)),.v (.sl (Z X4.row r1.Calls)),.v (.int .i64 r1.Desk.Now),.v (.sl (Z rI r1.Desk.Starts)),.v (.sl (Z rB r1.Desk.Cleared))]]) (A6 oN h1) Y) ?_;try simp only[C,E,F,G,H,J]
 refine AI ?_;obtain⟨h2,h⟩|⟨h2,h⟩:=ic h
 ·try simp only[h2,C,E,F,G,H,J]
  refine Us h ?_ (by kernel_rfl);try simp only[h2,C,E,F,G,H,J,pL,aM,zA]
 ·obtain⟨b3,h3,h⟩:=ob h;try simp only[h2,h3,C,E,F,G,H,J]
  refine Us h ?_ (by kernel_rfl);try simp only[h2,h3,C,E,F,G,H,J,pL,aM,zA]
def Rd:Hw:=([(20,[4,5,6,17,18,19],[5],[])],[(13,1,(O,.frz 1025)),(13,2,(O,.frz 1026)),(13,3,(O,.frz 1027)),(13,4,(O,.frz 1028)),(13,5,(O,.frz 1029)),(13,6,(O,.frz 1035)),(13,7,(O,.frz 1036)),(13,8,(O,.frz 1038)),(13,9,(O,.frz 1039))])
def VN:=fun r1 (k_:(P X)→U→U→(P Xf)→(P Xb)→(P Xd)→(P X6)→(P X8)→U→V→U→U→U→(P U)→(P X4)→U→(P U)→(P V)→Q ((P X) × U))=>∀{v4 v5 v6 v7 v8 v9 v10 v11 v12 v13 v14 v15 v16 v17 v18 v19 v20 v21} {zr},k_ v4 v5 v6 v7 v8 v9 v10 v11 v12 v13 v14 v15 v16 v17 v18 v19 v20 v21=N zr→Kh I 5 Rd 20 [4,5,6,17,18,19] [5] [] ⟨[pL 4 rS r1,pB 5,(6,vc (aS v4)),pL 17 rS r1,pI 18 (r1.length:U),pI 19 v5],[(5,[aI v6,aM zB v7,aM zC v8,aM zD v9,aM X6.row v10,aM X8.row v11,aI v12,aB v13,aI v14,aI v15,aI v16,aM rI v17,aM X4.row v18,aI v19,aM rI v20,aM rB v21])],[]⟩ (A4 [2,3] [.sc (.v (.str zr.1)),.sc (.v (.int .i64 zr.2))])
theorem ri{r1}{n:W}:VN r1 (DK r1 n):=by
 induction n with
 | zero=>intro _ _ _ _ _ _ _ _ _ _ _ _ _ _ _ _ _ _ r h; cases h
 | succ n ih=>
  intro v4 v5 v6 v7 v8 v9 v10 v11 v12 v13 v14 v15 v16 v17 v18 v19 v20 v21 r h σ hσ;rw[DK] at h;exact gc
instance oA:Ct 5 (∀{a0} {r},G1 a0=N r→FC I 5 [.sc (.str a0)] [.sc (.v (.str r.1)),.sc (.v (.int .i64 r.2))]):=by
 refine⟨fun{a0} {r} h=> ?_⟩;unfold G1 at h;refine A2 mixed Rd [2,3] 40 ?_;intro S hS;refine ev hS ?_;simp only[C,E,F,G,H,J];obtain⟨r1,h1,h⟩:=ob h;try simp only[C,E,F,G,H,J]
 refine Ai (A6 U5 h1) ?_;obtain⟨h2,h⟩|⟨h2,h⟩:=ic h
 ·try simp only[h2,C,E,F,G,H,J]
  cases h;trivial
 ·obtain⟨r3,h3,h⟩:=ob h;try simp only[h2,C,E,F,G,H,J]
  refine Ai (A6 nk h3) ?_;try simp only[h2,C,E,F,G,H,J]
  refine Ad ?_;try simp only[h2,C,E,F,G,H,J]
  refine Ad ?_;try simp only[h2,C,E,F,G,H,J]
  refine Ad ?_;try simp only[h2,C,E,F,G,H,J]
  refine Ad ?_;try simp only[h2,C,E,F,G,H,J]
  refine Ad ?_;try simp only[h2,C,E,F,G,H,J]
  refine Ad ?_;try simp only[h2,C,E,F,G,H,J]
  refine Ad ?_;try simp only[h2,C,E,F,G,H,J]
  refine Ad ?_;try simp only[h2,C,E,F,G,H,J]
  refine Ad ?_;try simp only[h2,C,E,F,G,H,J]
  refine AI ?_;try simp only[h2,C,E,F,G,H,J]
  refine ri h ?_ (by kernel_rfl);try simp only[h2,C,E,F,G,H,J,pL,aM,zA]
def Re:Hw:=([(8,[0,3,4],[],[])],[])
def VS:=fun a0 (k_:U→U→Q U)=>∀{v1 v2} {zr},k_ v1 v2=N zr→Kh I 8 Re 8 [0,3,4] [] [] ⟨[(0,vc (aS a0)),pI 3 v1,pI 4 v2],[],[]⟩ (A4 [2] [.sc (.v (.int .i64 zr))])
theorem rj{a0}{n:W}:VS a0 (Kg a0 n):=by
 induction n with
 | zero=>intro _ _ r h; cases h
 | succ n ih=>
  intro v1 v2 r h σ hσ;rw[Kg] at h;exact gc
instance oD:Ct 8 (∀{a0} {r},Kf a0=N r→FC I 8 [.sc (.str a0)] [.sc (.v (.int .i64 r))]):=by
 refine⟨fun h=> ?_⟩;unfold Kf at h;refine A2 mixed Re [2] 20 ?_;have k0:= @rj;exact gc
theorem w_laws_FnConfirms(a0:P U)(r:V)(h:KR a0=N r):FC I 3 [.sc (.sl (Z r8 a0))] [.sc (.v (.bool r))]:=by
 unfold KR at h;refine A2 mixed h0 [2] 72 ?_;intro S hS;refine ev hS ?_;simp only[C,E,F,G,H,J];obtain⟨h1,h⟩|⟨h1,h⟩:=ic h
 ·try simp only[h1,C,E,F,G,H,J]
  cases h;exact t0
 ·obtain⟨r2,h2,h⟩:=ob h;try simp only[h1,C,E,F,G,H,J]
  refine Ai (A6 ox h2) ?_;obtain⟨r3,h3,h⟩:=ob h;try simp only[h1,C,E,F,G,H,J]
  refine Ai (A6 Ez h3) ?_;obtain⟨h4,h⟩:=Az h;obtain⟨h5,h⟩:=Az h;try simp only[zE,zF] at h5
  obtain⟨r6,h6,h⟩:=ob h;try simp only[h1,h4,h5,C,E,F,G,H,J]
  refine Ai (A6 oA h6) ?_;obtain⟨r7,h7,h⟩:=ob h;try simp only[h1,h4,h5,C,E,F,G,H,J]
  refine Ai (A6 U5 h7) ?_;try simp only[h1,h4,h5,C,E,F,G,H,J]
  refine Af ?_;obtain⟨h8,h⟩|⟨h8,h⟩:=ic h
  ·obtain⟨x9,h9,h⟩:=ob h;obtain⟨r10,h10,h⟩:=ob h;try simp only[h1,h4,h5,h8,h9,C,E,F,G,H,J]
   refine AR (A6 Ez h10) ?_;obtain⟨h11,h⟩:=Az h;obtain⟨h12,h⟩:=Az h;try simp only[zE,zF] at h12
   obtain⟨h13,h⟩|⟨h13,h⟩:=ic h
   ·try simp only[zE,zF] at h13
    obtain⟨x14,h14,h⟩:=ob h;obtain⟨h15,h⟩|⟨h15,h⟩:=ic h
    ·obtain⟨x16,h16,h⟩:=ob h;obtain⟨h17,h⟩|⟨h17,h⟩:=ic h
     ·obtain⟨x18,h18,h⟩:=ob h;obtain⟨h19,h⟩|⟨h19,h⟩:=ic h
      ·obtain⟨x20,h20,h⟩:=ob h;obtain⟨h21,h⟩|⟨h21,h⟩:=ic h
       ·obtain⟨x22,h22,h⟩:=ob h;obtain⟨h23,h⟩|⟨h23,h⟩:=ic h
        ·obtain⟨r24,h24,h⟩:=ob h;try simp only[h1,h4,h5,h8,h9,h11,h12,h13,h14,h15,h16,h17,h18,h19,h20,h21,h22,h23,C,E,F,G,H,J]
         refine AR (A6 oD h24) ?_;try simp only[h1,h4,h5,h8,h9,h11,h12,h13,h14,h15,h16,h17,h18,h19,h20,h21,h22,h23,C,E,F,G,H,J]
         cases h;exact t0
        ·try simp only[h1,h4,h5,h8,h9,h11,h12,h13,h14,h15,h16,h17,h18,h19,h20,h21,h22,h23,C,E,F,G,H,J]
         cases h;exact t0
       ·try simp only[h1,h4,h5,h8,h9,h11,h12,h13,h14,h15,h16,h17,h18,h19,h20,h21,C,E,F,G,H,J]
        cases h;exact t0
      ·try simp only[h1,h4,h5,h8,h9,h11,h12,h13,h14,h15,h16,h17,h18,h19,C,E,F,G,H,J]
       cases h;exact t0
     ·try simp only[h1,h4,h5,h8,h9,h11,h12,h13,h14,h15,h16,h17,C,E,F,G,H,J]
      cases h;exact t0
    ·try simp only[h1,h4,h5,h8,h9,h11,h12,h13,h14,h15,C,E,F,G,H,J]
     cases h;exact t0
   ·try simp only[zE,zF] at h13
    try simp only[h1,h4,h5,h8,h9,h11,h12,h13,C,E,F,G,H,J]
    cases h;exact t0
  ·try simp only[h1,h4,h5,h8,C,E,F,G,H,J]
   cases h;exact t0
end Go.Vi
