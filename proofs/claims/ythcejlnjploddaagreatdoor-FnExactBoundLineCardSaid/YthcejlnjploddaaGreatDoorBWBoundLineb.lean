/-
Walks. No condition.
-/
import Derived.Test.YthcejlnjploddaaGreatDoorBNf
import Derived.Test.YthcejlnjploddaaGreatDoorChecked
import Derived.Test.YthcejlnjploddaaGreatDoorBSh
import Derived.Test.YthcejlnjploddaaGreatDoorBVi42
import Derived.KernelRfl
import Derived.Test.YthcejlnjploddaaGreatDoorBWBoundLinea
namespace Go.Vi
open Go.Proofs
set_option linter.all false
set_option maxRecDepth 4000
set_option maxHeartbeats 2000000
open Nat renaming reduceBEq → C, reduceMul → E, reduceAdd → F, reduceDiv → G, le_of_ble_eq_true → uf
open Int renaming reduceBEq → H
attribute [local irreducible] go Ba Ja
open List renaming map → Y, map_nil → I, all_eq_true → zC, cons_append → zD, nil_append → zE, all_cons → zF, all_nil → zG
open Tryz renaming prog → Z
open Xc renaming row → zA
open Xa renaming row → zB
open Xb renaming row → zH
open IntKind renaming wrap → zI
open Bool renaming true → T, false → L
open Option renaming some → N, none → O
open _root_ renaming List → P, Option → Q, Int → U, Bool → V, Nat → W, rfl → X
instance B3r:Ct 210 (∀{a0} {a1} {a2} {r},KE a0 a1 a2=N r→FC Z 210 [.ag (X1.row a0),.sc (.int .i64 a1),.ag (X6.row a2)] [.sc (.v (.int .i64 r))]):=by
 refine⟨fun h=> ?_⟩;unfold KE at h;refine A4 mixed h0 [6] 31 ?_;exact gc
def Yd:Hw:=([(6,[0,5,6,7],[],[])],[])
def fq:=fun a0 (k_:U→Q V)=>∀{v1} {zr},k_ v1=N zr→Kh Z 183 Yd 6 [0,5,6,7] [] [] ⟨[pL 0 X5.row a0,pL 5 X5.row a0,pI 6 (a0.length:U),pI 7 v1],[],[]⟩ (A7 [2] [.sc (.v (.bool zr))])
theorem A8w{a0}{n:W}:fq a0 (Fu a0 n):=by
 induction n with
 | zero=>intro _ r h; cases h
 | succ n ih=>
  intro v1 r h σ hσ;rw[Fu] at h;exact gc
instance B4d:Ct 183 (∀{a0} {r},KJ a0=N r→FC Z 183 [.sc (.sl (Y X5.row a0))] [.sc (.v (.bool r))]):=by
 refine⟨fun h=> ?_⟩;unfold KJ at h;refine A4 mixed Yd [2] 41 ?_;have k0:= @A8w;exact gc
def WD:Hw:=([(16,[1,5,17,18,19],[],[1024])],[])
def fm:=fun a1 a0 (k_:U→(P X5)→Q (P X5))=>∀{v5 v6} {zr},k_ v5 v6=N zr→Kh Z 207 WD 16 [1,5,17,18,19] [] [1024] ⟨[pI 1 a1,pW 5 1024,pL 17 X5.row a0,pI 18 (a0.length:U),pI 19 v5],[],[(1024,2,Y X5.row v6)]⟩ (A7 [4] [.sc (.o 2 (Y X5.row zr))])
theorem A26{a1 a0}{n:W}:fm a1 a0 (Ft a1 a0 n):=by
 induction n with
 | zero=>intro _ _ r h; cases h
 | succ n ih=>
  intro v5 v6 r h σ hσ;rw[Ft] at h;have s0:=fun(x8:X5)=> @Ap (Y X5.row ([(⟨x8.From,(zI .i64 (x8.To - a1))⟩:X5)]:P X5))
  exact gc
instance B36:Ct 207 (∀{a0} {a1} {r},Qk a0 a1=N r→FC Z 207 [.sc (.sl (Y X5.row a0)),.sc (.int .i64 a1)] [.sc (.o 2 (Y X5.row r))]):=by
 refine⟨fun h=> ?_⟩;unfold Qk at h;refine A4 mixed WD [4] 42 ?_;have s0:= @Ap (Y X5.row ([]:P X5));have k0:= @A26;exact gc
instance B4l:Ct 180 (∀{a0} {a1} {a2} {a3} {a4} {r},Qn a0 a1 a2 a3 a4=N r→FC Z 180 [.ag (Xd.row a0),.ag (X1.row a1),.sc (.int .i64 a2),.ag (X6.row a3),.sc (.bool a4)] [.sc (.o 2 (Y X5.row r))]):=by
 refine⟨fun h=> ?_⟩;unfold Qn at h;refine A4 mixed h0 [10] 33 ?_;exact gc
instance B38:Ct 152 (∀{a0} {a1} {a2} {a3} {r},NF a0 a1 a2 a3=N r→FC Z 152 [.ag (Xd.row a0),.ag (X1.row a1),.sc (.int .i64 a2),.ag (X6.row a3)] [.sc (.o 2 (Y X5.row r))]):=by
 refine⟨fun h=> ?_⟩;unfold NF at h;refine A4 mixed h0 [8] 14 ?_;exact gc
def WE:Hw:=([(8,[4,5,6,9,13,14,15],[4,5,6],[768])],[(19,6,(O,.frz 1536))])
def gC:=fun a3 (a0:Xd) (a1:X1) (a2:X6) (k_:U→(P (P X5))→Q (P (P X5)))=>∀{v1 v2} {zr},k_ v1 v2=N zr→Kh Z 120 WE 8 [4,5,6,9,13,14,15] [4,5,6] [768] ⟨[pB 4,pB 5,pB 6,pW 9 768,pL 13 rI a3,pI 14 (a3.length:U),pI 15 v1],[(4,[aI a0.Tide.Mean,aM zA a0.Tide.Parts,aM X9.row a0.Surges]),(5,[aM X7.row a1.Points,aM X2.row a1.Segments]),(6,(dm a2.row))],[(768,1,Y (rL X5.row) v2)]⟩ (A7 [8] [.sc (.o 1 (Y (rL X5.row) zr))])
theorem A27{a3 a0 a1 a2}{n:W}:gC a3 a0 a1 a2 (GF a3 a0 a1 a2 n):=by
 induction n with
 | zero=>intro _ _ r h; cases h
 | succ n ih=>
  intro v1 v2 r h σ hσ;rw[GF] at h;have s0:=fun(r5:(P X5))=> @Ap (Y (rL X5.row) ([r5]:P (P X5)))
  exact gc
instance B4n:Ct 120 (∀{a0} {a1} {a2} {a3} {r},Qo a0 a1 a2 a3=N r→FC Z 120 [.ag (Xd.row a0),.ag (X1.row a1),.ag (X6.row a2),.sc (.sl (Y rI a3))] [.sc (.o 1 (Y (rL X5.row) r))]):=by
 refine⟨fun h=> ?_⟩;unfold Qo at h;refine A4 mixed WE [8] 29 ?_;have s0:= @Ap (Y (rL X5.row) ([]:P (P X5)));have k0:= @A27;exact gc
def SR:Hw:=([(8,[3,8,14,15,16],[3],[832]),(32,[3,8,11,14,15,16,45],[3],[832])],[])
def fz:=fun r9 a2 v1 (a0:X1) v2 (k_:V→Q ((P U) × V))=>∀{v12} {zr},k_ v12=N zr→Kh Z 154 SR 32 [3,8,11,14,15,16,45] [3] [832] ⟨[pB 3,pW 8 832,pI 11 r9,pL 14 rI a2,pI 15 (a2.length:U),pI 16 v1,(45,vc (aB v12))],[(3,[aM X7.row a0.Points,aM X2.row a0.Segments])],[(832,1,Y rI v2)]⟩ (A7 [6,7] [.sc (.o 1 (Y rI zr.1)),.sc (.v (.bool zr.2))])
def V3:=fun a2 (a0:X1) (k_:U→(P U)→Q ((P U) × V))=>∀{v1 v2} {zr},k_ v1 v2=N zr→Kh Z 154 SR 8 [3,8,14,15,16] [3] [832] ⟨[pB 3,pW 8 832,pL 14 rI a2,pI 15 (a2.length:U),pI 16 v1],[(3,[aM X7.row a0.Points,aM X2.row a0.Segments])],[(832,1,Y rI v2)]⟩ (A7 [6,7] [.sc (.o 1 (Y rI zr.1)),.sc (.v (.bool zr.2))])
theorem bt{r9 a2 v1 a0 v2}{Rb}(rQ:V3 a2 a0 Rb):fz r9 a2 v1 a0 v2 (GC r9 a2 v1 a0 v2 Rb):=by
 intro v12 r h σ hσ;unfold GC at h;have s0:= @Ap (Y rI ([r9]:P U));have k0:= @rQ;exact gc
theorem A28{a2 a0}{n:W}:V3 a2 a0 (DY a2 a0 n):=by
 induction n with
 | zero=>intro _ _ r h; cases h
 | succ n ih=>
  intro v1 v2 r h σ hσ S hS;refine ev hS ?_;rw[DY] at h;refine AM (AA ?_);obtain⟨h3,h⟩|⟨h3,h⟩:=ic h
  ·obtain⟨x4,h4,h⟩:=ob h;obtain⟨r5,h5,h⟩:=ob h;try simp only[hσ,h3,h4,C,E,F,G,H,J]
   refine AE (Ag RL h5) ?_;obtain⟨h6,h⟩|⟨h6,h⟩:=ic h
   ·try simp only[h3,h4,h6,C,E,F,G,H,J]
    refine An ?_;obtain⟨x7,h7,h⟩:=ob h;obtain⟨x8,h8,h⟩:=ob h;have h8n:=Ay h8;obtain⟨r9,h9,h⟩:=ob h;try simp only[h3,h4,h6,h7,h8,h8n,C,E,F,G,H,J]
    refine BF (Ag bj h9) ?_;obtain⟨h10,h⟩|⟨h10,h⟩:=ic h
    ·try simp only[h3,h4,h6,h7,h8,h8n,h10,C,E,F,G,H,J]
     refine bt ih h ?_ (by kernel_rfl);try simp only[h3,h4,h6,h7,h8,h8n,h10,C,E,F,G,H,J,pL,aM,I]
    ·obtain⟨r11,h11,h⟩:=ob h;try simp only[h3,h4,h6,h7,h8,h8n,h10,C,E,F,G,H,J]
     refine E4 (Ag bh h11) X (E2 X) X (uf X) ?_;try simp only[h3,h4,h6,h7,h8,h8n,h10,C,E,F,G,H,J]
     refine bt ih h ?_ (by kernel_rfl);try simp only[h3,h4,h6,h7,h8,h8n,h10,C,E,F,G,H,J,pL,aM,I]
   ·try simp only[h3,h4,h6,C,E,F,G,H,J]
    cases h;trivial
  ·try simp only[hσ,h3,C,E,F,G,H,J]
   cases h;trivial
instance B4j:Ct 154 (∀{a0} {a1} {a2} {r},GB a0 a1 a2=N r→FC Z 154 [.ag (X1.row a0),.sc (.int .i64 a1),.sc (.sl (Y rI a2))] [.sc (.o 1 (Y rI r.1)),.sc (.v (.bool r.2))]):=by
 refine⟨fun{a0} {a1} {a2} {r} h=> ?_⟩;unfold GB at h;refine A4 mixed SR [6,7] 52 ?_;have s0:= @Ap (Y rI ([a1]:P U));have k0:= @A28;exact gc
instance B31:Ct 153 (∀{a0} {a1} {a2} {r},Ey a0 a1 a2=N r→FC Z 153 [.ag (X1.row a0),.sc (.int .i64 a1),.sc (.sl (Y rI a2))] [.sc (.v (.bool r))]):=by
 refine⟨fun h=> ?_⟩;unfold Ey at h;refine A4 mixed h0 [6] 29 ?_;exact gc
instance B32:Ct 121 (∀{a0} {a1} {a2} {r},Fs a0 a1 a2=N r→FC Z 121 [.ag (X1.row a0),.sc (.int .i64 a1),.sc (.sl (Y rI a2))] [.sc (.o 1 (Y rI r))]):=by
 refine⟨fun h=> ?_⟩;unfold Fs at h;refine A4 mixed h0 [6] 22 ?_;exact gc
def WF:Hw:=([(6,[1,7,8,9],[],[])],[])
def fU:=fun a1 a0 (k_:U→Q V)=>∀{v1} {zr},k_ v1=N zr→Kh Z 155 WF 6 [1,7,8,9] [] [] ⟨[pI 1 a1,pL 7 X5.row a0,pI 8 (a0.length:U),pI 9 v1],[],[]⟩ (A7 [4] [.sc (.v (.bool zr))])
theorem A29{a1 a0}{n:W}:fU a1 a0 (Iw a1 a0 n):=by
 induction n with
 | zero=>intro _ r h; cases h
 | succ n ih=>
  intro v1 r h σ hσ;rw[Iw] at h;exact gc
instance B3m:Ct 155 (∀{a0} {a1} {r},Nq a0 a1=N r→FC Z 155 [.sc (.sl (Y X5.row a0)),.sc (.int .i64 a1)] [.sc (.v (.bool r))]):=by
 refine⟨fun h=> ?_⟩;unfold Nq at h;refine A4 mixed WF [4] 20 ?_;have k0:= @A29;exact gc
def WG:Hw:=([(14,[1,10,11,12],[],[])],[])
def fb:=fun a1 a0 (k_:U→Q U)=>∀{v3} {zr},k_ v3=N zr→Kh Z 157 WG 14 [1,10,11,12] [] [] ⟨[pI 1 a1,pL 10 X5.row a0,pI 11 (a0.length:U),pI 12 v3],[],[]⟩ (A7 [4] [.sc (.v (.int .i64 zr))])
theorem A3b{a1 a0}{n:W}:fb a1 a0 (Iz a1 a0 n):=by
 induction n with
 | zero=>intro _ r h; cases h
 | succ n ih=>
  intro v3 r h σ hσ;rw[Iz] at h;exact gc
instance A11:Ct 157 (∀{a0} {a1} {r},Nw a0 a1=N r→FC Z 157 [.sc (.sl (Y X5.row a0)),.sc (.int .i64 a1)] [.sc (.v (.int .i64 r))]):=by
 refine⟨fun h=> ?_⟩;unfold Nw at h;refine A4 mixed WG [4] 25 ?_;have k0:= @A3b;exact gc
def SS:Hw:=([(16,[2,3,4,6,7,14,15],[6,7],[1600]),(32,[2,3,4,6,7,14,15,17,73],[6,7],[1600])],[])
def gB:=fun a2 a3 a4 v4 r12 (a0:X1) (a1:X6) v5 (k_:V→Q ((P U) × V))=>∀{v17} {zr},k_ v17=N zr→Kh Z 122 SS 32 [2,3,4,6,7,14,15,17,73] [6,7] [1600] ⟨[pL 2 rI a2,pL 3 rI a3,pL 4 (rL X5.row) a4,pB 6,pB 7,pW 14 1600,pI 15 v4,pI 17 r12,(73,vc (aB v17))],[(6,[aM X7.row a0.Points,aM X2.row a0.Segments]),(7,(dm a1.row))],[(1600,1,Y rI v5)]⟩ (A7 [12,13] [.sc (.o 1 (Y rI zr.1)),.sc (.v (.bool zr.2))])
def V5:=fun a2 a3 a4 (a0:X1) (a1:X6) (k_:U→(P U)→Q ((P U) × V))=>∀{v4 v5} {zr},k_ v4 v5=N zr→Kh Z 122 SS 16 [2,3,4,6,7,14,15] [6,7] [1600] ⟨[pL 2 rI a2,pL 3 rI a3,pL 4 (rL X5.row) a4,pB 6,pB 7,pW 14 1600,pI 15 v4],[(6,[aM X7.row a0.Points,aM X2.row a0.Segments]),(7,(dm a1.row))],[(1600,1,Y rI v5)]⟩ (A7 [12,13] [.sc (.o 1 (Y rI zr.1)),.sc (.v (.bool zr.2))])
theorem Uh{a2 a3 a4 v4 r12 a0 a1 v5}{Rc}(rR:V5 a2 a3 a4 a0 a1 Rc):gB a2 a3 a4 v4 r12 a0 a1 v5 (IP a2 a3 a4 v4 r12 a0 a1 v5 Rc):=by
 intro v17 r h σ hσ;unfold IP at h;have s0:= @Ap (Y rI ([r12]:P U));have k0:= @rR;exact gc
theorem A3c{a2 a3 a4 a0 a1}{n:W}:V5 a2 a3 a4 a0 a1 (EA a2 a3 a4 a0 a1 n):=by
 induction n with
 | zero=>intro _ _ r h; cases h
 | succ n ih=>
  intro v4 v5 r h σ hσ S hS;refine ev hS ?_;rw[EA] at h;refine AM (AA ?_);obtain⟨h6,h⟩|⟨h6,h⟩:=ic h
  ·try simp only[hσ,h6,C,E,F,G,H,J]
   refine An ?_;obtain⟨x7,h7,h⟩:=ob h;have h7n:=Ay h7;obtain⟨x8,h8,h⟩:=ob h;obtain⟨x9,h9,h⟩:=ob h;obtain⟨r10,h10,h⟩:=ob h;try simp only[h6,h7,h7n,h8,h9,C,E,F,G,H,J]
   refine BF (Ag Ud h10) ?_;obtain⟨x11,h11,h⟩:=ob h;obtain⟨r12,h12,h⟩:=ob h;try simp only[h6,h7,h7n,h8,h9,h11,C,E,F,G,H,J]
   refine AE (Ag A11 h12) ?_;try simp only[h6,h7,h7n,h8,h9,h11,C,E,F,G,H,J]
   refine An ?_;obtain⟨h13,h⟩|⟨h13,h⟩:=ic h
   ·try simp only[h6,h7,h7n,h8,h9,h11,h13,C,E,F,G,H,J]
    refine Uh ih h ?_ (by kernel_rfl);try simp only[h6,h7,h7n,h8,h9,h11,h13,C,E,F,G,H,J,pL,aM,I]
   ·obtain⟨h14,h⟩|⟨h14,h⟩:=ic h
    ·obtain⟨x15,h15,h⟩:=ob h;obtain⟨x16,h16,h⟩:=ob h;try simp only[h6,h7,h7n,h8,h9,h11,h13,h14,h15,h16,C,E,F,G,H,J]
     refine Uh ih h ?_ (by kernel_rfl);try simp only[h6,h7,h7n,h8,h9,h11,h13,h14,h15,h16,C,E,F,G,H,J,pL,aM,I]
    ·try simp only[h6,h7,h7n,h8,h9,h11,h13,h14,C,E,F,G,H,J]
     refine Uh ih h ?_ (by kernel_rfl);try simp only[h6,h7,h7n,h8,h9,h11,h13,h14,C,E,F,G,H,J,pL,aM,I]
  ·try simp only[hσ,h6,C,E,F,G,H,J]
   cases h;trivial
instance A16:Ct 122 (∀{a0} {a1} {a2} {a3} {a4} {a5} {r},KM a0 a1 a2 a3 a4 a5=N r→FC Z 122 [.ag (X1.row a0),.ag (X6.row a1),.sc (.sl (Y rI a2)),.sc (.sl (Y rI a3)),.sc (.sl (Y (rL X5.row) a4)),.sc (.int .i64 a5)] [.sc (.o 1 (Y rI r.1)),.sc (.v (.bool r.2))]):=by
 refine⟨fun{a0} {a1} {a2} {a3} {a4} {a5} {r} h=> ?_⟩;unfold KM at h;refine A4 mixed SS [12,13] 79 ?_;have s0:= @Ap (Y rI ([a5]:P U));have k0:= @A3c;exact gc
instance A1t:Ct 158 (∀{a0} {a1} {a2} {a3} {r},Ni a0 a1 a2 a3=N r→FC Z 158 [.ag (X1.row a0),.ag (X6.row a1),.sc (.sl (Y rI a2)),.sc (.sl (Y rI a3))] [.sc (.v (.int .i64 r))]):=by
 refine⟨fun h=> ?_⟩;unfold Ni at h;refine A4 mixed h0 [8] 54 ?_;exact gc
def WH:Hw:=([(18,[1,5,6,8,13,14,39,40,41],[6,8],[2176,2432])],[])
def fe:=fun a1 a5 a4 (a0:X1) (a2:X6) r6 (k_:U→(P X3)→Q (P X3))=>∀{v7 v8} {zr},k_ v7 v8=N zr→Kh Z 159 WH 18 [1,5,6,8,13,14,39,40,41] [6,8] [2176,2432] ⟨[pI 1 a1,pL 5 rI a5,pB 6,pB 8,pW 13 2176,pW 14 2432,pL 39 rI a4,pI 40 (a4.length:U),pI 41 v7],[(6,[aM X7.row a0.Points,aM X2.row a0.Segments]),(8,(dm a2.row))],[(2176,5,Y X3.row v8),(2432,1,Y rI r6)]⟩ (A7 [12] [.sc (.o 5 (Y X3.row zr))])
theorem A3d{a1 a5 a4 a0 a2 r6}{n:W}:fe a1 a5 a4 a0 a2 r6 (IB a1 a5 a4 a0 a2 r6 n):=by
 induction n with
 | zero=>intro _ _ r h; cases h
 | succ n ih=>
  intro v7 v8 r h σ hσ S hS;refine ev hS ?_;rw[IB] at h;refine AM (AA ?_);obtain⟨h9,h⟩|⟨h9,h⟩:=ic h
  ·obtain⟨x10,h10,h⟩:=ob h;obtain⟨x11,h11,h⟩:=ob h;obtain⟨r12,h12,h⟩:=ob h;try simp only[hσ,h9,h10,h11,C,E,F,G,H,J]
   refine AE (Ag RL h12) ?_;obtain⟨h13,h⟩|⟨h13,h⟩:=ic h
   ·try simp only[h9,h10,h11,h13,C,E,F,G,H,J]
    refine An ?_;obtain⟨x14,h14,h⟩:=ob h;obtain⟨x15,h15,h⟩:=ob h;have h15n:=Ay h15;obtain⟨r16,h16,h⟩:=ob h;try simp only[h9,h10,h11,h13,h14,h15,h15n,C,E,F,G,H,J]
    refine BF (Ag Ud h16) ?_;try simp only[h9,h10,h11,h13,h14,h15,h15n,C,E,F,G,H,J]
    refine Be (es:=Y X3.row ([(⟨a1,x10,(x14.A==x15),x11,(zI .i64 (x11+r16))⟩:X3)]:P X3)) ?_;obtain⟨h17,h⟩:=AR h;try simp only[h9,h10,h11,h13,h14,h15,h15n,h17,C,E,F,G,H,J]
    refine An ?_;try simp only[h9,h10,h11,h13,h14,h15,h15n,h17,C,E,F,G,H,J]
    refine ih h ?_ (by kernel_rfl);try simp only[h9,h10,h11,h13,h14,h15,h15n,h17,C,E,F,G,H,J,pL,aM,I]
   ·try simp only[h9,h10,h11,h13,C,E,F,G,H,J]
    cases h;exact t0
  ·try simp only[hσ,h9,C,E,F,G,H,J]
   cases h;exact t0
instance A12:Ct 159 (∀{a0} {a1} {a2} {a3} {a4} {a5} {r},Ny a0 a1 a2 a3 a4 a5=N r→FC Z 159 [.ag (X1.row a0),.sc (.int .i64 a1),.ag (X6.row a2),.sc (.int .i64 a3),.sc (.sl (Y rI a4)),.sc (.sl (Y rI a5))] [.sc (.o 5 (Y X3.row r))]):=by
 refine⟨fun h=> ?_⟩;unfold Ny at h;refine A4 mixed WH [12] 87 ?_;have s0:= @Ap (Y X3.row ([]:P X3));have k0:= @A3d;exact gc
def cq:P (P W × AItem):= [([],(O,.load 65 (S 11) T 4)),([],(O,.faddr 66 (S 11) 1)),([1],(O,.load 67 (S 66) L 1)),([2],(O,.bin 68 .leq (S 67) (K 2880))),([0,0],(O,.store (S 8) (S 65) 4)),([3,4,0,1,2,3,4],(O,.mv 9 (S 68)))]
def WI:Hw:=([(12,[4,8,10,11,46,47,48],[4,8,10,11],[2432])],[])
abbrev Jp(x2 r3 v6:U)(c0_ c1_:V)(c2_ c3_ c5_:V)(bx_:P (W × P AC))(rs_:Rows):St:=⟨[(8,vc (.pb 8 0)),(11,vc (.pb 11 0)),(65,bif c0_ then va [aI x2,aI r3,aI v6,.own 2432] else .undef),(66,bif c1_ then vc (.pb 11 1) else .undef),(67,bif c2_ then vc (aI r3) else .undef),(68,bif c3_ then vc (aB (decide (r3≤(2880:U)))) else .undef),(9,bif c5_ then vc (aB (decide (r3≤(2880:U)))) else .undef)],bx_,rs_⟩
abbrev RH(x2 r3:U)(r4:(P X3))(v6:U):St:=(Jp x2 r3 v6 T T T T T [(8,[aI x2,aI r3,aI v6,.own 2432]),(11,[aI x2,aI r3,aI v6,.own 2432])] [(2432,5,Y X3.row r4)])
theorem A3e(x2 r3 r4 v6):∀(f:W) (b1 b2:V) (b3 b5:V),Ad Z cq (RH x2 r3 r4 v6) f [T,b1,b2,b3,T,b5] (Jp x2 r3 v6 T b1 b2 b3 b5 [(8,[aI x2,aI r3,aI v6,.own 2432]),(11,[aI x2,aI r3,aI v6,.own 2432])] [(2432,5,Y X3.row r4)]):=by
 intro f
 induction f with
 | zero=>
  intro b1 b2 b3 b5 h;obtain rfl:b1=T:=zC.1 h b1 (by simp);obtain rfl:b2=T:=zC.1 h b2 (by simp);obtain rfl:b3=T:=zC.1 h b3 (by simp);obtain rfl:b5=T:=zC.1 h b5 (by simp);rfl
 | succ f ih=>
  intro b1 b2 b3 b5;refine Af ⟨?_,?_,?_,?_,?_,?_,⟨⟩⟩<;>try first | (intro h; cases h; done) | (intro h0 hw; obtain rfl:=hz h0 rfl; (try obtain rfl:=hq hw 1 rfl rfl); (try obtain rfl:=hq hw 2 rfl rfl); (try obtain rfl:=hq hw 3 rfl rfl); refine np ?_; simp only[Jp,A5,A6,A2,C,E,F,G,H,J]; exact ih _ _ _ _)
theorem A3f(x2 r3 r4 v6):∀(f:W) (b0 b1:V) (b2 b3:V),Ad Z cq (RH x2 r3 r4 v6) f [b0,b1,b2,b3,L,L] (Jp x2 r3 v6 b0 b1 b2 b3 L [(8,[aI (0:U),aI (0:U),aI (0:U),.nil]),(11,[aI x2,aI r3,aI v6,.own 2432])] [(2432,5,Y X3.row r4)]):=by
 intro f
 induction f with
 | zero=>intro b0 b1 b2 b3 h; simp at h
 | succ f ih=>
  intro b0 b1 b2 b3;refine Af ⟨?_,?_,?_,?_,?_,?_,⟨⟩⟩<;>try first | (intro _ hw; simp at hw; done) | (intro h0 hw; obtain rfl:=hz h0 rfl; (try obtain rfl:=hq hw 1 rfl rfl); (try obtain rfl:=hq hw 2 rfl rfl); refine np ?_; simp only[Jp,A5,A6,A2,C,E,F,G,H,J]; exact ih _ _ _ _)
  ·intro h0 hw;obtain rfl:=hq hw 0 rfl rfl;refine np ?_;try simp only[Jp,A5,A6,A2,C,E,F,G,H,J]
   exact A3e x2 r3 r4 v6 _ b1 b2 b3 L
def gK:=fun a2 (a0:X4) (x1:X6) x2 r3 r4 (k_:U→U→Q (X0 × V))=>∀{v5 v6} {zr},k_ v5 v6=N zr→Kh Z 123 WI 12 [4,8,10,11,46,47,48] [4,8,10,11] [2432] ⟨[pB 4,pB 8,pB 10,pB 11,pL 46 rI a2,pI 47 (a2.length:U),pI 48 v5],[(4,([aI a0.Forecast.Tide.Mean,aM zA a0.Forecast.Tide.Parts,aM X9.row a0.Forecast.Surges,aM X7.row a0.Chart.Points,aM X2.row a0.Chart.Segments,aM X6.row a0.Fleet,aI a0.Regime.Gap,aB a0.Regime.NoMeet]++dm a0.Crew.row)),(8,[aI (0:U),aI (0:U),aI (0:U),.nil]),(10,(dm x1.row)),(11,[aI x2,aI r3,aI v6,.own 2432])],[(2432,5,Y X3.row r4)]⟩ (A7 [.c 8 T 4,9] [.ag [.v (.int .i64 zr.1.Start),.v (.int .i64 zr.1.Arrival),.v (.int .i64 zr.1.Cost),.o 5 (Y X3.row zr.1.Passages)],.sc (.v (.bool zr.2))])
theorem A3g{a2 a0 x1 x2 r3 r4}{n:W}:gK a2 a0 x1 x2 r3 r4 (GL a2 a0 x1 x2 r3 r4 n):=by
 induction n with
 | zero=>intro _ _ r h; cases h
 | succ n ih=>
  intro v5 v6 r h σ hσ S hS;refine ev hS ?_;rw[GL] at h;refine AM (AA ?_);obtain⟨h7,h⟩|⟨h7,h⟩:=ic h
  ·obtain⟨x8,h8,h⟩:=ob h;try simp only[hσ,h7,h8,C,E,F,G,H,J]
   refine An ?_;obtain⟨x9,h9,h⟩:=ob h;obtain⟨r10,h10,h⟩:=ob h;try simp only[h7,h8,h9,C,E,F,G,H,J]
   refine BF (Ag Ud h10) ?_;try simp only[h7,h8,h9,C,E,F,G,H,J]
   refine An ?_;try simp only[h7,h8,h9,C,E,F,G,H,J]
   refine ih h ?_ (by kernel_rfl);try simp only[h7,h8,h9,C,E,F,G,H,J,pL,aM,I]
  ·try simp only[hσ,h7,C,E,F,G,H,J]
   refine E3 (ks:= [8,11]) (bs:= [8,11]) (rs:= [2432]) (τ:=(RH x2 r3 r4 v6)) X (A3f x2 r3 r4 v6 _ L L L L) ?_;simp only[RH,Jp,A5];try simp only[h7,C,E,F,G,H,J]
   cases h;try simp only[P5,C,E,F,G,H,J]
   trivial
instance A2a:Ct 123 (∀{a0} {a1} {a2} {a3} {r},NS a0 a1 a2 a3=N r→FC Z 123 [.ag (X4.row a0),.ag (zH a1),.sc (.sl (Y rI a2)),.sc (.sl (Y rI a3))] [.ag [.v (.int .i64 r.1.Start),.v (.int .i64 r.1.Arrival),.v (.int .i64 r.1.Cost),.o 5 (Y X3.row r.1.Passages)],.sc (.v (.bool r.2))]):=by
 refine⟨fun{a0} {a1} {a2} {a3} {r} h=> ?_⟩;unfold NS at h;refine A4 mixed WI [.c 8 T 4,9] 69 ?_;intro S hS;refine ev hS ?_;simp only[C,E,F,G,H,J];try simp only[C,E,F,G,H,J]
 refine BE ?_;try simp only[C,E,F,G,H,J]
 refine BE ?_;try simp only[C,E,F,G,H,J]
 refine Bv ?_;obtain⟨x1,h1,h⟩:=ob h;try simp only[h1,C,E,F,G,H,J]
 refine Bv ?_;try simp only[h1,C,E,F,G,H,J]
 refine An ?_;obtain⟨x2,h2,h⟩:=ob h;obtain⟨r3,h3,h⟩:=ob h;try simp only[h1,h2,C,E,F,G,H,J]
 refine BF (Ag A1t h3) ?_;obtain⟨r4,h4,h⟩:=ob h;try simp only[h1,h2,C,E,F,G,H,J]
 refine BF (Ag A12 h4) ?_;try simp only[h1,h2,C,E,F,G,H,J]
 refine O5 (m:= .box 11 [aI (0:U),aI (0:U),aI (0:U),.nil]) X X (OL X X) ?_;try simp only[h1,h2,C,E,F,G,H,J]
 refine An ?_;try simp only[h1,h2,C,E,F,G,H,J]
 refine A3g h ?_ (by kernel_rfl);try simp only[h1,h2,C,E,F,G,H,J,pL,aM,I]
def SU:Hw:=([(32,[2,3,5,7,8,9,10,11],[2,3,7],[2816,3200,3264]),(56,[2,3,5,7,8,9,10,11],[2,3,7],[2816,3200,3264])],[(54,2,(O,.frz 5315))])
def fc:=fun(r3:(P U) × V) v8 (a0:X4) (a1:Xb) (x5:X6) r6 r7 (k_:(P X0)→Q (P X0))=>∀{v17} {zr},k_ v17=N zr→Kh Z 82 SU 56 [2,3,5,7,8,9,10,11] [2,3,7] [2816,3200,3264] ⟨[pB 2,pB 3,pL 5 rI r3.1,pB 7,pW 8 2816,pW 9 3200,pW 10 3264,pI 11 v8],[(2,([aI a0.Forecast.Tide.Mean,aM zA a0.Forecast.Tide.Parts,aM X9.row a0.Forecast.Surges,aM X7.row a0.Chart.Points,aM X2.row a0.Chart.Segments,aM X6.row a0.Fleet,aI a0.Regime.Gap,aB a0.Regime.NoMeet]++dm a0.Crew.row)),(3,(dm a1.row)),(7,(dm x5.row))],[(2816,1,Y (rL X5.row) r6),(3200,1,Y rI r7),(3264,4,Y X0.row v17)]⟩ (A7 [4] [.sc (.o 4 (Y X0.row zr))])
def UZ:=fun(r3:(P U) × V) (a0:X4) (a1:Xb) (x5:X6) r6 r7 (k_:U→(P X0)→Q (P X0))=>∀{v8 v9} {zr},k_ v8 v9=N zr→Kh Z 82 SU 32 [2,3,5,7,8,9,10,11] [2,3,7] [2816,3200,3264] ⟨[pB 2,pB 3,pL 5 rI r3.1,pB 7,pW 8 2816,pW 9 3200,pW 10 3264,pI 11 v8],[(2,([aI a0.Forecast.Tide.Mean,aM zA a0.Forecast.Tide.Parts,aM X9.row a0.Forecast.Surges,aM X7.row a0.Chart.Points,aM X2.row a0.Chart.Segments,aM X6.row a0.Fleet,aI a0.Regime.Gap,aB a0.Regime.NoMeet]++dm a0.Crew.row)),(3,(dm a1.row)),(7,(dm x5.row))],[(2816,1,Y (rL X5.row) r6),(3200,1,Y rI r7),(3264,4,Y X0.row v9)]⟩ (A7 [4] [.sc (.o 4 (Y X0.row zr))])
theorem Ui{r3 v8 a0 a1 x5 r6 r7}{R9}(rN:UZ r3 a0 a1 x5 r6 r7 R9):fc r3 v8 a0 a1 x5 r6 r7 (IA r3 v8 a0 a1 x5 r6 r7 R9):=by
 intro v17 r h σ hσ;unfold IA at h;have k0:= @rN;exact gc
theorem A3h{r3 a0 a1 x5 r6 r7}{n:W}:UZ r3 a0 a1 x5 r6 r7 (Fq r3 a0 a1 x5 r6 r7 n):=by
 induction n with
 | zero=>intro _ _ r h; cases h
 | succ n ih=>
  intro v8 v9 r h σ hσ S hS;refine ev hS ?_;rw[Fq] at h;refine AM (AA ?_);obtain⟨h10,h⟩|⟨h10,h⟩:=ic h
  ·obtain⟨h11,h⟩|⟨h11,h⟩:=ic h
   ·obtain⟨r12,h12,h⟩:=ob h;try simp only[hσ,h10,h11,C,E,F,G,H,J]
    refine E4 (Ag A16 h12) X (Db X ⟨Dc,X,⟨⟩⟩) X (uf X) ?_;obtain⟨h13,h⟩|⟨h13,h⟩:=ic h
    ·obtain⟨r14,h14,h⟩:=ob h;try simp only[h10,h11,h13,C,E,F,G,H,J]
     refine E4 (Ag A2a h14) X (Db X ⟨X,X,X,Dc,X,⟨⟩⟩) X (uf X) ?_;try simp only[h10,h11,h13,C,E,F,G,H,J]
     refine Bv ?_;obtain⟨h15,h⟩|⟨h15,h⟩:=ic h
     ·try simp only[h10,h11,h13,h15,C,E,F,G,H,J]
      refine C8 ?_;try simp only[h10,h11,h13,h15,C,E,F,G,H,J]
      refine Be (es:=Y X0.row ([r14.1]:P X0)) ?_;obtain⟨h16,h⟩:=AR h;try simp only[h10,h11,h13,h15,h16,C,E,F,G,H,J]
      refine Ui ih h ?_ (by kernel_rfl);try simp only[h10,h11,h13,h15,h16,C,E,F,G,H,J,pL,aM,I]
     ·try simp only[h10,h11,h13,h15,C,E,F,G,H,J]
      refine Ui ih h ?_ (by kernel_rfl);try simp only[h10,h11,h13,h15,C,E,F,G,H,J,pL,aM,I]
    ·try simp only[h10,h11,h13,C,E,F,G,H,J]
     refine Ui ih h ?_ (by kernel_rfl);try simp only[h10,h11,h13,C,E,F,G,H,J,pL,aM,I]
   ·try simp only[hσ,h10,h11,C,E,F,G,H,J]
    cases h;exact t0
  ·try simp only[hσ,h10,C,E,F,G,H,J]
   cases h;exact t0
instance B3t:Ct 82 (∀{a0} {a1} {r},KF a0 a1=N r→FC Z 82 [.ag (X4.row a0),.ag (zH a1)] [.sc (.o 4 (Y X0.row r))]):=by
 refine⟨fun h=> ?_⟩;unfold KF at h;refine A4 mixed SU [4] 92 ?_;have s0:= @Ap (Y X0.row ([]:P X0));have k0:= @A3h;exact gc
def WK:Hw:=([(8,[2,5,9,10,11],[2],[512])],[(19,4,(O,.frz 1152))])
def gN:=fun a1 (a0:X4) (k_:U→(P (P X0))→Q (P (P X0)))=>∀{v1 v2} {zr},k_ v1 v2=N zr→Kh Z 45 WK 8 [2,5,9,10,11] [2] [512] ⟨[pB 2,pW 5 512,pL 9 zH a1,pI 10 (a1.length:U),pI 11 v1],[(2,([aI a0.Forecast.Tide.Mean,aM zA a0.Forecast.Tide.Parts,aM X9.row a0.Forecast.Surges,aM X7.row a0.Chart.Points,aM X2.row a0.Chart.Segments,aM X6.row a0.Fleet,aI a0.Regime.Gap,aB a0.Regime.NoMeet]++dm a0.Crew.row))],[(512,1,Y (rL X0.row) v2)]⟩ (A7 [4] [.sc (.o 1 (Y (rL X0.row) zr))])
theorem A3i{a1 a0}{n:W}:gN a1 a0 (IT a1 a0 n):=by
 induction n with
 | zero=>intro _ _ r h; cases h
 | succ n ih=>
  intro v1 v2 r h σ hσ;rw[IT] at h;have s0:=fun(r5:(P X0))=> @Ap (Y (rL X0.row) ([r5]:P (P X0)))
  exact gc
instance A2d:Ct 45 (∀{a0} {a1} {r},NV a0 a1=N r→FC Z 45 [.ag (X4.row a0),.sc (.sl (Y zH a1))] [.sc (.o 1 (Y (rL X0.row) r))]):=by
 refine⟨fun h=> ?_⟩;unfold NV at h;refine A4 mixed WK [4] 23 ?_;have s0:= @Ap (Y (rL X0.row) ([]:P (P X0)));have k0:= @A3i;exact gc
instance B3u:Ct 174 (∀{a0} {a1} {r},KG a0 a1=N r→FC Z 174 [.ag (X3.row a0),.ag (X3.row a1)] [.sc (.v (.bool r))]):=by
 refine⟨fun h=> ?_⟩;unfold KG at h;refine A4 mixed h0 [4] 16 ?_;exact gc
def WL:Hw:=([(14,[2,7,8],[],[])],[])
def gD:=fun a2 (k_:U→U→Q V)=>∀{v3 v4} {zr},k_ v3 v4=N zr→Kh Z 175 WL 14 [2,7,8] [] [] ⟨[pI 2 a2,pI 7 v3,pI 8 v4],[],[]⟩ (A7 [6] [.sc (.v (.bool zr))])
theorem A3j{a2}:gD a2 (NP a2):=by
 intro v3 v4 r h σ hσ;unfold NP at h;exact gc
instance B4o:Ct 175 (∀{a0} {a1} {a2} {r},KO a0 a1 a2=N r→FC Z 175 [.sc (.int .i64 a0),.sc (.int .i64 a1),.sc (.int .i64 a2)] [.sc (.v (.bool r))]):=by
 refine⟨fun h=> ?_⟩;unfold KO at h;refine A4 mixed WL [6] 28 ?_;have k0:= @A3j;exact gc
instance B3f:Ct 147 (∀{a0} {a1} {a2} {a3} {r},Nm a0 a1 a2 a3=N r→FC Z 147 [.ag (X1.row a0),.ag (Xh.row a1),.ag (X3.row a2),.ag (X3.row a3)] [.sc (.v (.int .i64 r))]):=by
 refine⟨fun h=> ?_⟩;unfold Nm at h;refine A4 mixed h0 [8] 108 ?_;exact gc
def SV:Hw:=([(6,[3,4,5,13,14,15],[4,5],[]),(20,[3,4,5,10,13,14,15,19,20,21],[4,5,10],[])],[])
def fN:=fun a3 a2 v1 (a0:X1) (a1:Xh) (x3:X3) (k_:U→Q V)=>∀{v4} {zr},k_ v4=N zr→Kh Z 116 SV 20 [3,4,5,10,13,14,15,19,20,21] [4,5,10] [] ⟨[pL 3 X3.row a3,pB 4,pB 5,pB 10,pL 13 X3.row a2,pI 14 (a2.length:U),pI 15 v1,pL 19 X3.row a3,pI 20 (a3.length:U),pI 21 v4],[(4,[aM X7.row a0.Points,aM X2.row a0.Segments]),(5,(dm a1.row)),(10,(dm x3.row))],[]⟩ (A7 [8] [.sc (.v (.bool zr))])
def UY:=fun a3 a2 (a0:X1) (a1:Xh) (k_:U→Q V)=>∀{v1} {zr},k_ v1=N zr→Kh Z 116 SV 6 [3,4,5,13,14,15] [4,5] [] ⟨[pL 3 X3.row a3,pB 4,pB 5,pL 13 X3.row a2,pI 14 (a2.length:U),pI 15 v1],[(4,[aM X7.row a0.Points,aM X2.row a0.Segments]),(5,(dm a1.row))],[]⟩ (A7 [8] [.sc (.v (.bool zr))])
theorem A3k{a3 a2 v1 a0 a1 x3}{Oz}(rM:UY a3 a2 a0 a1 Oz){n:W}:fN a3 a2 v1 a0 a1 x3 (Iq a3 a2 v1 a0 a1 x3 Oz n):=by
 induction n with
 | zero=>intro _ r h; cases h
 | succ n ih=>
  intro v4 r h σ hσ;rw[Iq] at h;have k0:= @rM;exact gc
theorem A3l{a3 a2 a0 a1}{n:W}:UY a3 a2 a0 a1 (Fp a3 a2 a0 a1 n):=by
 induction n with
 | zero=>intro _ r h; cases h
 | succ n ih=>
  intro v1 r h σ hσ;rw[Fp] at h;have k0:= @A3k;exact gc
instance bf:Ct 116 (∀{a0} {a1} {a2} {a3} {r},Ew a0 a1 a2 a3=N r→FC Z 116 [.ag (X1.row a0),.ag (Xh.row a1),.sc (.sl (Y X3.row a2)),.sc (.sl (Y X3.row a3))] [.sc (.v (.bool r))]):=by
 refine⟨fun h=> ?_⟩;unfold Ew at h;refine A4 mixed SV [8] 33 ?_;have k0:= @A3l;exact gc
def O6:Hw:=([(8,[1,2,5,18,19,20],[2],[1088]),(25,[1,2,5,7,8,18,19,20,25,26,27],[2],[1088,1536]),(42,[1,2,5,7,8,10,11,18,19,20,25,26,27,32,33,34],[2],[1088,1536,1984]),(59,[1,2,5,7,8,10,11,13,14,18,19,20,25,26,27,32,33,34,39,40,41],[2,13],[1088,1536,1984,2432])],[(72,2,(O,.frz 2432)),(74,2,(O,.frz 1984)),(76,2,(O,.frz 1536))])
def gM:=fun a1 x4 x8 v1 v5 v9 (a0:X4) (x12:X0) v2 v6 v10 (k_:U→(P V)→Q (P (P (P (P V)))))=>∀{v13 v14} {zr},k_ v13 v14=N zr→Kh Z 79 O6 59 [1,2,5,7,8,10,11,13,14,18,19,20,25,26,27,32,33,34,39,40,41] [2,13] [1088,1536,1984,2432] ⟨[pL 1 (rL X0.row) a1,pB 2,pW 5 1088,pL 7 X0.row x4,pW 8 1536,pL 10 X0.row x8,pW 11 1984,pB 13,pW 14 2432,pL 18 (rL X0.row) a1,pI 19 (a1.length:U),pI 20 v1,pL 25 (rL X0.row) a1,pI 26 (a1.length:U),pI 27 v5,pL 32 X0.row x4,pI 33 (x4.length:U),pI 34 v9,pL 39 X0.row x8,pI 40 (x8.length:U),pI 41 v13],[(2,([aI a0.Forecast.Tide.Mean,aM zA a0.Forecast.Tide.Parts,aM X9.row a0.Forecast.Surges,aM X7.row a0.Chart.Points,aM X2.row a0.Chart.Segments,aM X6.row a0.Fleet,aI a0.Regime.Gap,aB a0.Regime.NoMeet]++dm a0.Crew.row)),(13,(dm x12.row))],[(1088,1,Y (rL (rL (rL rB))) v2),(1536,1,Y (rL (rL rB)) v6),(1984,1,Y (rL rB) v10),(2432,1,Y rB v14)]⟩ (A7 [4] [.sc (.o 1 (Y (rL (rL (rL rB))) zr))])
def Va:=fun a1 x4 x8 v1 v5 (a0:X4) v2 v6 (k_:U→(P (P V))→Q (P (P (P (P V)))))=>∀{v9 v10} {zr},k_ v9 v10=N zr→Kh Z 79 O6 42 [1,2,5,7,8,10,11,18,19,20,25,26,27,32,33,34] [2] [1088,1536,1984] ⟨[pL 1 (rL X0.row) a1,pB 2,pW 5 1088,pL 7 X0.row x4,pW 8 1536,pL 10 X0.row x8,pW 11 1984,pL 18 (rL X0.row) a1,pI 19 (a1.length:U),pI 20 v1,pL 25 (rL X0.row) a1,pI 26 (a1.length:U),pI 27 v5,pL 32 X0.row x4,pI 33 (x4.length:U),pI 34 v9],[(2,([aI a0.Forecast.Tide.Mean,aM zA a0.Forecast.Tide.Parts,aM X9.row a0.Forecast.Surges,aM X7.row a0.Chart.Points,aM X2.row a0.Chart.Segments,aM X6.row a0.Fleet,aI a0.Regime.Gap,aB a0.Regime.NoMeet]++dm a0.Crew.row))],[(1088,1,Y (rL (rL (rL rB))) v2),(1536,1,Y (rL (rL rB)) v6),(1984,1,Y (rL rB) v10)]⟩ (A7 [4] [.sc (.o 1 (Y (rL (rL (rL rB))) zr))])
def V9:=fun a1 x4 v1 (a0:X4) v2 (k_:U→(P (P (P V)))→Q (P (P (P (P V)))))=>∀{v5 v6} {zr},k_ v5 v6=N zr→Kh Z 79 O6 25 [1,2,5,7,8,18,19,20,25,26,27] [2] [1088,1536] ⟨[pL 1 (rL X0.row) a1,pB 2,pW 5 1088,pL 7 X0.row x4,pW 8 1536,pL 18 (rL X0.row) a1,pI 19 (a1.length:U),pI 20 v1,pL 25 (rL X0.row) a1,pI 26 (a1.length:U),pI 27 v5],[(2,([aI a0.Forecast.Tide.Mean,aM zA a0.Forecast.Tide.Parts,aM X9.row a0.Forecast.Surges,aM X7.row a0.Chart.Points,aM X2.row a0.Chart.Segments,aM X6.row a0.Fleet,aI a0.Regime.Gap,aB a0.Regime.NoMeet]++dm a0.Crew.row))],[(1088,1,Y (rL (rL (rL rB))) v2),(1536,1,Y (rL (rL rB)) v6)]⟩ (A7 [4] [.sc (.o 1 (Y (rL (rL (rL rB))) zr))])
def V8:=fun a1 (a0:X4) (k_:U→(P (P (P (P V))))→Q (P (P (P (P V)))))=>∀{v1 v2} {zr},k_ v1 v2=N zr→Kh Z 79 O6 8 [1,2,5,18,19,20] [2] [1088] ⟨[pL 1 (rL X0.row) a1,pB 2,pW 5 1088,pL 18 (rL X0.row) a1,pI 19 (a1.length:U),pI 20 v1],[(2,([aI a0.Forecast.Tide.Mean,aM zA a0.Forecast.Tide.Parts,aM X9.row a0.Forecast.Surges,aM X7.row a0.Chart.Points,aM X2.row a0.Chart.Segments,aM X6.row a0.Fleet,aI a0.Regime.Gap,aB a0.Regime.NoMeet]++dm a0.Crew.row))],[(1088,1,Y (rL (rL (rL rB))) v2)]⟩ (A7 [4] [.sc (.o 1 (Y (rL (rL (rL rB))) zr))])
theorem A3n{a1 x4 x8 v1 v5 v9 a0 x12 v2 v6 v10}{OF}(rY:Va a1 x4 x8 v1 v5 a0 v2 v6 OF){n:W}:gM a1 x4 x8 v1 v5 v9 a0 x12 v2 v6 v10 (IS a1 x4 x8 v1 v5 v9 a0 x12 v2 v6 v10 OF n):=by
 induction n with
 | zero=>intro _ _ r h; cases h
 | succ n ih=>
  intro v13 v14 r h σ hσ;rw[IS] at h;have s0:=fun(r17:V)=> @Ap (Y rB ([r17]:P V))
  have s1:= @Ap (Y (rL rB) ([v14]:P (P V)));have k0:= @rY;exact gc
theorem A3o{a1 x4 x8 v1 v5 a0 v2 v6}{OE}(rX:V9 a1 x4 v1 a0 v2 OE){n:W}:Va a1 x4 x8 v1 v5 a0 v2 v6 (FA a1 x4 x8 v1 v5 a0 v2 v6 OE n):=by
 induction n with
 | zero=>intro _ _ r h; cases h
 | succ n ih=>
  intro v9 v10 r h σ hσ;rw[FA] at h;have s0:= @Ap (Y rB ([]:P V));have s1:= @Ap (Y (rL (rL rB)) ([v10]:P (P (P V))));have k0:= @A3n; have k1:= @rX;exact gc
theorem A3p{a1 x4 v1 a0 v2}{OD}(rW:V8 a1 a0 OD){n:W}:V9 a1 x4 v1 a0 v2 (E0 a1 x4 v1 a0 v2 OD n):=by
 induction n with
 | zero=>intro _ _ r h; cases h
 | succ n ih=>
  intro v5 v6 r h σ hσ;rw[E0] at h;have s0:= @Ap (Y (rL rB) ([]:P (P V)));have s1:= @Ap (Y (rL (rL (rL rB))) ([v6]:P (P (P (P V)))));have k0:= @A3o; have k1:= @rW;exact gc
theorem A3q{a1 a0}{n:W}:V8 a1 a0 (D7 a1 a0 n):=by
 induction n with
 | zero=>intro _ _ r h; cases h
 | succ n ih=>
  intro v1 v2 r h σ hσ;rw[D7] at h;have s0:= @Ap (Y (rL (rL rB)) ([]:P (P (P V))));have k0:= @A3p;exact gc
instance A2c:Ct 79 (∀{a0} {a1} {r},NU a0 a1=N r→FC Z 79 [.ag (X4.row a0),.sc (.sl (Y (rL X0.row) a1))] [.sc (.o 1 (Y (rL (rL (rL rB))) r))]):=by
 refine⟨fun h=> ?_⟩;unfold NU at h;refine A4 mixed O6 [4] 74 ?_;have s0:= @Ap (Y (rL (rL (rL rB))) ([]:P (P (P (P V)))));have k0:= @A3q;exact gc
def SW:Hw:=([(8,[0,3,6,7,8],[],[]),(21,[0,3,4,6,7,8,24],[],[])],[])
def fM:=fun a0 v1 v2 (k_:V→Q U)=>∀{v7} {zr},k_ v7=N zr→Kh Z 80 SW 21 [0,3,4,6,7,8,24] [] [] ⟨[pL 0 X0.row a0,pI 3 v1,pI 4 v2,pL 6 X0.row a0,pI 7 (a0.length:U),pI 8 v2,(24,vc (aB v7))],[],[]⟩ (A7 [2] [.sc (.v (.int .i64 zr))])
def UX:=fun a0 (k_:U→U→Q U)=>∀{v1 v2} {zr},k_ v1 v2=N zr→Kh Z 80 SW 8 [0,3,6,7,8] [] [] ⟨[pL 0 X0.row a0,pI 3 v1,pL 6 X0.row a0,pI 7 (a0.length:U),pI 8 v2],[],[]⟩ (A7 [2] [.sc (.v (.int .i64 zr))])
theorem bu{a0 v1 v2}{Oy}(rK:UX a0 Oy):fM a0 v1 v2 (Ku a0 v1 v2 Oy):=by
 intro v7 r h σ hσ;unfold Ku at h;have k0:= @rK;exact gc
theorem A3r{a0}{n:W}:UX a0 (DW a0 n):=by
 induction n with
 | zero=>intro _ _ r h; cases h
 | succ n ih=>
  intro v1 v2 r h σ hσ S hS;refine ev hS ?_;rw[DW] at h;refine AM (AA ?_);obtain⟨h3,h⟩|⟨h3,h⟩:=ic h
  ·obtain⟨x4,h4,h⟩:=ob h;try simp only[hσ,h3,h4,C,E,F,G,H,J]
   refine Bv ?_;try simp only[h3,h4,C,E,F,G,H,J]
   refine An ?_;obtain⟨h5,h⟩|⟨h5,h⟩:=ic h
   ·try simp only[h3,h4,h5,C,E,F,G,H,J]
    refine bu ih h ?_ (by kernel_rfl);try simp only[h3,h4,h5,C,E,F,G,H,J,pL,aM,I]
   ·obtain⟨x6,h6,h⟩:=ob h;try simp only[h3,h4,h5,h6,C,E,F,G,H,J]
    refine bu ih h ?_ (by kernel_rfl);try simp only[h3,h4,h5,h6,C,E,F,G,H,J,pL,aM,I]
  ·try simp only[hσ,h3,C,E,F,G,H,J]
   cases h;exact t0
instance be:Ct 80 (∀{a0} {r},Gu a0=N r→FC Z 80 [.sc (.sl (Y X0.row a0))] [.sc (.v (.int .i64 r))]):=by
 refine⟨fun h=> ?_⟩;unfold Gu at h;refine A4 mixed SW [2] 28 ?_;have k0:= @A3r;exact gc
def WM:Hw:=([(8,[3,7,8,9],[],[384])],[(19,5,(O,.frz 896))])
def fI:=fun a0 (k_:U→(P (P X3))→Q (P (P X3)))=>∀{v1 v2} {zr},k_ v1 v2=N zr→Kh Z 118 WM 8 [3,7,8,9] [] [384] ⟨[pW 3 384,pL 7 X0.row a0,pI 8 (a0.length:U),pI 9 v1],[],[(384,1,Y (rL X3.row) v2)]⟩ (A7 [2] [.sc (.o 1 (Y (rL X3.row) zr))])
theorem A3s{a0}{n:W}:fI a0 (In a0 n):=by
 induction n with
 | zero=>intro _ _ r h; cases h
 | succ n ih=>
  intro v1 v2 r h σ hσ;rw[In] at h;have s0:= @Ap (Y X3.row ([]:P X3));have s1:=fun(x4:X0)=> @Ap (Y (rL X3.row) ([x4.Passages]:P (P X3)))
  exact gc
instance A1w:Ct 118 (∀{a0} {r},Kt a0=N r→FC Z 118 [.sc (.sl (Y X0.row a0))] [.sc (.o 1 (Y (rL X3.row) r))]):=by
 refine⟨fun h=> ?_⟩;unfold Kt at h;refine A4 mixed WM [2] 22 ?_;have s0:= @Ap (Y (rL X3.row) ([]:P (P X3)));have k0:= @A3s;exact gc
instance B3w:Ct 200 (∀{a0} {a1} {a2} {r},KH a0 a1 a2=N r→FC Z 200 [.ag (X1.row a0),.sc (.sl (Y X6.row a1)),.ag (X3.row a2)] [.sc (.v (.bool r))]):=by
 refine⟨fun h=> ?_⟩;unfold KH at h;refine A4 mixed h0 [6] 60 ?_;exact gc
instance B4m:Ct 201 (∀{a0} {a1} {r},Fx a0 a1=N r→FC Z 201 [.ag (X1.row a0),.ag (X3.row a1)] [.sc (.v (.int .i64 r.1)),.sc (.v (.int .i64 r.2))]):=by
 refine⟨fun h=> ?_⟩;unfold Fx at h;refine A4 mixed h0 [4,5] 23 ?_;exact gc
def SX:Hw:=([(8,[1,3,8,15,16,17],[3],[896]),(33,[1,3,8,10,11,12,13,15,16,17],[3,10],[896])],[])
def gJ:=fun a1 (r7:U × U) a2 v1 (a0:X1) (x4:X3) (k_:U→(P Xa)→Q ((P Xa) × V))=>∀{v8 v9} {zr},k_ v8 v9=N zr→Kh Z 176 SX 33 [1,3,8,10,11,12,13,15,16,17] [3,10] [896] ⟨[pL 1 X6.row a1,pB 3,pW 8 896,pB 10,pI 11 r7.1,pI 12 r7.2,pI 13 v8,pL 15 X3.row a2,pI 16 (a2.length:U),pI 17 v1],[(3,[aM X7.row a0.Points,aM X2.row a0.Segments]),(10,(dm x4.row))],[(896,4,Y zB v9)]⟩ (A7 [6,7] [.sc (.o 4 (Y zB zr.1)),.sc (.v (.bool zr.2))])
def V7:=fun a1 a2 (a0:X1) (k_:U→(P Xa)→Q ((P Xa) × V))=>∀{v1 v2} {zr},k_ v1 v2=N zr→Kh Z 176 SX 8 [1,3,8,15,16,17] [3] [896] ⟨[pL 1 X6.row a1,pB 3,pW 8 896,pL 15 X3.row a2,pI 16 (a2.length:U),pI 17 v1],[(3,[aM X7.row a0.Points,aM X2.row a0.Segments])],[(896,4,Y zB v2)]⟩ (A7 [6,7] [.sc (.o 4 (Y zB zr.1)),.sc (.v (.bool zr.2))])
theorem A3t{a1 r7 a2 v1 a0 x4}{OC}(rV:V7 a1 a2 a0 OC){n:W}:gJ a1 r7 a2 v1 a0 x4 (GK a1 r7 a2 v1 a0 x4 OC n):=by
 induction n with
 | zero=>intro _ _ r h; cases h
 | succ n ih=>
  intro v8 v9 r h σ hσ;rw[GK] at h;have s0:= @Ap (Y zB ([(⟨x4.Start,x4.End,r7.1,r7.2⟩:Xa)]:P Xa));have k0:= @rV;exact gc
theorem A3u{a1 a2 a0}{n:W}:V7 a1 a2 a0 (Fz a1 a2 a0 n):=by
 induction n with
 | zero=>intro _ _ r h; cases h
 | succ n ih=>
  intro v1 v2 r h σ hσ;rw[Fz] at h;have k0:= @A3t;exact gc
instance B4s:Ct 176 (∀{a0} {a1} {a2} {r},Qq a0 a1 a2=N r→FC Z 176 [.ag (X1.row a0),.sc (.sl (Y X6.row a1)),.sc (.sl (Y X3.row a2))] [.sc (.o 4 (Y zB r.1)),.sc (.v (.bool r.2))]):=by
 refine⟨fun h=> ?_⟩;unfold Qq at h;refine A4 mixed SX [6,7] 57 ?_;have s0:= @Ap (Y zB ([]:P Xa));have k0:= @A3u;exact gc
instance B4q:Ct 225 (∀{a0} {r},IQ a0=N r→FC Z 225 [.ag (zB a0)] [.sc (.v (.bool r))]):=by
 refine⟨fun h=> ?_⟩;unfold IQ at h;refine A4 mixed h0 [2] 28 ?_;exact gc
def WO:Hw:=([(14,[8,9,10],[],[])],[])
def fP:=fun a0 (k_:U→Q V)=>∀{v2} {zr},k_ v2=N zr→Kh Z 202 WO 14 [8,9,10] [] [] ⟨[pL 8 zB a0,pI 9 (a0.length:U),pI 10 v2],[],[]⟩ (A7 [2] [.sc (.v (.bool zr))])
theorem A3v{a0}{n:W}:fP a0 (Iu a0 n):=by
 induction n with
 | zero=>intro _ r h; cases h
 | succ n ih=>
  intro v2 r h σ hσ;rw[Iu] at h;exact gc
instance B3h:Ct 202 (∀{a0} {r},Np a0=N r→FC Z 202 [.sc (.sl (Y zB a0))] [.sc (.v (.bool r))]):=by
 refine⟨fun h=> ?_⟩;unfold Np at h;refine A4 mixed WO [2] 18 ?_;have k0:= @A3v;exact gc
def WP:Hw:=([(5,[0,1,6,7,25],[6,7],[])],[])
def fT:=fun a0 a1 (a2:Xa) (a3:Xa) (k_:V→Q (U × V))=>∀{v6} {zr},k_ v6=N zr→Kh Z 245 WP 5 [0,1,6,7,25] [6,7] [] ⟨[pI 0 a0,pL 1 rI a1,pB 6,pB 7,(25,vc (aB v6))],[(6,(dm a2.row)),(7,(dm a3.row))],[]⟩ (A7 [8,9] [.sc (.v (.int .i64 zr.1)),.sc (.v (.bool zr.2))])
theorem A3w{a0 a1 a2 a3}:fT a0 a1 a2 a3 (KA a0 a1 a2 a3):=by
 intro v6 r h σ hσ;unfold KA at h;exact gc
instance B3k:Ct 245 (∀{a0} {a1} {a2} {a3} {r},Qi a0 a1 a2 a3=N r→FC Z 245 [.sc (.int .i64 a0),.sc (.sl (Y rI a1)),.ag (zB a2),.ag (zB a3)] [.sc (.v (.int .i64 r.1)),.sc (.v (.bool r.2))]):=by
 refine⟨fun h=> ?_⟩;unfold Qi at h;refine A4 mixed WP [8,9] 37 ?_;have k0:= @A3w;exact gc
instance B3e:Ct 226 (∀{a0} {a1} {a2} {a3} {r},Ks a0 a1 a2 a3=N r→FC Z 226 [.sc (.int .i64 a0),.sc (.sl (Y rI a1)),.ag (zB a2),.ag (zB a3)] [.sc (.v (.bool r))]):=by
 refine⟨fun h=> ?_⟩;unfold Ks at h;refine A4 mixed h0 [8] 37 ?_;exact gc
def SY:Hw:=([(8,[0,1,2,7,14,15,16],[],[832]),(25,[0,1,2,7,9,10,14,15,16,21,22,23],[9],[832,1280])],[(38,2,(O,.frz 1280))])
def gE:=fun a0 a1 a2 v1 (x4:Xa) v2 (k_:U→(P V)→Q (P (P V)))=>∀{v5 v6} {zr},k_ v5 v6=N zr→Kh Z 203 SY 25 [0,1,2,7,9,10,14,15,16,21,22,23] [9] [832,1280] ⟨[pI 0 a0,pL 1 rI a1,pL 2 zB a2,pW 7 832,pB 9,pW 10 1280,pL 14 zB a2,pI 15 (a2.length:U),pI 16 v1,pL 21 zB a2,pI 22 (a2.length:U),pI 23 v5],[(9,(dm x4.row))],[(832,1,Y (rL rB) v2),(1280,1,Y rB v6)]⟩ (A7 [6] [.sc (.o 1 (Y (rL rB) zr))])
def V6:=fun a0 a1 a2 (k_:U→(P (P V))→Q (P (P V)))=>∀{v1 v2} {zr},k_ v1 v2=N zr→Kh Z 203 SY 8 [0,1,2,7,14,15,16] [] [832] ⟨[pI 0 a0,pL 1 rI a1,pL 2 zB a2,pW 7 832,pL 14 zB a2,pI 15 (a2.length:U),pI 16 v1],[],[(832,1,Y (rL rB) v2)]⟩ (A7 [6] [.sc (.o 1 (Y (rL rB) zr))])
theorem A3x{a0 a1 a2 v1 x4 v2}{L7}(rT:V6 a0 a1 a2 L7){n:W}:gE a0 a1 a2 v1 x4 v2 (GG a0 a1 a2 v1 x4 v2 L7 n):=by
 induction n with
 | zero=>intro _ _ r h; cases h
 | succ n ih=>
  intro v5 v6 r h σ hσ;rw[GG] at h;have s0:= @Ap (Y rB ([T]:P V));have s1:=fun(r12:V)=> @Ap (Y rB ([r12]:P V))
  have s2:= @Ap (Y (rL rB) ([v6]:P (P V)));have k0:= @rT;exact gc
theorem A3y{a0 a1 a2}{n:W}:V6 a0 a1 a2 (Fy a0 a1 a2 n):=by
 induction n with
 | zero=>intro _ _ r h; cases h
 | succ n ih=>
  intro v1 v2 r h σ hσ;rw[Fy] at h;have s0:= @Ap (Y rB ([]:P V));have k0:= @A3x;exact gc
instance B4p:Ct 203 (∀{a0} {a1} {a2} {r},NQ a0 a1 a2=N r→FC Z 203 [.sc (.int .i64 a0),.sc (.sl (Y rI a1)),.sc (.sl (Y zB a2))] [.sc (.o 1 (Y (rL rB) r))]):=by
 refine⟨fun h=> ?_⟩;unfold NQ at h;refine A4 mixed SY [6] 49 ?_;have s0:= @Ap (Y (rL rB) ([]:P (P V)));have k0:= @A3y;exact gc
def O7:Hw:=([(16,[0,1,2,8,23,24,25],[],[]),(33,[0,1,2,8,11],[],[]),(48,[0,1,2,8,11,12,44,45,46],[],[]),(80,[0,1,2,8,11],[],[])],[(72,8,(O,.frz 4480))])
def gH:=fun a0 a1 a2 v2 v6 (k_:Q ((P U) × V))=>∀{zr},k_=N zr→Kh Z 204 O7 80 [0,1,2,8,11] [] [] ⟨[pL 0 (rL rB) a0,pL 1 rI a1,pI 2 a2,pI 8 v2,pI 11 v6],[],[]⟩ (A7 [6,7] [.sc (.v (.sl (Y rI zr.1))),.sc (.v (.bool zr.2))])
def gG:=fun a0 a1 a2 v2 v6 (k_:V→U→Q ((P U) × V))=>∀{v9 v10} {zr},k_ v9 v10=N zr→Kh Z 204 O7 48 [0,1,2,8,11,12,44,45,46] [] [] ⟨[pL 0 (rL rB) a0,pL 1 rI a1,pI 2 a2,pI 8 v2,pI 11 v6,(12,vc (aB v9)),pL 44 rI a1,pI 45 (a1.length:U),pI 46 v10],[],[]⟩ (A7 [6,7] [.sc (.v (.sl (Y rI zr.1))),.sc (.v (.bool zr.2))])
def RX:=fun a0 a1 a2 v2 (k_:U→Q ((P U) × V))=>∀{v6} {zr},k_ v6=N zr→Kh Z 204 O7 33 [0,1,2,8,11] [] [] ⟨[pL 0 (rL rB) a0,pL 1 rI a1,pI 2 a2,pI 8 v2,pI 11 v6],[],[]⟩ (A7 [6,7] [.sc (.v (.sl (Y rI zr.1))),.sc (.v (.bool zr.2))])
def gF:=fun a0 a1 a2 (k_:U→U→Q ((P U) × V))=>∀{v2 v3} {zr},k_ v2 v3=N zr→Kh Z 204 O7 16 [0,1,2,8,23,24,25] [] [] ⟨[pL 0 (rL rB) a0,pL 1 rI a1,pI 2 a2,pI 8 v2,pL 23 rI a1,pI 24 (a1.length:U),pI 25 v3],[],[]⟩ (A7 [6,7] [.sc (.v (.sl (Y rI zr.1))),.sc (.v (.bool zr.2))])
theorem A30{rec_:(P (P V))→(P U)→U→Q ((P U) × V)}(h_rec:∀(a0:P (P V)) (a1:P U) (a2:U) zr,rec_ a0 a1 a2=N zr→FC Z 204 [.sc (.sl (Y (rL rB) a0)),.sc (.sl (Y rI a1)),.sc (.int .i64 a2)] [.sc (.v (.sl (Y rI zr.1))),.sc (.v (.bool zr.2))]){a0 a1 a2 v2 v6}{De}(Yk:RX a0 a1 a2 v2 De):gH a0 a1 a2 v2 v6 (KP rec_ a0 a1 a2 v2 v6 De):=by
 intro r h σ hσ;unfold KP at h;have:Ct 204 _:=⟨h_rec⟩;have k0:= @Yk;exact gc
theorem A31{rec_:(P (P V))→(P U)→U→Q ((P U) × V)}(h_rec:∀(a0:P (P V)) (a1:P U) (a2:U) zr,rec_ a0 a1 a2=N zr→FC Z 204 [.sc (.sl (Y (rL rB) a0)),.sc (.sl (Y rI a1)),.sc (.int .i64 a2)] [.sc (.v (.sl (Y rI zr.1))),.sc (.v (.bool zr.2))]){a0 a1 a2 v2 v6}{De}(Yk:RX a0 a1 a2 v2 De){n:W}:gG a0 a1 a2 v2 v6 (Dv rec_ a0 a1 a2 v2 v6 De n):=by
 induction n with
 | zero=>intro _ _ r h; cases h
 | succ n ih=>
  intro v9 v10 r h σ hσ;rw[Dv] at h;have:Ct 204 _:=⟨h_rec⟩;have s0:= @Ap (Y rI ([]:P U));have s1:= @Ap (Y rI ([v6]:P U));have k0:= @A30;exact gc
theorem A32{rec_:(P (P V))→(P U)→U→Q ((P U) × V)}(h_rec:∀(a0:P (P V)) (a1:P U) (a2:U) zr,rec_ a0 a1 a2=N zr→FC Z 204 [.sc (.sl (Y (rL rB) a0)),.sc (.sl (Y rI a1)),.sc (.int .i64 a2)] [.sc (.v (.sl (Y rI zr.1))),.sc (.v (.bool zr.2))]){a0 a1 a2 v2}{n:W}:RX a0 a1 a2 v2 (DZ rec_ a0 a1 a2 v2 n):=by
 induction n with
 | zero=>intro _ r h; cases h
 | succ n ih=>
  intro v6 r h σ hσ;rw[DZ] at h;have:Ct 204 _:=⟨h_rec⟩;have k0:= @A31;exact gc
theorem A33{rec_:(P (P V))→(P U)→U→Q ((P U) × V)}(h_rec:∀(a0:P (P V)) (a1:P U) (a2:U) zr,rec_ a0 a1 a2=N zr→FC Z 204 [.sc (.sl (Y (rL rB) a0)),.sc (.sl (Y rI a1)),.sc (.int .i64 a2)] [.sc (.v (.sl (Y rI zr.1))),.sc (.v (.bool zr.2))]){a0 a1 a2}{n:W}:gF a0 a1 a2 (GH rec_ a0 a1 a2 n):=by
 induction n with
 | zero=>intro _ _ r h; cases h
 | succ n ih=>
  intro v2 v3 r h σ hσ;rw[GH] at h;have:Ct 204 _:=⟨h_rec⟩;have k0:= @A32;exact gc
theorem A18(rec_:(P (P V))→(P U)→U→Q ((P U) × V))(a0:P (P V))(a1:P U)(a2:U)(r:(P U) × V)(h_rec:∀(a0:P (P V)) (a1:P U) (a2:U) zr,rec_ a0 a1 a2=N zr→FC Z 204 [.sc (.sl (Y (rL rB) a0)),.sc (.sl (Y rI a1)),.sc (.int .i64 a2)] [.sc (.v (.sl (Y rI zr.1))),.sc (.v (.bool zr.2))])(h:NR rec_ a0 a1 a2=N r):FC Z 204 [.sc (.sl (Y (rL rB) a0)),.sc (.sl (Y rI a1)),.sc (.int .i64 a2)] [.sc (.v (.sl (Y rI r.1))),.sc (.v (.bool r.2))]:=by
 unfold NR at h;refine A4 mixed O7 [6,7] 82 ?_;have:Ct 204 _:=⟨h_rec⟩;have k0:= @A33;exact gc
theorem A19:∀(n:W) (a0:P (P V)) (a1:P U) (a2:U) (r:(P U) × V),Cl n a0 a1 a2=N r→FC Z 204 [.sc (.sl (Y (rL rB) a0)),.sc (.sl (Y rI a1)),.sc (.int .i64 a2)] [.sc (.v (.sl (Y rI r.1))),.sc (.v (.bool r.2))]:=by
 intro n
 induction n with
 | zero=>intro _ _ _ r h; cases h
 | succ n ih=>intro a0 a1 a2 r h; rw[Cl] at h; exact A18 (Cl n) a0 a1 a2 r ih h
theorem A17{a0}{a1}{a2}{r}(h:Qp a0 a1 a2=N r):FC Z 204 [.sc (.sl (Y (rL rB) a0)),.sc (.sl (Y rI a1)),.sc (.int .i64 a2)] [.sc (.v (.sl (Y rI r.1))),.sc (.v (.bool r.2))]:=A19 bigN a0 a1 a2 r h
def SZ:Hw:=([(5,[0,1,2,21],[],[]),(16,[2,9,10],[],[])],[(11,4,(O,.frz 1600)),(26,3,(O,.frz 2176))])
def fZ:=fun a2 r6 (k_:U→Q ((P U) × U × V))=>∀{v7} {zr},k_ v7=N zr→Kh Z 177 SZ 16 [2,9,10] [] [] ⟨[pL 2 zB a2,pL 9 (rL rB) r6,pI 10 v7],[],[]⟩ (A7 [6,7,8] [.sc (.v (.sl (Y rI zr.1))),.sc (.v (.int .i64 zr.2.1)),.sc (.v (.bool zr.2.2))])
def fY:=fun a0 a1 a2 (k_:V→Q ((P U) × U × V))=>∀{v4} {zr},k_ v4=N zr→Kh Z 177 SZ 5 [0,1,2,21] [] [] ⟨[pI 0 a0,pL 1 rI a1,pL 2 zB a2,(21,vc (aB v4))],[],[]⟩ (A7 [6,7,8] [.sc (.v (.sl (Y rI zr.1))),.sc (.v (.int .i64 zr.2.1)),.sc (.v (.bool zr.2.2))])
theorem A34{a2 r6}{n:W}:fZ a2 r6 (Iy a2 r6 n):=by
 induction n with
 | zero=>intro _ r h; cases h
 | succ n ih=>
  intro v7 r h σ hσ S hS;refine ev hS ?_;rw[Iy] at h;refine AM (AA ?_);obtain⟨h8,h⟩|⟨h8,h⟩:=ic h
  ·try simp only[hσ,h8,C,E,F,G,H,J]
   refine Be (es:=Y rI ([]:P U)) ?_;try simp only[h8,C,E,F,G,H,J]
   refine C8 ?_;obtain⟨r9,h9,h⟩:=ob h;try simp only[h8,C,E,F,G,H,J]
   refine AE (A17 h9) ?_;obtain⟨h10,h⟩|⟨h10,h⟩:=ic h
   ·try simp only[h8,h10,C,E,F,G,H,J]
    cases h;trivial
   ·try simp only[h8,h10,C,E,F,G,H,J]
    refine ih h ?_ (by kernel_rfl);try simp only[h8,h10,C,E,F,G,H,J,pL,aM,I]
  ·try simp only[hσ,h8,C,E,F,G,H,J]
   cases h;trivial
theorem A35{a0 a1 a2}:fY a0 a1 a2 (Nu a0 a1 a2):=by
 intro v4 r h σ hσ;unfold Nu at h;have k0:= @A34;exact gc
instance B3p:Ct 177 (∀{a0} {a1} {a2} {r},Ix a0 a1 a2=N r→FC Z 177 [.sc (.int .i64 a0),.sc (.sl (Y rI a1)),.sc (.sl (Y zB a2))] [.sc (.v (.sl (Y rI r.1))),.sc (.v (.int .i64 r.2.1)),.sc (.v (.bool r.2.2))]):=by
 refine⟨fun h=> ?_⟩;unfold Ix at h;refine A4 mixed SZ [6,7,8] 42 ?_;have k0:= @A35;exact gc
def qk:Hw:=([],[(13,3,(O,.frz 1152))])
instance B4b:Ct 148 (∀{a0} {a1} {a2} {a3} {r},KI a0 a1 a2 a3=N r→FC Z 148 [.ag (Xm.row a0),.ag (X1.row a1),.sc (.sl (Y X6.row a2)),.sc (.sl (Y X3.row a3))] [.sc (.v (.int .i64 r))]):=by
 refine⟨fun h=> ?_⟩;unfold KI at h;refine A4 mixed qk [8] 39 ?_;exact gc
def WQ:Hw:=([(14,[1,2,14,15,16],[2],[])],[])
def fV:=fun a1 (a0:X1) (k_:U→Q V)=>∀{v3} {zr},k_ v3=N zr→Kh Z 205 WQ 14 [1,2,14,15,16] [2] [] ⟨[pL 1 X3.row a1,pB 2,pL 14 X3.row a1,pI 15 (a1.length:U),pI 16 v3],[(2,[aM X7.row a0.Points,aM X2.row a0.Segments])],[]⟩ (A7 [4] [.sc (.v (.bool zr))])
theorem A36{a1 a0}{n:W}:fV a1 a0 (Gw a1 a0 n):=by
 induction n with
 | zero=>intro _ r h; cases h
 | succ n ih=>
  intro v3 r h σ hσ;rw[Gw] at h;exact gc
instance B3n:Ct 205 (∀{a0} {a1} {r},Nr a0 a1=N r→FC Z 205 [.ag (X1.row a0),.sc (.sl (Y X3.row a1))] [.sc (.v (.bool r))]):=by
 refine⟨fun h=> ?_⟩;unfold Nr at h;refine A4 mixed WQ [4] 71 ?_;have k0:= @A36;exact gc
def T0:Hw:=([(5,[1,2,3,6,23],[3,6],[]),(14,[1,2,3,6,25,26,27],[3,6],[])],[])
def fg:=fun a1 a2 (a0:X1) (k_:U→Q (Xa × V))=>∀{v5} {zr},k_ v5=N zr→Kh Z 178 T0 14 [1,2,3,6,25,26,27] [3,6] [] ⟨[pL 1 X6.row a1,pL 2 X3.row a2,pB 3,pB 6,pL 25 X3.row a2,pI 26 (a2.length:U),pI 27 v5],[(3,[aM X7.row a0.Points,aM X2.row a0.Segments]),(6,[aI (0:U),aI (0:U),aI (0:U),aI (0:U)])],[]⟩ (A7 [.c 6 T 4,7] [.ag [.v (.int .i64 zr.1.From),.v (.int .i64 zr.1.To),.v (.int .i64 zr.1.A),.v (.int .i64 zr.1.B)],.sc (.v (.bool zr.2))])
def ff:=fun a1 a2 (a0:X1) (k_:V→Q (Xa × V))=>∀{v3} {zr},k_ v3=N zr→Kh Z 178 T0 5 [1,2,3,6,23] [3,6] [] ⟨[pL 1 X6.row a1,pL 2 X3.row a2,pB 3,pB 6,(23,vc (aB v3))],[(3,[aM X7.row a0.Points,aM X2.row a0.Segments]),(6,[aI (0:U),aI (0:U),aI (0:U),aI (0:U)])],[]⟩ (A7 [.c 6 T 4,7] [.ag [.v (.int .i64 zr.1.From),.v (.int .i64 zr.1.To),.v (.int .i64 zr.1.A),.v (.int .i64 zr.1.B)],.sc (.v (.bool zr.2))])
theorem A37{a1 a2 a0}{n:W}:fg a1 a2 a0 (IC a1 a2 a0 n):=by
 induction n with
 | zero=>intro _ r h; cases h
 | succ n ih=>
  intro v5 r h σ hσ;rw[IC] at h;exact gc
theorem A38{a1 a2 a0}:ff a1 a2 a0 (NA a1 a2 a0):=by
 intro v3 r h σ hσ;unfold NA at h;have k0:= @A37;exact gc
instance B3x:Ct 178 (∀{a0} {a1} {a2} {r},Nz a0 a1 a2=N r→FC Z 178 [.ag (X1.row a0),.sc (.sl (Y X6.row a1)),.sc (.sl (Y X3.row a2))] [.ag [.v (.int .i64 r.1.From),.v (.int .i64 r.1.To),.v (.int .i64 r.1.A),.v (.int .i64 r.1.B)],.sc (.v (.bool r.2))]):=by
 refine⟨fun h=> ?_⟩;unfold Nz at h;refine A4 mixed T0 [.c 6 T 4,7] 67 ?_;have k0:= @A38;exact gc
def WS:Hw:=([(16,[2,4,5,9,21,22,23],[4,5],[1280])],[(46,5,(O,.frz 1280))])
def fh:=fun a2 a3 (a0:Xm) (a1:X1) (k_:U→(P Xa)→Q U)=>∀{v3 v4} {zr},k_ v3 v4=N zr→Kh Z 149 WS 16 [2,4,5,9,21,22,23] [4,5] [1280] ⟨[pL 2 X6.row a2,pB 4,pB 5,pW 9 1280,pL 21 (rL X3.row) a3,pI 22 (a3.length:U),pI 23 v3],[(4,(dm a0.row)),(5,[aM X7.row a1.Points,aM X2.row a1.Segments])],[(1280,4,Y zB v4)]⟩ (A7 [8] [.sc (.v (.int .i64 zr))])
theorem A39{a2 a3 a0 a1}{n:W}:fh a2 a3 a0 a1 (Gy a2 a3 a0 a1 n):=by
 induction n with
 | zero=>intro _ _ r h; cases h
 | succ n ih=>
  intro v3 v4 r h σ hσ;rw[Gy] at h;have s0:=fun(r9:Xa × V)=> @Ap (Y zB ([r9.1]:P Xa))
  exact gc
instance B3y:Ct 149 (∀{a0} {a1} {a2} {a3} {r},NB a0 a1 a2 a3=N r→FC Z 149 [.ag (Xm.row a0),.ag (X1.row a1),.sc (.sl (Y X6.row a2)),.sc (.sl (Y (rL X3.row) a3))] [.sc (.v (.int .i64 r))]):=by
 refine⟨fun h=> ?_⟩;unfold NB at h;refine A4 mixed WS [8] 57 ?_;have s0:= @Ap (Y zB ([]:P Xa));have k0:= @A39;exact gc
def WT:Hw:=([(8,[2,3,4,5,9,13,14,15],[4,5],[768])],[])
def fO:=fun a2 a3 (a0:Xm) (a1:X1) (k_:U→(P X3)→Q V)=>∀{v1 v2} {zr},k_ v1 v2=N zr→Kh Z 117 WT 8 [2,3,4,5,9,13,14,15] [4,5] [768] ⟨[pL 2 X6.row a2,pL 3 (rL X3.row) a3,pB 4,pB 5,pW 9 768,pL 13 (rL X3.row) a3,pI 14 (a3.length:U),pI 15 v1],[(4,(dm a0.row)),(5,[aM X7.row a1.Points,aM X2.row a1.Segments])],[(768,5,Y X3.row v2)]⟩ (A7 [8] [.sc (.v (.bool zr))])
theorem A4a{a2 a3 a0 a1}{n:W}:fO a2 a3 a0 a1 (It a2 a3 a0 a1 n):=by
 induction n with
 | zero=>intro _ _ r h; cases h
 | succ n ih=>
  intro v1 v2 r h σ hσ;rw[It] at h;exact gc
instance A1y:Ct 117 (∀{a0} {a1} {a2} {a3} {r},Nn a0 a1 a2 a3=N r→FC Z 117 [.ag (Xm.row a0),.ag (X1.row a1),.sc (.sl (Y X6.row a2)),.sc (.sl (Y (rL X3.row) a3))] [.sc (.v (.bool r))]):=by
 refine⟨fun h=> ?_⟩;unfold Nn at h;refine A4 mixed WT [8] 41 ?_;have s0:= @Ap (Y X3.row ([]:P X3));have k0:= @A4a;exact gc
def Hc:P (P W × AItem):= [([],(O,.mv 135 (S 0))),([],(O,.bslice 136 1 [.int .i64 0] 0 [])),([],(O,.mv 137 (S 1))),([1,2],(O,.app 138 1 8 (S 136) (S 137))),([],(O,.mv 139 (S 10))),([4],(O,.bslice 140 1 [.int .i64 0] 1 [(0,(S 139))])),([3,5,3],(O,.app 141 1 8 (S 138) (S 140))),([],(O,.mv 142 (S 2))),([],(O,.faddr 143 (S 11) 2)),([8],(O,.load 144 (S 143) L 1)),([7,9],(O,.bin 145 .add (S 142) (S 144))),([0,6,10,6],(O,.call 146 81 [(S 135),(S 141),(S 145)]))]
def KZ:Hw:=([(8,[0,1,2,6],[99999999999],[90000]),(18,[0,1,2,7,45,46,47],[99999999999],[90000,2816]),(46,[0,1,2,6,103,104,105],[99999999999],[90000]),(63,[0,1,2,6,10,11,12,103,104,105,110,111,112],[99999999999,11],[90000])],[(33,0,(O,.frz 2816))])
abbrev Bq(a1:P U)(a2 v18:U)(x17:P X0)(x38:X0)(wo1_ wo3_ wo6_:AV)(c0_ c1_:V)(c2_ c3_:V)(c4_ c5_:V)(c6_ c7_:V)(c8_ c9_:V)(c10_ c11_:V)(bx_:P (W × P AC))(rs_:Rows):St:=⟨[(0,vc (.pb 99999999999 0)),(1,vc (aL (Y rI a1))),(2,vc (aI a2)),(6,vc (aI (a1.length:U))),(10,vc (aI v18)),(11,vc (.pb 11 0)),(103,vc (aL (Y X0.row x17))),(104,vc (aI (x17.length:U))),(105,vc (aI v18)),(135,bif c0_ then vc (.pb 99999999999 0) else .undef),(136,bif c1_ then wo1_ else .undef),(137,bif c2_ then vc (aL (Y rI a1)) else .undef),(138,bif c3_ then wo3_ else .undef),(139,bif c4_ then vc (aI v18) else .undef),(140,bif c5_ then vc (.own 8960) else .undef),(141,bif c6_ then wo6_ else .undef),(142,bif c7_ then vc (aI a2) else .undef),(143,bif c8_ then vc (.pb 11 2) else .undef),(144,bif c9_ then vc (aI x38.Cost) else .undef),(145,bif c10_ then vc (aI (zI .i64 (a2+x38.Cost))) else .undef),(146,bif c11_ then .tup [] else .undef)],bx_,rs_⟩
abbrev EW(a1:P U)(a2 v18:U)(x17:P X0)(x38:X0)(r51:Xe):St:=(Bq a1 a2 v18 x17 x38 (vc (.undef)) (vc (.undef)) (vc (aL (Y rI (a1++([v18]:P U))))) T T T T T T T T T T T T [(99999999999,([aI r51.h.Forecast.Tide.Mean,aL (Y zA r51.h.Forecast.Tide.Parts),aL (Y X9.row r51.h.Forecast.Surges),aL (Y X7.row r51.h.Chart.Points),aL (Y X2.row r51.h.Chart.Segments),aL (Y X6.row r51.h.Fleet),aI r51.h.Regime.Gap,aB r51.h.Regime.NoMeet]++dm r51.h.Crew.row++ [aL (Y (rL X0.row) r51.lists),aL (Y (rL (rL (rL rB))) r51.clash),aL (Y rI r51.rest),.own 90000,aI r51.cost,aB r51.found])),(11,(dm x38.row))] [(90000,1,Y rI r51.best),(8960,1,Y rI ([v18]:P U))])
theorem A4b(rec_:Xe→(P U)→U→Q Xe)(h_rec:∀(a0:Xe) (a1:P U) (a2:U) zr,rec_ a0 a1 a2=N zr→FCz Z 81 [.p,.d (.sc (.sl (Y rI a1))),.d (.sc (.int .i64 a2))] (AX a0) (AY a0) (AX zr) (AY zr) [])(a1:P U)(a2)(v18)(x17:P X0)(v19)(v20)(v21)(v22)(v23)(v24)(v25)(v26)(v27)(v28)(v29)(v30)(v31)(v32)(v33)(v34)(v35)(x38:X0)(v36)(r51)(h49:(A3 ([]:P U).length a1.length 8)=T)(h50:(A3 a1.length ([v18]:P U).length 8)=T)(h51:rec_ (⟨(⟨(⟨(⟨v19,v20⟩:Xl),v21⟩:Xd),(⟨v22,v23⟩:X1),v24,(⟨v25,v26⟩:Xh),(⟨v27,v28,v29,v30⟩:Xm)⟩:X4),v31,v32,v33,v36,v34,v35⟩:Xe) (a1++([v18]:P U)) (zI .i64 (a2+x38.Cost))=N r51):∀(f:W) (b7 b8 b9:V),Ad Z Hc (EW a1 a2 v18 x17 x38 r51) f [T,T,T,T,T,T,T,b7,b8,b9,T,T] (Bq a1 a2 v18 x17 x38 (vc (.undef)) (vc (.undef)) (vc (aL (Y rI (a1++([v18]:P U))))) T T T T T T T b7 b8 b9 T T [(99999999999,([aI r51.h.Forecast.Tide.Mean,aL (Y zA r51.h.Forecast.Tide.Parts),aL (Y X9.row r51.h.Forecast.Surges),aL (Y X7.row r51.h.Chart.Points),aL (Y X2.row r51.h.Chart.Segments),aL (Y X6.row r51.h.Fleet),aI r51.h.Regime.Gap,aB r51.h.Regime.NoMeet]++dm r51.h.Crew.row++ [aL (Y (rL X0.row) r51.lists),aL (Y (rL (rL (rL rB))) r51.clash),aL (Y rI r51.rest),.own 90000,aI r51.cost,aB r51.found])),(11,(dm x38.row))] [(90000,1,Y rI r51.best),(8960,1,Y rI ([v18]:P U))]):=by
 intro f
 induction f with
 | zero=>
  intro b7 b8 b9 h;obtain rfl:b7=T:=zC.1 h b7 (by simp);obtain rfl:b8=T:=zC.1 h b8 (by simp);obtain rfl:b9=T:=zC.1 h b9 (by simp);rfl
 | succ f ih=>
  intro b7 b8 b9;refine Af ⟨?_,?_,?_,?_,?_,?_,?_,?_,?_,?_,?_,?_,⟨⟩⟩<;>try first | (intro h; cases h; done) | (intro h0 hw; obtain rfl:=hz h0 rfl; (try obtain rfl:=hq hw 8 rfl rfl); refine np ?_; simp only[Bq,A5,A6,A2,C,E,F,G,H,J]; exact ih _ _ _)
theorem A4d(rec_:Xe→(P U)→U→Q Xe)(h_rec:∀(a0:Xe) (a1:P U) (a2:U) zr,rec_ a0 a1 a2=N zr→FCz Z 81 [.p,.d (.sc (.sl (Y rI a1))),.d (.sc (.int .i64 a2))] (AX a0) (AY a0) (AX zr) (AY zr) [])(a1:P U)(a2)(v18)(x17:P X0)(v19)(v20)(v21)(v22)(v23)(v24)(v25)(v26)(v27)(v28)(v29)(v30)(v31)(v32)(v33)(v34)(v35)(x38:X0)(v36)(r51)(h49:(A3 ([]:P U).length a1.length 8)=T)(h50:(A3 a1.length ([v18]:P U).length 8)=T)(h51:rec_ (⟨(⟨(⟨(⟨v19,v20⟩:Xl),v21⟩:Xd),(⟨v22,v23⟩:X1),v24,(⟨v25,v26⟩:Xh),(⟨v27,v28,v29,v30⟩:Xm)⟩:X4),v31,v32,v33,v36,v34,v35⟩:Xe) (a1++([v18]:P U)) (zI .i64 (a2+x38.Cost))=N r51):∀(f:W) (b0 b7:V) (b8 b9 b10:V),Ad Z Hc (EW a1 a2 v18 x17 x38 r51) f [b0,T,T,T,T,T,T,b7,b8,b9,b10,L] (Bq a1 a2 v18 x17 x38 (vc (.undef)) (vc (.undef)) (vc (.own 8704)) b0 T T T T T T b7 b8 b9 b10 L [(99999999999,[aI v19,aL (Y zA v20),aL (Y X9.row v21),aL (Y X7.row v22),aL (Y X2.row v23),aL (Y X6.row v24),aI v25,aB v26,aI v27,aI v28,aI v29,aL (Y rI v30),aL (Y (rL X0.row) v31),aL (Y (rL (rL (rL rB))) v32),aL (Y rI v33),.own 90000,aI v34,aB v35]),(11,(dm x38.row))] [(90000,1,Y rI v36),(8704,1,Y rI (a1++([v18]:P U))),(8960,1,Y rI ([v18]:P U))]):=by
 intro f
 induction f with
 | zero=>intro b0 b7 b8 b9 b10 h; simp at h
 | succ f ih=>
  intro b0 b7 b8 b9 b10;refine Af ⟨?_,?_,?_,?_,?_,?_,?_,?_,?_,?_,?_,?_,⟨⟩⟩<;>try first | (intro h; cases h; done) | (intro h0 hw; obtain rfl:=hz h0 rfl; (try obtain rfl:=hq hw 7 rfl rfl); (try obtain rfl:=hq hw 8 rfl rfl); (try obtain rfl:=hq hw 9 rfl rfl); refine np ?_; simp only[Bq,A5,A6,A2,C,E,F,G,H,J]; exact ih _ _ _ _ _)
  ·intro h0 hw;obtain rfl:=hq hw 0 rfl rfl;obtain rfl:=hq hw 10 rfl rfl;refine⟨[(O,.frz 8704)],[],X,X,?_⟩;try simp only[Bq,A5,A6,zE,zD,A2,C,E,F,G,H,J]
   refine C8 ?_;try simp only[A2,C,E,F,G,H,J]
   refine GQ (h_rec _ _ _ _ h51) 99999999999 [90000] rfl X X X (by decide) X X X ?_;try simp only[A2,C,E,F,G,H,J]
   exact A4b rec_ h_rec a1 a2 v18 x17 v19 v20 v21 v22 v23 v24 v25 v26 v27 v28 v29 v30 v31 v32 v33 v34 v35 x38 v36 r51 h49 h50 h51 _ b7 b8 b9
theorem bv(rec_:Xe→(P U)→U→Q Xe)(h_rec:∀(a0:Xe) (a1:P U) (a2:U) zr,rec_ a0 a1 a2=N zr→FCz Z 81 [.p,.d (.sc (.sl (Y rI a1))),.d (.sc (.int .i64 a2))] (AX a0) (AY a0) (AX zr) (AY zr) [])(a1:P U)(a2)(v18)(x17:P X0)(v19)(v20)(v21)(v22)(v23)(v24)(v25)(v26)(v27)(v28)(v29)(v30)(v31)(v32)(v33)(v34)(v35)(x38:X0)(v36)(r51)(h49:(A3 ([]:P U).length a1.length 8)=T)(h50:(A3 a1.length ([v18]:P U).length 8)=T)(h51:rec_ (⟨(⟨(⟨(⟨v19,v20⟩:Xl),v21⟩:Xd),(⟨v22,v23⟩:X1),v24,(⟨v25,v26⟩:Xh),(⟨v27,v28,v29,v30⟩:Xm)⟩:X4),v31,v32,v33,v36,v34,v35⟩:Xe) (a1++([v18]:P U)) (zI .i64 (a2+x38.Cost))=N r51):∀(f:W) (b0 b7:V) (b8 b9 b10:V),Ad Z Hc (EW a1 a2 v18 x17 x38 r51) f [b0,T,T,T,T,T,L,b7,b8,b9,b10,L] (Bq a1 a2 v18 x17 x38 (vc (.undef)) (vc (.own 8704)) (vc (.own 8704)) b0 T T T T T L b7 b8 b9 b10 L [(99999999999,[aI v19,aL (Y zA v20),aL (Y X9.row v21),aL (Y X7.row v22),aL (Y X2.row v23),aL (Y X6.row v24),aI v25,aB v26,aI v27,aI v28,aI v29,aL (Y rI v30),aL (Y (rL X0.row) v31),aL (Y (rL (rL (rL rB))) v32),aL (Y rI v33),.own 90000,aI v34,aB v35]),(11,(dm x38.row))] [(90000,1,Y rI v36),(8704,1,Y rI a1),(8960,1,Y rI ([v18]:P U))]):=by
 intro f
 induction f with
 | zero=>intro b0 b7 b8 b9 b10 h; simp at h
 | succ f ih=>
  intro b0 b7 b8 b9 b10;refine Af ⟨?_,?_,?_,?_,?_,?_,?_,?_,?_,?_,?_,?_,⟨⟩⟩<;>try first | (intro h; cases h; done) | (intro _ hw; simp at hw; done) | (intro h0 hw; obtain rfl:=hz h0 rfl; (try obtain rfl:=hq hw 7 rfl rfl); (try obtain rfl:=hq hw 8 rfl rfl); (try obtain rfl:=hq hw 9 rfl rfl); refine np ?_; simp only[Bq,A5,A6,A2,C,E,F,G,H,J]; exact ih _ _ _ _ _)
  ·intro h0 hw;refine np ?_;try simp only[h50,Bq,A5,A6,A2,C,E,F,G,H,J]
   exact A4d rec_ h_rec a1 a2 v18 x17 v19 v20 v21 v22 v23 v24 v25 v26 v27 v28 v29 v30 v31 v32 v33 v34 v35 x38 v36 r51 h49 h50 h51 _ b0 b7 b8 b9 b10
theorem A4e(rec_:Xe→(P U)→U→Q Xe)(h_rec:∀(a0:Xe) (a1:P U) (a2:U) zr,rec_ a0 a1 a2=N zr→FCz Z 81 [.p,.d (.sc (.sl (Y rI a1))),.d (.sc (.int .i64 a2))] (AX a0) (AY a0) (AX zr) (AY zr) [])(a1:P U)(a2)(v18)(x17:P X0)(v19)(v20)(v21)(v22)(v23)(v24)(v25)(v26)(v27)(v28)(v29)(v30)(v31)(v32)(v33)(v34)(v35)(x38:X0)(v36)(r51)(h49:(A3 ([]:P U).length a1.length 8)=T)(h50:(A3 a1.length ([v18]:P U).length 8)=T)(h51:rec_ (⟨(⟨(⟨(⟨v19,v20⟩:Xl),v21⟩:Xd),(⟨v22,v23⟩:X1),v24,(⟨v25,v26⟩:Xh),(⟨v27,v28,v29,v30⟩:Xm)⟩:X4),v31,v32,v33,v36,v34,v35⟩:Xe) (a1++([v18]:P U)) (zI .i64 (a2+x38.Cost))=N r51):∀(f:W) (b0 b4:V) (b7 b8:V) (b9 b10:V),Ad Z Hc (EW a1 a2 v18 x17 x38 r51) f [b0,T,T,T,b4,L,L,b7,b8,b9,b10,L] (Bq a1 a2 v18 x17 x38 (vc (.undef)) (vc (.own 8704)) (vc (.own 8704)) b0 T T T b4 L L b7 b8 b9 b10 L [(99999999999,[aI v19,aL (Y zA v20),aL (Y X9.row v21),aL (Y X7.row v22),aL (Y X2.row v23),aL (Y X6.row v24),aI v25,aB v26,aI v27,aI v28,aI v29,aL (Y rI v30),aL (Y (rL X0.row) v31),aL (Y (rL (rL (rL rB))) v32),aL (Y rI v33),.own 90000,aI v34,aB v35]),(11,(dm x38.row))] [(90000,1,Y rI v36),(8704,1,Y rI a1)]):=by
 intro f
 induction f with
 | zero=>intro b0 b4 b7 b8 b9 b10 h; simp at h
 | succ f ih=>
  intro b0 b4 b7 b8 b9 b10;refine Af ⟨?_,?_,?_,?_,?_,?_,?_,?_,?_,?_,?_,?_,⟨⟩⟩<;>try first | (intro h; cases h; done) | (intro _ hw; simp at hw; done) | (intro h0 hw; obtain rfl:=hz h0 rfl; (try obtain rfl:=hq hw 7 rfl rfl); (try obtain rfl:=hq hw 8 rfl rfl); (try obtain rfl:=hq hw 9 rfl rfl); refine np ?_; simp only[Bq,A5,A6,A2,C,E,F,G,H,J]; exact ih _ _ _ _ _ _)
  ·intro h0 hw;obtain rfl:=hq hw 4 rfl rfl;refine np ?_;try simp only[Bq,A5,A6,A2,C,E,F,G,H,J]
   refine Aq (es:=Y rI ([v18]:P U)) X (by simp only[St.fresh,zF,zG,Ah]; simp[AV.cells,V1.cells,AC.uses]) ?_;try simp only[A2,C,E,F,G,H,J]
   exact bv rec_ h_rec a1 a2 v18 x17 v19 v20 v21 v22 v23 v24 v25 v26 v27 v28 v29 v30 v31 v32 v33 v34 v35 x38 v36 r51 h49 h50 h51 _ b0 b7 b8 b9 b10
theorem bw(rec_:Xe→(P U)→U→Q Xe)(h_rec:∀(a0:Xe) (a1:P U) (a2:U) zr,rec_ a0 a1 a2=N zr→FCz Z 81 [.p,.d (.sc (.sl (Y rI a1))),.d (.sc (.int .i64 a2))] (AX a0) (AY a0) (AX zr) (AY zr) [])(a1:P U)(a2)(v18)(x17:P X0)(v19)(v20)(v21)(v22)(v23)(v24)(v25)(v26)(v27)(v28)(v29)(v30)(v31)(v32)(v33)(v34)(v35)(x38:X0)(v36)(r51)(h49:(A3 ([]:P U).length a1.length 8)=T)(h50:(A3 a1.length ([v18]:P U).length 8)=T)(h51:rec_ (⟨(⟨(⟨(⟨v19,v20⟩:Xl),v21⟩:Xd),(⟨v22,v23⟩:X1),v24,(⟨v25,v26⟩:Xh),(⟨v27,v28,v29,v30⟩:Xm)⟩:X4),v31,v32,v33,v36,v34,v35⟩:Xe) (a1++([v18]:P U)) (zI .i64 (a2+x38.Cost))=N r51):∀(f:W) (b0 b2:V) (b7 b8:V) (b9 b10:V),Ad Z Hc (EW a1 a2 v18 x17 x38 r51) f [b0,T,b2,L,T,T,L,b7,b8,b9,b10,L] (Bq a1 a2 v18 x17 x38 (vc (.own 8704)) (vc (.own 8704)) (vc (.own 8704)) b0 T b2 L T T L b7 b8 b9 b10 L [(99999999999,[aI v19,aL (Y zA v20),aL (Y X9.row v21),aL (Y X7.row v22),aL (Y X2.row v23),aL (Y X6.row v24),aI v25,aB v26,aI v27,aI v28,aI v29,aL (Y rI v30),aL (Y (rL X0.row) v31),aL (Y (rL (rL (rL rB))) v32),aL (Y rI v33),.own 90000,aI v34,aB v35]),(11,(dm x38.row))] [(90000,1,Y rI v36),(8704,1,Y rI ([]:P U)),(8960,1,Y rI ([v18]:P U))]):=by
 intro f
 induction f with
 | zero=>intro b0 b2 b7 b8 b9 b10 h; simp at h
 | succ f ih=>
  intro b0 b2 b7 b8 b9 b10;refine Af ⟨?_,?_,?_,?_,?_,?_,?_,?_,?_,?_,?_,?_,⟨⟩⟩<;>try first | (intro h; cases h; done) | (intro _ hw; simp at hw; done) | (intro h0 hw; obtain rfl:=hz h0 rfl; (try obtain rfl:=hq hw 7 rfl rfl); (try obtain rfl:=hq hw 8 rfl rfl); (try obtain rfl:=hq hw 9 rfl rfl); refine np ?_; simp only[Bq,A5,A6,A2,C,E,F,G,H,J]; exact ih _ _ _ _ _ _)
  ·intro h0 hw;obtain rfl:=hq hw 2 rfl rfl;refine np ?_;try simp only[h49,Bq,A5,A6,A2,C,E,F,G,H,J]
   exact bv rec_ h_rec a1 a2 v18 x17 v19 v20 v21 v22 v23 v24 v25 v26 v27 v28 v29 v30 v31 v32 v33 v34 v35 x38 v36 r51 h49 h50 h51 _ b0 b7 b8 b9 b10
theorem A4f(rec_:Xe→(P U)→U→Q Xe)(h_rec:∀(a0:Xe) (a1:P U) (a2:U) zr,rec_ a0 a1 a2=N zr→FCz Z 81 [.p,.d (.sc (.sl (Y rI a1))),.d (.sc (.int .i64 a2))] (AX a0) (AY a0) (AX zr) (AY zr) [])(a1:P U)(a2)(v18)(x17:P X0)(v19)(v20)(v21)(v22)(v23)(v24)(v25)(v26)(v27)(v28)(v29)(v30)(v31)(v32)(v33)(v34)(v35)(x38:X0)(v36)(r51)(h49:(A3 ([]:P U).length a1.length 8)=T)(h50:(A3 a1.length ([v18]:P U).length 8)=T)(h51:rec_ (⟨(⟨(⟨(⟨v19,v20⟩:Xl),v21⟩:Xd),(⟨v22,v23⟩:X1),v24,(⟨v25,v26⟩:Xh),(⟨v27,v28,v29,v30⟩:Xm)⟩:X4),v31,v32,v33,v36,v34,v35⟩:Xe) (a1++([v18]:P U)) (zI .i64 (a2+x38.Cost))=N r51):∀(f:W) (b0 b2:V) (b4 b7:V) (b8 b9 b10:V),Ad Z Hc (EW a1 a2 v18 x17 x38 r51) f [b0,T,b2,L,b4,L,L,b7,b8,b9,b10,L] (Bq a1 a2 v18 x17 x38 (vc (.own 8704)) (vc (.own 8704)) (vc (.own 8704)) b0 T b2 L b4 L L b7 b8 b9 b10 L [(99999999999,[aI v19,aL (Y zA v20),aL (Y X9.row v21),aL (Y X7.row v22),aL (Y X2.row v23),aL (Y X6.row v24),aI v25,aB v26,aI v27,aI v28,aI v29,aL (Y rI v30),aL (Y (rL X0.row) v31),aL (Y (rL (rL (rL rB))) v32),aL (Y rI v33),.own 90000,aI v34,aB v35]),(11,(dm x38.row))] [(90000,1,Y rI v36),(8704,1,Y rI ([]:P U))]):=by
 intro f
 induction f with
 | zero=>intro b0 b2 b4 b7 b8 b9 b10 h; simp at h
 | succ f ih=>
  intro b0 b2 b4 b7 b8 b9 b10;refine Af ⟨?_,?_,?_,?_,?_,?_,?_,?_,?_,?_,?_,?_,⟨⟩⟩<;>try first | (intro h; cases h; done) | (intro _ hw; simp at hw; done) | (intro h0 hw; obtain rfl:=hz h0 rfl; (try obtain rfl:=hq hw 7 rfl rfl); (try obtain rfl:=hq hw 8 rfl rfl); (try obtain rfl:=hq hw 9 rfl rfl); refine np ?_; simp only[Bq,A5,A6,A2,C,E,F,G,H,J]; exact ih _ _ _ _ _ _ _)
  ·intro h0 hw;obtain rfl:=hq hw 2 rfl rfl;refine np ?_;try simp only[h49,Bq,A5,A6,A2,C,E,F,G,H,J]
   exact A4e rec_ h_rec a1 a2 v18 x17 v19 v20 v21 v22 v23 v24 v25 v26 v27 v28 v29 v30 v31 v32 v33 v34 v35 x38 v36 r51 h49 h50 h51 _ b0 b4 b7 b8 b9 b10
  ·intro h0 hw;obtain rfl:=hq hw 4 rfl rfl;refine np ?_;try simp only[Bq,A5,A6,A2,C,E,F,G,H,J]
   refine Aq (es:=Y rI ([v18]:P U)) X (by simp only[St.fresh,zF,zG,Ah]; simp[AV.cells,V1.cells,AC.uses]) ?_;try simp only[A2,C,E,F,G,H,J]
   exact bw rec_ h_rec a1 a2 v18 x17 v19 v20 v21 v22 v23 v24 v25 v26 v27 v28 v29 v30 v31 v32 v33 v34 v35 x38 v36 r51 h49 h50 h51 _ b0 b2 b7 b8 b9 b10
theorem A4g(rec_:Xe→(P U)→U→Q Xe)(h_rec:∀(a0:Xe) (a1:P U) (a2:U) zr,rec_ a0 a1 a2=N zr→FCz Z 81 [.p,.d (.sc (.sl (Y rI a1))),.d (.sc (.int .i64 a2))] (AX a0) (AY a0) (AX zr) (AY zr) [])(a1:P U)(a2)(v18)(x17:P X0)(v19)(v20)(v21)(v22)(v23)(v24)(v25)(v26)(v27)(v28)(v29)(v30)(v31)(v32)(v33)(v34)(v35)(x38:X0)(v36)(r51)(h49:(A3 ([]:P U).length a1.length 8)=T)(h50:(A3 a1.length ([v18]:P U).length 8)=T)(h51:rec_ (⟨(⟨(⟨(⟨v19,v20⟩:Xl),v21⟩:Xd),(⟨v22,v23⟩:X1),v24,(⟨v25,v26⟩:Xh),(⟨v27,v28,v29,v30⟩:Xm)⟩:X4),v31,v32,v33,v36,v34,v35⟩:Xe) (a1++([v18]:P U)) (zI .i64 (a2+x38.Cost))=N r51):∀(f:W) (b0 b2:V) (b7 b8:V) (b9 b10:V),Ad Z Hc (EW a1 a2 v18 x17 x38 r51) f [b0,L,b2,L,T,T,L,b7,b8,b9,b10,L] (Bq a1 a2 v18 x17 x38 (vc (.own 8704)) (vc (.own 8704)) (vc (.own 8704)) b0 L b2 L T T L b7 b8 b9 b10 L [(99999999999,[aI v19,aL (Y zA v20),aL (Y X9.row v21),aL (Y X7.row v22),aL (Y X2.row v23),aL (Y X6.row v24),aI v25,aB v26,aI v27,aI v28,aI v29,aL (Y rI v30),aL (Y (rL X0.row) v31),aL (Y (rL (rL (rL rB))) v32),aL (Y rI v33),.own 90000,aI v34,aB v35]),(11,(dm x38.row))] [(90000,1,Y rI v36),(8960,1,Y rI ([v18]:P U))]):=by
 intro f
 induction f with
 | zero=>intro b0 b2 b7 b8 b9 b10 h; simp at h
 | succ f ih=>
  intro b0 b2 b7 b8 b9 b10;refine Af ⟨?_,?_,?_,?_,?_,?_,?_,?_,?_,?_,?_,?_,⟨⟩⟩<;>try first | (intro h; cases h; done) | (intro _ hw; simp at hw; done) | (intro h0 hw; obtain rfl:=hz h0 rfl; (try obtain rfl:=hq hw 7 rfl rfl); (try obtain rfl:=hq hw 8 rfl rfl); (try obtain rfl:=hq hw 9 rfl rfl); refine np ?_; simp only[Bq,A5,A6,A2,C,E,F,G,H,J]; exact ih _ _ _ _ _ _)
  ·intro h0 hw;refine⟨[],[(O,.keep [0,1,2,6,10,11,103,104,105,135,136,137,138,139,140,141,142,143,144,145,146] [99999999999,11] [90000,8704,8960])],X,X,?_⟩;try simp only[Bq,A5,A6,zE,zD,A2,C,E,F,G,H,J]
   refine Aq (es:=Y rI ([]:P U)) X (by simp only[St.fresh,zF,zG,Ah]; simp[AV.cells,V1.cells,AC.uses]) ?_;try simp only[A2,C,E,F,G,H,J]
   exact bw rec_ h_rec a1 a2 v18 x17 v19 v20 v21 v22 v23 v24 v25 v26 v27 v28 v29 v30 v31 v32 v33 v34 v35 x38 v36 r51 h49 h50 h51 _ b0 b2 b7 b8 b9 b10
theorem A4h(rec_:Xe→(P U)→U→Q Xe)(h_rec:∀(a0:Xe) (a1:P U) (a2:U) zr,rec_ a0 a1 a2=N zr→FCz Z 81 [.p,.d (.sc (.sl (Y rI a1))),.d (.sc (.int .i64 a2))] (AX a0) (AY a0) (AX zr) (AY zr) [])(a1:P U)(a2)(v18)(x17:P X0)(v19)(v20)(v21)(v22)(v23)(v24)(v25)(v26)(v27)(v28)(v29)(v30)(v31)(v32)(v33)(v34)(v35)(x38:X0)(v36)(r51)(h49:(A3 ([]:P U).length a1.length 8)=T)(h50:(A3 a1.length ([v18]:P U).length 8)=T)(h51:rec_ (⟨(⟨(⟨(⟨v19,v20⟩:Xl),v21⟩:Xd),(⟨v22,v23⟩:X1),v24,(⟨v25,v26⟩:Xh),(⟨v27,v28,v29,v30⟩:Xm)⟩:X4),v31,v32,v33,v36,v34,v35⟩:Xe) (a1++([v18]:P U)) (zI .i64 (a2+x38.Cost))=N r51):∀(f:W) (b0 b2:V) (b4 b7:V) (b8 b9 b10:V),Ad Z Hc (EW a1 a2 v18 x17 x38 r51) f [b0,L,b2,L,b4,L,L,b7,b8,b9,b10,L] (Bq a1 a2 v18 x17 x38 (vc (.own 8704)) (vc (.own 8704)) (vc (.own 8704)) b0 L b2 L b4 L L b7 b8 b9 b10 L [(99999999999,[aI v19,aL (Y zA v20),aL (Y X9.row v21),aL (Y X7.row v22),aL (Y X2.row v23),aL (Y X6.row v24),aI v25,aB v26,aI v27,aI v28,aI v29,aL (Y rI v30),aL (Y (rL X0.row) v31),aL (Y (rL (rL (rL rB))) v32),aL (Y rI v33),.own 90000,aI v34,aB v35]),(11,(dm x38.row))] [(90000,1,Y rI v36)]):=by
 intro f
 induction f with
 | zero=>intro b0 b2 b4 b7 b8 b9 b10 h; simp at h
 | succ f ih=>
  intro b0 b2 b4 b7 b8 b9 b10;refine Af ⟨?_,?_,?_,?_,?_,?_,?_,?_,?_,?_,?_,?_,⟨⟩⟩<;>try first | (intro _ hw; simp at hw; done) | (intro h0 hw; obtain rfl:=hz h0 rfl; (try obtain rfl:=hq hw 7 rfl rfl); (try obtain rfl:=hq hw 8 rfl rfl); (try obtain rfl:=hq hw 9 rfl rfl); refine np ?_; simp only[Bq,A5,A6,A2,C,E,F,G,H,J]; exact ih _ _ _ _ _ _ _)
  ·intro h0 hw;refine np ?_;try simp only[Bq,A5,A6,A2,C,E,F,G,H,J]
   refine Aq (es:=Y rI ([]:P U)) X (by simp only[St.fresh,zF,zG,Ah]; simp[AV.cells,V1.cells,AC.uses]) ?_;try simp only[A2,C,E,F,G,H,J]
   exact A4f rec_ h_rec a1 a2 v18 x17 v19 v20 v21 v22 v23 v24 v25 v26 v27 v28 v29 v30 v31 v32 v33 v34 v35 x38 v36 r51 h49 h50 h51 _ b0 b2 b4 b7 b8 b9 b10
  ·intro h0 hw;obtain rfl:=hq hw 4 rfl rfl;refine np ?_;try simp only[Bq,A5,A6,A2,C,E,F,G,H,J]
   refine Aq (es:=Y rI ([v18]:P U)) X (by simp only[St.fresh,zF,zG,Ah]; simp[AV.cells,V1.cells,AC.uses]) ?_;try simp only[A2,C,E,F,G,H,J]
   exact A4g rec_ h_rec a1 a2 v18 x17 v19 v20 v21 v22 v23 v24 v25 v26 v27 v28 v29 v30 v31 v32 v33 v34 v35 x38 v36 r51 h49 h50 h51 _ b0 b2 b7 b8 b9 b10
def gP:=fun a1 a2 (a0:Xe) v4 (k_:U→(P X0)→Q Xe)=>∀{v6 v7} {zr},k_ v6 v7=N zr→Kh Z 81 KZ 18 [0,1,2,7,45,46,47] [99999999999] [90000,2816] ⟨[(0,vc (.pb 99999999999 0)),pL 1 rI a1,pI 2 a2,pW 7 2816,pL 45 rI a1,pI 46 (a1.length:U),pI 47 v6],[(99999999999,([aI a0.h.Forecast.Tide.Mean,aM zA a0.h.Forecast.Tide.Parts,aM X9.row a0.h.Forecast.Surges,aM X7.row a0.h.Chart.Points,aM X2.row a0.h.Chart.Segments,aM X6.row a0.h.Fleet,aI a0.h.Regime.Gap,aB a0.h.Regime.NoMeet]++dm a0.h.Crew.row++ [aM (rL X0.row) a0.lists,aL (Y (rL (rL (rL rB))) a0.clash),aM rI a0.rest,.own 90000,aI a0.cost,aB v4]))],[(90000,1,Y rI a0.best),(2816,4,Y X0.row v7)]⟩ (D2 [] [] (AX zr) (AY zr))
def gQ:=fun a1 a2 v18 x17 v19 v20 v21 v22 v23 v24 v25 v26 v27 v28 v29 v30 v31 v32 v33 v34 v35 (x38:X0) v36 (k_:V→U→Q Xe)=>∀{v39 v40} {zr},k_ v39 v40=N zr→Kh Z 81 KZ 63 [0,1,2,6,10,11,12,103,104,105,110,111,112] [99999999999,11] [90000] ⟨[(0,vc (.pb 99999999999 0)),pL 1 rI a1,pI 2 a2,pI 6 (a1.length:U),pI 10 v18,pB 11,(12,vc (aB v39)),pL 103 X0.row x17,pI 104 (x17.length:U),pI 105 v18,pL 110 rI a1,pI 111 (a1.length:U),pI 112 v40],[(99999999999,[aI v19,aM zA v20,aM X9.row v21,aM X7.row v22,aM X2.row v23,aM X6.row v24,aI v25,aB v26,aI v27,aI v28,aI v29,aM rI v30,aM (rL X0.row) v31,aL (Y (rL (rL (rL rB))) v32),aM rI v33,.own 90000,aI v34,aB v35]),(11,(dm x38.row))],[(90000,1,Y rI v36)]⟩ (D2 [] [] (AX zr) (AY zr))
def Vb:=fun a1 a2 x17 (k_:U→U→(P Xc)→(P X9)→(P X7)→(P X2)→(P X6)→U→V→U→U→U→(P U)→(P (P X0))→(P (P (P (P V))))→(P U)→U→V→(P U)→Q Xe)=>∀{v18 v19 v20 v21 v22 v23 v24 v25 v26 v27 v28 v29 v30 v31 v32 v33 v34 v35 v36} {zr},k_ v18 v19 v20 v21 v22 v23 v24 v25 v26 v27 v28 v29 v30 v31 v32 v33 v34 v35 v36=N zr→Kh Z 81 KZ 46 [0,1,2,6,103,104,105] [99999999999] [90000] ⟨[(0,vc (.pb 99999999999 0)),pL 1 rI a1,pI 2 a2,pI 6 (a1.length:U),pL 103 X0.row x17,pI 104 (x17.length:U),pI 105 v18],[(99999999999,[aI v19,aM zA v20,aM X9.row v21,aM X7.row v22,aM X2.row v23,aM X6.row v24,aI v25,aB v26,aI v27,aI v28,aI v29,aM rI v30,aM (rL X0.row) v31,aL (Y (rL (rL (rL rB))) v32),aM rI v33,.own 90000,aI v34,aB v35])],[(90000,1,Y rI v36)]⟩ (D2 [] [] (AX zr) (AY zr))
def gO:=fun a1 a2 (a0:Xe) (k_:V→Q Xe)=>∀{v4} {zr},k_ v4=N zr→Kh Z 81 KZ 8 [0,1,2,6] [99999999999] [90000] ⟨[(0,vc (.pb 99999999999 0)),pL 1 rI a1,pI 2 a2,pI 6 (a1.length:U)],[(99999999999,([aI a0.h.Forecast.Tide.Mean,aM zA a0.h.Forecast.Tide.Parts,aM X9.row a0.h.Forecast.Surges,aM X7.row a0.h.Chart.Points,aM X2.row a0.h.Chart.Segments,aM X6.row a0.h.Fleet,aI a0.h.Regime.Gap,aB a0.h.Regime.NoMeet]++dm a0.h.Crew.row++ [aM (rL X0.row) a0.lists,aL (Y (rL (rL (rL rB))) a0.clash),aM rI a0.rest,.own 90000,aI a0.cost,aB v4]))],[(90000,1,Y rI a0.best)]⟩ (D2 [] [] (AX zr) (AY zr))
theorem A4i{rec_:Xe→(P U)→U→Q Xe}(h_rec:∀(a0:Xe) (a1:P U) (a2:U) zr,rec_ a0 a1 a2=N zr→FCz Z 81 [.p,.d (.sc (.sl (Y rI a1))),.d (.sc (.int .i64 a2))] (AX a0) (AY a0) (AX zr) (AY zr) []){a1 a2 a0 v4}{n:W}:gP a1 a2 a0 v4 (D8 rec_ a1 a2 a0 v4 n):=by
 induction n with
 | zero=>intro _ _ r h; cases h
 | succ n ih=>
  intro v6 v7 r h σ hσ S hS;refine ev hS ?_;rw[D8] at h;refine AM (AA ?_);obtain⟨h8,h⟩|⟨h8,h⟩:=ic h
  ·obtain⟨x9,h9,h⟩:=ob h;obtain⟨x10,h10,h⟩:=ob h;obtain⟨x11,h11,h⟩:=ob h;try simp only[hσ,h8,h9,h10,h11,C,E,F,G,H,J]
   refine Be (es:=Y X0.row ([x11]:P X0)) ?_;obtain⟨h12,h⟩:=AR h;try simp only[h8,h9,h10,h11,h12,C,E,F,G,H,J]
   refine ih h ?_ (by kernel_rfl);try simp only[h8,h9,h10,h11,h12,C,E,F,G,H,J,pL,aM,I]
  ·try simp only[hσ,h8,C,E,F,G,H,J]
   refine C8 ?_;try simp only[h8,C,E,F,G,H,J]
   refine An ?_;obtain⟨r13,h13,h⟩:=ob h;try simp only[h8,C,E,F,G,H,J]
   refine BF (Ag A1w h13) ?_;obtain⟨r14,h14,h⟩:=ob h;try simp only[h8,C,E,F,G,H,J]
   refine O4 (Ag A1y h14) (by first | rfl | kernel_rfl) (E2 X) X (uf X) ?_;obtain⟨h15,h⟩|⟨h15,h⟩:=ic h
   ·try simp only[h8,h15,C,E,F,G,H,J]
    refine Be (es:=Y rI ([]:P U)) ?_;obtain⟨h16,h⟩:=AR h;try simp only[h8,h15,h16,C,E,F,G,H,J]
    cases h;exact⟨trivial,[5440],by decide,by decide,X,X⟩
   ·try simp only[h8,h15,C,E,F,G,H,J]
    cases h;exact⟨trivial,[90000],by decide,by decide,X,X⟩
theorem A4j{rec_:Xe→(P U)→U→Q Xe}(h_rec:∀(a0:Xe) (a1:P U) (a2:U) zr,rec_ a0 a1 a2=N zr→FCz Z 81 [.p,.d (.sc (.sl (Y rI a1))),.d (.sc (.int .i64 a2))] (AX a0) (AY a0) (AX zr) (AY zr) []){a1 a2 v18 x17 v19 v20 v21 v22 v23 v24 v25 v26 v27 v28 v29 v30 v31 v32 v33 v34 v35 x38 v36}{J5}(Yl:Vb a1 a2 x17 J5){n:W}:gQ a1 a2 v18 x17 v19 v20 v21 v22 v23 v24 v25 v26 v27 v28 v29 v30 v31 v32 v33 v34 v35 x38 v36 (Dw rec_ a1 a2 v18 x17 v19 v20 v21 v22 v23 v24 v25 v26 v27 v28 v29 v30 v31 v32 v33 v34 v35 x38 v36 J5 n):=by
 induction n with
 | zero=>intro _ _ r h; cases h
 | succ n ih=>
  intro v39 v40 r h σ hσ S hS;refine ev hS ?_;rw[Dw] at h;refine AM (AA ?_);obtain⟨h41,h⟩|⟨h41,h⟩:=ic h
  ·obtain⟨x42,h42,h⟩:=ob h;obtain⟨x43,h43,h⟩:=ob h;obtain⟨x44,h44,h⟩:=ob h;obtain⟨x45,h45,h⟩:=ob h;obtain⟨x46,h46,h⟩:=ob h;obtain⟨h47,h⟩|⟨h47,h⟩:=ic h
   ·try simp only[hσ,h41,h42,h43,h44,h45,h46,h47,C,E,F,G,H,J]
    refine ih h ?_ (by kernel_rfl);try simp only[h41,h42,h43,h44,h45,h46,h47,C,E,F,G,H,J,pL,aM,I]
   ·try simp only[hσ,h41,h42,h43,h44,h45,h46,h47,C,E,F,G,H,J]
    refine ih h ?_ (by kernel_rfl);try simp only[h41,h42,h43,h44,h45,h46,h47,C,E,F,G,H,J,pL,aM,I]
  ·obtain⟨h48,h⟩|⟨h48,h⟩:=ic h
   ·try simp only[hσ,h41,h48,C,E,F,G,H,J]
    obtain⟨h49,h⟩:=AR h;obtain⟨h50,h⟩:=AR h;obtain⟨r51,h51,h⟩:=ob h;refine E3 (ks:= [0,1,2,6,10,11,103,104,105]) (bs:= [99999999999,11]) (rs:= [90000]) (τ:=(EW a1 a2 v18 x17 x38 r51)) X (A4h rec_ h_rec a1 a2 v18 x17 v19 v20 v21 v22 v23 v24 v25 v26 v27 v28 v29 v30 v31 v32 v33 v34 v35 x38 v36 r51 h49 h50 h51 _ L L L L L L L) ?_;simp only[EW,Bq,A5];try simp only[h41,h48,h49,h50,C,E,F,G,H,J]
    refine Yl h ?_ (by kernel_rfl);try simp only[h41,h48,h49,h50,C,E,F,G,H,J,pL,aM,I]
   ·try simp only[hσ,h41,h48,C,E,F,G,H,J]
    refine Yl h ?_ (by kernel_rfl);try simp only[h41,h48,C,E,F,G,H,J,pL,aM,I]
theorem A4k{rec_:Xe→(P U)→U→Q Xe}(h_rec:∀(a0:Xe) (a1:P U) (a2:U) zr,rec_ a0 a1 a2=N zr→FCz Z 81 [.p,.d (.sc (.sl (Y rI a1))),.d (.sc (.int .i64 a2))] (AX a0) (AY a0) (AX zr) (AY zr) []){a1 a2 x17}{n:W}:Vb a1 a2 x17 (EB rec_ a1 a2 x17 n):=by
 induction n with
 | zero=>intro _ _ _ _ _ _ _ _ _ _ _ _ _ _ _ _ _ _ _ r h; cases h
 | succ n ih=>
  intro v18 v19 v20 v21 v22 v23 v24 v25 v26 v27 v28 v29 v30 v31 v32 v33 v34 v35 v36 r h σ hσ S hS;refine ev hS ?_;rw[EB] at h;refine AM (AA ?_);obtain⟨h37,h⟩|⟨h37,h⟩:=ic h
  ·obtain⟨x38,h38,h⟩:=ob h;try simp only[hσ,h37,h38,C,E,F,G,H,J]
   refine Bv ?_;try simp only[h37,h38,C,E,F,G,H,J]
   refine A4j h_rec ih h ?_ (by kernel_rfl);try simp only[h37,h38,C,E,F,G,H,J,pL,aM,I]
  ·try simp only[hσ,h37,C,E,F,G,H,J]
   cases h;exact⟨trivial,[90000],by decide,by decide,X,X⟩
theorem cA{rec_:Xe→(P U)→U→Q Xe}(h_rec:∀(a0:Xe) (a1:P U) (a2:U) zr,rec_ a0 a1 a2=N zr→FCz Z 81 [.p,.d (.sc (.sl (Y rI a1))),.d (.sc (.int .i64 a2))] (AX a0) (AY a0) (AX zr) (AY zr) []){a1 a2 a0}:gO a1 a2 a0 (GM rec_ a1 a2 a0):=by
 intro v4 r h σ hσ;unfold GM at h;have s0:= @Ap (Y X0.row ([]:P X0));have k0:= @A4i; have k1:= @A4k;exact gc
theorem mw:BM Z 81=N ((Ei Z 81 KZ).strip,[],148):=by kernel_rfl
theorem A2f(rec_:Xe→(P U)→U→Q Xe)(a0:Xe)(a1:P U)(a2:U)(r:Xe)(h_rec:∀(a0:Xe) (a1:P U) (a2:U) zr,rec_ a0 a1 a2=N zr→FCz Z 81 [.p,.d (.sc (.sl (Y rI a1))),.d (.sc (.int .i64 a2))] (AX a0) (AY a0) (AX zr) (AY zr) [])(h:Qr rec_ a0 a1 a2=N r):FCz Z 81 [.p,.d (.sc (.sl (Y rI a1))),.d (.sc (.int .i64 a2))] (AX a0) (AY a0) (AX r) (AY r) []:=by
 unfold Qr at h;refine Pn (σ:=⟨[(0,vc (.pb 99999999999 0)),(1,vc (aL (Y rI a1))),(2,vc (aI a2))],[(99999999999,[aI a0.h.Forecast.Tide.Mean,aL (Y zA a0.h.Forecast.Tide.Parts),aL (Y X9.row a0.h.Forecast.Surges),aL (Y X7.row a0.h.Chart.Points),aL (Y X2.row a0.h.Chart.Segments),aL (Y X6.row a0.h.Fleet),aI a0.h.Regime.Gap,aB a0.h.Regime.NoMeet,aI a0.h.Crew.Tugs,aI a0.h.Crew.Pilots,aI a0.h.Crew.Rest,aL (Y rI a0.h.Crew.Moves),aL (Y (rL X0.row) a0.lists),aL (Y (rL (rL (rL rB))) a0.clash),aL (Y rI a0.rest),.own 90000,aI a0.cost,aB a0.found])],[(90000,1,Y rI a0.best)]⟩) mixed mw X X X X ?_;refine F4 KZ ?_;intro S hS;refine ev hS ?_;try simp only[C,E,F,G,H,J]
 refine An ?_;obtain⟨h1,h⟩|⟨h1,h⟩:=ic h
 ·obtain⟨x2,h2,h⟩:=ob h;obtain⟨h3,h⟩|⟨h3,h⟩:=ic h
  ·try simp only[h1,h2,h3,C,E,F,G,H,J]
   cases h;exact⟨trivial,[90000],by decide,by decide,X,X⟩
  ·try simp only[h1,h2,h3,C,E,F,G,H,J]
   refine cA h_rec h ?_ (by kernel_rfl);try simp only[h1,h2,h3,C,E,F,G,H,J,pL,aM,I]
 ·try simp only[h1,C,E,F,G,H,J]
  refine cA h_rec h ?_ (by kernel_rfl);try simp only[h1,C,E,F,G,H,J,pL,aM,I]
theorem A2g:∀(n:W) (a0:Xe) (a1:P U) (a2:U) (r:Xe),BO n a0 a1 a2=N r→FCz Z 81 [.p,.d (.sc (.sl (Y rI a1))),.d (.sc (.int .i64 a2))] (AX a0) (AY a0) (AX r) (AY r) []:=by
 intro n
 induction n with
 | zero=>intro _ _ _ r h; cases h
 | succ n ih=>intro a0 a1 a2 r h; rw[BO] at h; exact A2f (BO n) a0 a1 a2 r ih h
theorem A2e{a0}{a1}{a2}{r}(h:SI a0 a1 a2=N r):FCz Z 81 [.p,.d (.sc (.sl (Y rI a1))),.d (.sc (.int .i64 a2))] (AX a0) (AY a0) (AX r) (AY r) []:=A2g bigN a0 a1 a2 r h
def WW:Hw:=([(8,[1,4,5,6,7,8],[20],[896,1152,149440])],[(6,0,(O,.ownb 20 15 149440 1)),(30,2,(O,.frz 896)),(30,3,(O,.frz 1152)),(30,4,(O,.frz 3776))])
def gL:=fun a1 (a0:X4) r1 (k_:U→(P U)→Q ((P U) × U × V))=>∀{v3 v4} {zr},k_ v3 v4=N zr→Kh Z 44 WW 8 [1,4,5,6,7,8] [20] [896,1152,149440] ⟨[pL 1 (rL X0.row) a1,(4,vc (.nil)),pI 5 (0:U),(6,vc (aB L)),(7,vc (.pb 20 0)),pI 8 v3],[(20,([aI a0.Forecast.Tide.Mean,aM zA a0.Forecast.Tide.Parts,aM X9.row a0.Forecast.Surges,aM X7.row a0.Chart.Points,aM X2.row a0.Chart.Segments,aM X6.row a0.Fleet,aI a0.Regime.Gap,aB a0.Regime.NoMeet]++dm a0.Crew.row++ [aM (rL X0.row) a1,.own 896,.own 1152,.own 149440,aI (0:U),aB L]))],[(896,1,Y (rL (rL (rL rB))) r1),(1152,1,Y rI v4),(149440,1,Y rI ([]:P U))]⟩ (A7 [4,5,6] [.sc (.o 1 (Y rI zr.1)),.sc (.v (.int .i64 zr.2.1)),.sc (.v (.bool zr.2.2))])
theorem A4l{a1 a0 r1}{n:W}:gL a1 a0 r1 (IR a1 a0 r1 n):=by
 induction n with
 | zero=>intro _ _ r h; cases h
 | succ n ih=>
  intro v3 v4 r h σ hσ S hS;refine ev hS ?_;rw[IR] at h;refine AM (AA ?_);obtain⟨h5,h⟩|⟨h5,h⟩:=ic h
  ·obtain⟨x6,h6,h⟩:=ob h;obtain⟨r7,h7,h⟩:=ob h;try simp only[hσ,h5,h6,C,E,F,G,H,J]
   refine AE (Ag be h7) ?_;obtain⟨h8,h⟩|⟨h8,h⟩:=ic h
   ·try simp only[h5,h6,h8,C,E,F,G,H,J]
    cases h;trivial
   ·try simp only[h5,h6,h8,C,E,F,G,H,J]
    refine An ?_;obtain⟨x9,h9,h⟩:=ob h;have h9n:=Ay h9;obtain⟨x10,h10,h⟩:=ob h;obtain⟨x11,h11,h⟩:=ob h;have h11n:=Ay h11;try simp only[h5,h6,h8,h9,h9n,h10,h11,C,E,F,G,H,J]
    refine CE (row:=rI) (y:=(zI .i64 (x9+x10.Cost))) X X h11n X X (by rfl) ?_;try simp only[h5,h6,h8,h9,h9n,h10,h11,C,E,F,G,H,J]
    refine An ?_;try simp only[h5,h6,h8,h9,h9n,h10,h11,C,E,F,G,H,J]
    refine ih h ?_ (by kernel_rfl);try simp only[h5,h6,h8,h9,h9n,h10,h11,C,E,F,G,H,J,pL,aM,I]
  ·try simp only[hσ,h5,C,E,F,G,H,J]
   refine Be (es:=Y rI ([]:P U)) ?_;try simp only[h5,C,E,F,G,H,J]
   refine C8 ?_;try simp only[h5,C,E,F,G,H,J]
   refine C8 ?_;try simp only[h5,C,E,F,G,H,J]
   refine C8 ?_;try simp only[h5,C,E,F,G,H,J]
   refine KX ?_;obtain⟨r12,h12,h⟩:=ob h;try simp only[h5,C,E,F,G,H,J]
   refine GQ (A2e h12) 20 [149440] rfl X X X (by decide) X X X ?_;obtain⟨h13,h⟩|⟨h13,h⟩:=ic h
   ·try simp only[h5,h13,C,E,F,G,H,J]
    refine An ?_;try simp only[h5,h13,C,E,F,G,H,J]
    cases h;trivial
   ·try simp only[h5,h13,C,E,F,G,H,J]
    cases h;trivial
instance A2b:Ct 44 (∀{a0} {a1} {r},NT a0 a1=N r→FC Z 44 [.ag (X4.row a0),.sc (.sl (Y (rL X0.row) a1))] [.sc (.o 1 (Y rI r.1)),.sc (.v (.int .i64 r.2.1)),.sc (.v (.bool r.2.2))]):=by
 refine⟨fun{a0} {a1} {r} h=> ?_⟩;unfold NT at h;refine A4 mixed WW [4,5,6] 74 ?_;intro S hS;refine ev hS ?_;simp only[C,E,F,G,H,J];try simp only[C,E,F,G,H,J]
 refine BE ?_;try simp only[C,E,F,G,H,J]
 refine An ?_;obtain⟨r1,h1,h⟩:=ob h;try simp only[C,E,F,G,H,J]
 refine BF (Ag A2c h1) ?_;obtain⟨n2,hn2,h⟩:=ob h;try simp only[C,E,F,G,H,J]
 refine O5 (m:= .row 18 1 (Y rI (List.replicate n2 (0:U)))) (Z0 X X hn2 X (Rt X)) X (Rj X) ?_;try simp only[C,E,F,G,H,J]
 refine BE ?_;try simp only[C,E,F,G,H,J]
 refine FE (cs':= [aI a0.Forecast.Tide.Mean,aL (Y zA a0.Forecast.Tide.Parts),aL (Y X9.row a0.Forecast.Surges),aL (Y X7.row a0.Chart.Points),aL (Y X2.row a0.Chart.Segments),aL (Y X6.row a0.Fleet),aI a0.Regime.Gap,aB a0.Regime.NoMeet,aI a0.Crew.Tugs,aI a0.Crew.Pilots,aI a0.Crew.Rest,aL (Y rI a0.Crew.Moves),aL (Y (rL X0.row) a1),.own 896,.own 1152,.own 149440,aI (0:U),aB L]) X X X X ?_;try simp only[C,E,F,G,H,J]
 refine A4l h ?_ (by kernel_rfl);try simp only[C,E,F,G,H,J,pL,aM,I]
instance A1v:Ct 17 (∀{a0} {a1} {r},Nj a0 a1=N r→FC Z 17 [.ag (X4.row a0),.sc (.sl (Y zH a1))] [.sc (.o 1 (Y rI r.1)),.sc (.v (.int .i64 r.2.1)),.sc (.v (.bool r.2.2))]):=by
 refine⟨fun{a0} {a1} {r} h=> ?_⟩;unfold Nj at h;refine A4 mixed h0 [4,5,6] 19 ?_;intro S hS;refine ev hS ?_;simp only[C,E,F,G,H,J];try simp only[C,E,F,G,H,J]
 refine BE ?_;obtain⟨r1,h1,h⟩:=ob h;try simp only[C,E,F,G,H,J]
 refine AE (Ag bd h1) ?_;obtain⟨h2,h⟩|⟨h2,h⟩:=ic h
 ·try simp only[h2,C,E,F,G,H,J]
  refine An ?_;obtain⟨r3,h3,h⟩:=ob h;try simp only[h2,C,E,F,G,H,J]
  refine BF (Ag A2d h3) ?_;obtain⟨r4,h4,h⟩:=ob h;try simp only[h2,C,E,F,G,H,J]
  refine O4 (Ag A2b h4) (by first | rfl | kernel_rfl) (Db X ⟨Dc,X,X,⟨⟩⟩) X (uf X) ?_;try simp only[h2,C,E,F,G,H,J]
  cases h;trivial
 ·try simp only[h2,C,E,F,G,H,J]
  cases h;trivial
def O8:Hw:=([(6,[0,1,9,10,11],[],[90000]),(27,[0,1,5,7],[],[90000]),(47,[0,1,5,7],[],[90000])],[(45,2,(O,.frz 1920)),(45,4,(O,.ren 2752 90000))])
def gS:=fun a0 v1 v5 (k_:(P (P U))→Q (P (P U)))=>∀{v14} {zr},k_ v14=N zr→Kh Z 46 O8 47 [0,1,5,7] [] [90000] ⟨[pL 0 rI a0,pW 1 90000,pI 5 v1,pI 7 v5],[],[(90000,1,Y (rL rI) v14)]⟩ (He [4] 1 (Y (rL rI) zr))
def Vc:=fun a0 v1 (k_:U→(P (P U))→Q (P (P U)))=>∀{v5 v6} {zr},k_ v5 v6=N zr→Kh Z 46 O8 27 [0,1,5,7] [] [90000] ⟨[pL 0 rI a0,pW 1 90000,pI 5 v1,pI 7 v5],[],[(90000,1,Y (rL rI) v6)]⟩ (He [4] 1 (Y (rL rI) zr))
def gR:=fun a0 a1 (k_:U→Q (P (P U)))=>∀{v1} {zr},k_ v1=N zr→Kh Z 46 O8 6 [0,1,9,10,11] [] [90000] ⟨[pL 0 rI a0,pW 1 90000,pL 9 rI a0,pI 10 (a0.length:U),pI 11 v1],[],[(90000,1,Y (rL rI) a1)]⟩ (He [4] 1 (Y (rL rI) zr))
theorem cB{rec_:(P U)→(P (P U))→Q (P (P U))}(h_rec:∀(a0:P U) (a1:P (P U)) zr,rec_ a0 a1=N zr→FCt Z 46 [.d (.sc (.sl (Y rI a0))),.r] 1 (Y (rL rI) a1) (Y (rL rI) zr)){a0 v1 v5}{Rd}(rZ:Vc a0 v1 Rd):gS a0 v1 v5 (KR rec_ a0 v1 v5 Rd):=by
 intro v14 r h σ hσ;unfold KR at h;have k0:= @rZ;exact gc
theorem A4m{rec_:(P U)→(P (P U))→Q (P (P U))}(h_rec:∀(a0:P U) (a1:P (P U)) zr,rec_ a0 a1=N zr→FCt Z 46 [.d (.sc (.sl (Y rI a0))),.r] 1 (Y (rL rI) a1) (Y (rL rI) zr)){a0 v1}{n:W}:Vc a0 v1 (IU rec_ a0 v1 n):=by
 induction n with
 | zero=>intro _ _ r h; cases h
 | succ n ih=>
  intro v5 v6 r h σ hσ S hS;refine ev hS ?_;rw[IU] at h;refine AM (AA ?_);obtain⟨h7,h⟩|⟨h7,h⟩:=ic h
  ·obtain⟨x8,h8,h⟩:=ob h;obtain⟨h9,h⟩|⟨h9,h⟩:=ic h
   ·try simp only[hσ,h7,h8,h9,C,E,F,G,H,J]
    refine Be (es:=Y rI ([]:P U)) ?_;obtain⟨h10,h⟩:=AR h;obtain⟨x11,h11,h⟩:=ob h;have h11n:=Ay h11;try simp only[h7,h8,h9,h10,h11,C,E,F,G,H,J]
    refine CE (row:=rI) (y:=v5) X X h11n X X (by rfl) ?_;obtain⟨x12,h12,h⟩:=ob h;have h12n:=Ay h12;try simp only[h7,h8,h9,h10,h11,h12,C,E,F,G,H,J]
    refine CE (row:=rI) (y:=v1) X X h12n X X (by rfl) ?_;try simp only[h7,h8,h9,h10,h11,h12,C,E,F,G,H,J]
    refine C8 ?_;obtain⟨r13,h13,h⟩:=ob h;try simp only[h7,h8,h9,h10,h11,h12,C,E,F,G,H,J]
    refine SN (h_rec _ _ _ h13) 90000 X X X X X ?_;rw[Sh];try simp only[h7,h8,h9,h10,h11,h12,C,E,F,G,H,J]
    refine Wy X X ?_;try simp only[h7,h8,h9,h10,h11,h12,C,E,F,G,H,J]
    refine cB h_rec ih h ?_ (by kernel_rfl);try simp only[h7,h8,h9,h10,h11,h12,C,E,F,G,H,J,pL,aM,I]
   ·try simp only[hσ,h7,h8,h9,C,E,F,G,H,J]
    refine cB h_rec ih h ?_ (by kernel_rfl);try simp only[h7,h8,h9,C,E,F,G,H,J,pL,aM,I]
  ·try simp only[hσ,h7,C,E,F,G,H,J]
   cases h;trivial
theorem A4n{rec_:(P U)→(P (P U))→Q (P (P U))}(h_rec:∀(a0:P U) (a1:P (P U)) zr,rec_ a0 a1=N zr→FCt Z 46 [.d (.sc (.sl (Y rI a0))),.r] 1 (Y (rL rI) a1) (Y (rL rI) zr)){a0 a1}{n:W}:gR a0 a1 (KQ rec_ a0 a1 n):=by
 induction n with
 | zero=>intro _ r h; cases h
 | succ n ih=>
  intro v1 r h σ hσ;rw[KQ] at h;have s0:= @Ap (Y (rL rI) ([a0]:P (P U)));have k0:= @A4m;exact gc
theorem my:BM Z 46=N ((Ei Z 46 O8).strip,[4],50):=by kernel_rfl
theorem A2i(rec_:(P U)→(P (P U))→Q (P (P U)))(a0:P U)(a1:P (P U))(r:(P (P U)))(h_rec:∀(a0:P U) (a1:P (P U)) zr,rec_ a0 a1=N zr→FCt Z 46 [.d (.sc (.sl (Y rI a0))),.r] 1 (Y (rL rI) a1) (Y (rL rI) zr))(h:Qt rec_ a0 a1=N r):FCt Z 46 [.d (.sc (.sl (Y rI a0))),.r] 1 (Y (rL rI) a1) (Y (rL rI) r):=by
 unfold Qt at h;refine UA (σ:=⟨[(0,vc (aL (Y rI a0))),(1,vc (.own 90000))],[],[(90000,1,Y (rL rI) a1)]⟩) mixed my X X ?_;refine F4 O8 ?_;have k0:= @A4n;exact gc
theorem A2j:∀(n:W) (a0:P U) (a1:P (P U)) (r:(P (P U))),FB n a0 a1=N r→FCt Z 46 [.d (.sc (.sl (Y rI a0))),.r] 1 (Y (rL rI) a1) (Y (rL rI) r):=by
 intro n
 induction n with
 | zero=>intro _ _ r h; cases h
 | succ n ih=>intro a0 a1 r h; rw[FB] at h; exact A2i (FB n) a0 a1 r ih h
theorem A2h{a0}{a1}{r}(h:Qs a0 a1=N r):FCt Z 46 [.d (.sc (.sl (Y rI a0))),.r] 1 (Y (rL rI) a1) (Y (rL rI) r):=A2j bigN a0 a1 r h
def QD:Hw:=([(8,[2,3,7,12,13,14],[3],[]),(22,[2,3,7,9,12,13,14,18,19,20],[3,9],[]),(35,[2,3,7,9,11,12,13,14,18,19,20,46],[3,9,11],[])],[])
def gU:=fun a2 v5 a1 v2 v6 (a0:X4) (x4:X0) (x8:X0) (k_:V→Q U)=>∀{v13} {zr},k_ v13=N zr→Kh Z 83 QD 35 [2,3,7,9,11,12,13,14,18,19,20,46] [3,9,11] [] ⟨[pL 2 X0.row a2,pB 3,pI 7 v5,pB 9,pB 11,pL 12 X0.row a1,pI 13 (a1.length:U),pI 14 v2,pL 18 X0.row a2,pI 19 (a2.length:U),pI 20 v6,(46,vc (aB v13))],[(3,([aI a0.Forecast.Tide.Mean,aM zA a0.Forecast.Tide.Parts,aM X9.row a0.Forecast.Surges,aM X7.row a0.Chart.Points,aM X2.row a0.Chart.Segments,aM X6.row a0.Fleet,aI a0.Regime.Gap,aB a0.Regime.NoMeet]++dm a0.Crew.row)),(9,(dm x4.row)),(11,(dm x8.row))],[]⟩ (A7 [6] [.sc (.v (.int .i64 zr))])
def Vf:=fun a2 a1 v2 (a0:X4) (x4:X0) (k_:U→U→Q U)=>∀{v5 v6} {zr},k_ v5 v6=N zr→Kh Z 83 QD 22 [2,3,7,9,12,13,14,18,19,20] [3,9] [] ⟨[pL 2 X0.row a2,pB 3,pI 7 v5,pB 9,pL 12 X0.row a1,pI 13 (a1.length:U),pI 14 v2,pL 18 X0.row a2,pI 19 (a2.length:U),pI 20 v6],[(3,([aI a0.Forecast.Tide.Mean,aM zA a0.Forecast.Tide.Parts,aM X9.row a0.Forecast.Surges,aM X7.row a0.Chart.Points,aM X2.row a0.Chart.Segments,aM X6.row a0.Fleet,aI a0.Regime.Gap,aB a0.Regime.NoMeet]++dm a0.Crew.row)),(9,(dm x4.row))],[]⟩ (A7 [6] [.sc (.v (.int .i64 zr))])
def Ve:=fun a2 a1 (a0:X4) (k_:U→U→Q U)=>∀{v1 v2} {zr},k_ v1 v2=N zr→Kh Z 83 QD 8 [2,3,7,12,13,14] [3] [] ⟨[pL 2 X0.row a2,pB 3,pI 7 v1,pL 12 X0.row a1,pI 13 (a1.length:U),pI 14 v2],[(3,([aI a0.Forecast.Tide.Mean,aM zA a0.Forecast.Tide.Parts,aM X9.row a0.Forecast.Surges,aM X7.row a0.Chart.Points,aM X2.row a0.Chart.Segments,aM X6.row a0.Fleet,aI a0.Regime.Gap,aB a0.Regime.NoMeet]++dm a0.Crew.row))],[]⟩ (A7 [6] [.sc (.v (.int .i64 zr))])
theorem Uj{a2 v5 a1 v2 v6 a0 x4 x8}{OG}(rd:Vf a2 a1 v2 a0 x4 OG):gU a2 v5 a1 v2 v6 a0 x4 x8 (IV a2 v5 a1 v2 v6 a0 x4 x8 OG):=by
 intro v13 r h σ hσ;unfold IV at h;have k0:= @rd;exact gc
theorem A4p{a2 a1 v2 a0 x4}{J6}(rc:Ve a2 a1 a0 J6){n:W}:Vf a2 a1 v2 a0 x4 (E1 a2 a1 v2 a0 x4 J6 n):=by
 induction n with
 | zero=>intro _ _ r h; cases h
 | succ n ih=>
  intro v5 v6 r h σ hσ S hS;refine ev hS ?_;rw[E1] at h;refine AM (AA ?_);obtain⟨h7,h⟩|⟨h7,h⟩:=ic h
  ·obtain⟨x8,h8,h⟩:=ob h;try simp only[hσ,h7,h8,C,E,F,G,H,J]
   refine Bv ?_;obtain⟨h9,h⟩|⟨h9,h⟩:=ic h
   ·obtain⟨r10,h10,h⟩:=ob h;try simp only[h7,h8,h9,C,E,F,G,H,J]
    refine AE (Ag bf h10) ?_;try simp only[h7,h8,h9,C,E,F,G,H,J]
    refine Uj ih h ?_ (by kernel_rfl);try simp only[h7,h8,h9,C,E,F,G,H,J,pL,aM,I]
   ·obtain⟨h11,h⟩|⟨h11,h⟩:=ic h
    ·obtain⟨r12,h12,h⟩:=ob h;try simp only[h7,h8,h9,h11,C,E,F,G,H,J]
     refine AE (Ag bf h12) ?_;try simp only[h7,h8,h9,h11,C,E,F,G,H,J]
     refine Uj ih h ?_ (by kernel_rfl);try simp only[h7,h8,h9,h11,C,E,F,G,H,J,pL,aM,I]
    ·try simp only[h7,h8,h9,h11,C,E,F,G,H,J]
     refine Uj ih h ?_ (by kernel_rfl);try simp only[h7,h8,h9,h11,C,E,F,G,H,J,pL,aM,I]
  ·try simp only[hσ,h7,C,E,F,G,H,J]
   refine rc h ?_ (by kernel_rfl);try simp only[h7,C,E,F,G,H,J,pL,aM,I]
theorem A4q{a2 a1 a0}{n:W}:Ve a2 a1 a0 (EC a2 a1 a0 n):=by
 induction n with
 | zero=>intro _ _ r h; cases h
 | succ n ih=>
  intro v1 v2 r h σ hσ;rw[EC] at h;have k0:= @A4p;exact gc
instance A2l:Ct 83 (∀{a0} {a1} {a2} {r},KT a0 a1 a2=N r→FC Z 83 [.ag (X4.row a0),.sc (.sl (Y X0.row a1)),.sc (.sl (Y X0.row a2))] [.sc (.v (.int .i64 r))]):=by
 refine⟨fun h=> ?_⟩;unfold KT at h;refine A4 mixed QD [6] 55 ?_;have k0:= @A4q;exact gc
def T1:Hw:=([(8,[1,3,8,13,14,15],[3],[]),(50,[1,3,8,11,13,14,15],[3],[])],[])
def gT:=fun a1 v1 a2 v2 (a0:X4) (k_:U→Q (U × V))=>∀{v15} {zr},k_ v15=N zr→Kh Z 47 T1 50 [1,3,8,11,13,14,15] [3] [] ⟨[pL 1 (rL X0.row) a1,pB 3,pI 8 v1,pI 11 v15,pL 13 rI a2,pI 14 (a2.length:U),pI 15 v2],[(3,([aI a0.Forecast.Tide.Mean,aM zA a0.Forecast.Tide.Parts,aM X9.row a0.Forecast.Surges,aM X7.row a0.Chart.Points,aM X2.row a0.Chart.Segments,aM X6.row a0.Fleet,aI a0.Regime.Gap,aB a0.Regime.NoMeet]++dm a0.Crew.row))],[]⟩ (A7 [6,7] [.sc (.v (.int .i64 zr.1)),.sc (.v (.bool zr.2))])
def Vd:=fun a1 a2 (a0:X4) (k_:U→U→Q (U × V))=>∀{v1 v2} {zr},k_ v1 v2=N zr→Kh Z 47 T1 8 [1,3,8,13,14,15] [3] [] ⟨[pL 1 (rL X0.row) a1,pB 3,pI 8 v1,pL 13 rI a2,pI 14 (a2.length:U),pI 15 v2],[(3,([aI a0.Forecast.Tide.Mean,aM zA a0.Forecast.Tide.Parts,aM X9.row a0.Forecast.Surges,aM X7.row a0.Chart.Points,aM X2.row a0.Chart.Segments,aM X6.row a0.Fleet,aI a0.Regime.Gap,aB a0.Regime.NoMeet]++dm a0.Crew.row))],[]⟩ (A7 [6,7] [.sc (.v (.int .i64 zr.1)),.sc (.v (.bool zr.2))])
theorem Uk{a1 v1 a2 v2 a0}{Re}(ra:Vd a1 a2 a0 Re):gT a1 v1 a2 v2 a0 (FD a1 v1 a2 v2 a0 Re):=by
 intro v15 r h σ hσ;unfold FD at h;have k0:= @ra;exact gc
theorem A4r{a1 a2 a0}{n:W}:Vd a1 a2 a0 (Dx a1 a2 a0 n):=by
 induction n with
 | zero=>intro _ _ r h; cases h
 | succ n ih=>
  intro v1 v2 r h σ hσ S hS;refine ev hS ?_;rw[Dx] at h;refine AM (AA ?_);obtain⟨h3,h⟩|⟨h3,h⟩:=ic h
  ·obtain⟨x4,h4,h⟩:=ob h;obtain⟨h5,h⟩|⟨h5,h⟩:=ic h
   ·obtain⟨x6,h6,h⟩:=ob h;obtain⟨r7,h7,h⟩:=ob h;try simp only[hσ,h3,h4,h5,h6,C,E,F,G,H,J]
    refine AE (Ag be h7) ?_;obtain⟨h8,h⟩|⟨h8,h⟩:=ic h
    ·try simp only[h3,h4,h5,h6,h8,C,E,F,G,H,J]
     cases h;trivial
    ·obtain⟨x9,h9,h⟩:=ob h;try simp only[h3,h4,h5,h6,h8,h9,C,E,F,G,H,J]
     refine Uk ih h ?_ (by kernel_rfl);try simp only[h3,h4,h5,h6,h8,h9,C,E,F,G,H,J,pL,aM,I]
   ·obtain⟨h10,h⟩|⟨h10,h⟩:=ic h
    ·try simp only[hσ,h3,h4,h5,h10,C,E,F,G,H,J]
     refine An ?_;obtain⟨x11,h11,h⟩:=ob h;obtain⟨x12,h12,h⟩:=ob h;obtain⟨r13,h13,h⟩:=ob h;try simp only[h3,h4,h5,h10,h11,h12,C,E,F,G,H,J]
     refine BF (Ag A2l h13) ?_;obtain⟨h14,h⟩|⟨h14,h⟩:=ic h
     ·try simp only[h3,h4,h5,h10,h11,h12,h14,C,E,F,G,H,J]
      cases h;trivial
     ·try simp only[h3,h4,h5,h10,h11,h12,h14,C,E,F,G,H,J]
      refine Uk ih h ?_ (by kernel_rfl);try simp only[h3,h4,h5,h10,h11,h12,h14,C,E,F,G,H,J,pL,aM,I]
    ·try simp only[hσ,h3,h4,h5,h10,C,E,F,G,H,J]
     refine Uk ih h ?_ (by kernel_rfl);try simp only[h3,h4,h5,h10,C,E,F,G,H,J,pL,aM,I]
  ·try simp only[hσ,h3,C,E,F,G,H,J]
   cases h;trivial
instance A2k:Ct 47 (∀{a0} {a1} {a2} {r},GN a0 a1 a2=N r→FC Z 47 [.ag (X4.row a0),.sc (.sl (Y (rL X0.row) a1)),.sc (.sl (Y rI a2))] [.sc (.v (.int .i64 r.1)),.sc (.v (.bool r.2))]):=by
 refine⟨fun h=> ?_⟩;unfold GN at h;refine A4 mixed T1 [6,7] 60 ?_;have k0:= @A4r;exact gc
def QE:Hw:=([(18,[2,7,8,25,26],[2],[1408,1472]),(39,[2,7,9,10,11,34,35,36],[2],[1408,2176]),(54,[2,7,9,10,11,13,14,34,35,36,56],[2],[1408,2176])],[(30,1,(O,.frz 2048)),(37,1,(O,.frz 1472))])
def fF:=fun v10 v11 x15 (r16:U × V) r9 v13 (a0:X4) r3 (k_:V→V→Q ((P U) × U × V))=>∀{v19 v20} {zr},k_ v19 v20=N zr→Kh Z 18 QE 54 [2,7,9,10,11,13,14,34,35,36,56] [2] [1408,2176] ⟨[pB 2,pW 7 1408,pL 9 rI v10,pI 10 v11,(11,vc (aB v19)),pL 13 rI x15,pI 14 r16.1,pW 34 2176,pI 35 (r9.length:U),pI 36 v13,(56,vc (aB v20))],[(2,([aI a0.Forecast.Tide.Mean,aM zA a0.Forecast.Tide.Parts,aM X9.row a0.Forecast.Surges,aM X7.row a0.Chart.Points,aM X2.row a0.Chart.Segments,aM X6.row a0.Fleet,aI a0.Regime.Gap,aB a0.Regime.NoMeet]++dm a0.Crew.row))],[(1408,1,Y (rL X0.row) r3),(2176,1,Y (rL rI) r9)]⟩ (A7 [4,5,6] [.sc (.v (.sl (Y rI zr.1))),.sc (.v (.int .i64 zr.2.1)),.sc (.v (.bool zr.2.2))])
def UT:=fun r9 (a0:X4) r3 (k_:(P U)→U→V→U→Q ((P U) × U × V))=>∀{v10 v11 v12 v13} {zr},k_ v10 v11 v12 v13=N zr→Kh Z 18 QE 39 [2,7,9,10,11,34,35,36] [2] [1408,2176] ⟨[pB 2,pW 7 1408,pL 9 rI v10,pI 10 v11,(11,vc (aB v12)),pW 34 2176,pI 35 (r9.length:U),pI 36 v13],[(2,([aI a0.Forecast.Tide.Mean,aM zA a0.Forecast.Tide.Parts,aM X9.row a0.Forecast.Surges,aM X7.row a0.Chart.Points,aM X2.row a0.Chart.Segments,aM X6.row a0.Fleet,aI a0.Regime.Gap,aB a0.Regime.NoMeet]++dm a0.Crew.row))],[(1408,1,Y (rL X0.row) r3),(2176,1,Y (rL rI) r9)]⟩ (A7 [4,5,6] [.sc (.v (.sl (Y rI zr.1))),.sc (.v (.int .i64 zr.2.1)),.sc (.v (.bool zr.2.2))])
def fE:=fun(a1:P Xb) (a0:X4) r3 (k_:U→(P U)→Q ((P U) × U × V))=>∀{v4 v5} {zr},k_ v4 v5=N zr→Kh Z 18 QE 18 [2,7,8,25,26] [2] [1408,1472] ⟨[pB 2,pW 7 1408,pW 8 1472,pI 25 (a1.length:U),pI 26 v4],[(2,([aI a0.Forecast.Tide.Mean,aM zA a0.Forecast.Tide.Parts,aM X9.row a0.Forecast.Surges,aM X7.row a0.Chart.Points,aM X2.row a0.Chart.Segments,aM X6.row a0.Fleet,aI a0.Regime.Gap,aB a0.Regime.NoMeet]++dm a0.Crew.row))],[(1408,1,Y (rL X0.row) r3),(1472,1,Y rI v5)]⟩ (A7 [4,5,6] [.sc (.v (.sl (Y rI zr.1))),.sc (.v (.int .i64 zr.2.1)),.sc (.v (.bool zr.2.2))])
theorem Ul{v10 v11 x15 r16 r9 v13 a0 r3}{Ou}(rF:UT r9 a0 r3 Ou):fF v10 v11 x15 r16 r9 v13 a0 r3 (Km v10 v11 x15 r16 r9 v13 a0 r3 Ou):=by
 intro v19 v20 r h σ hσ;unfold Km at h;have k0:= @rF;exact gc
theorem A4s{r9 a0 r3}{n:W}:UT r9 a0 r3 (Et r9 a0 r3 n):=by
 induction n with
 | zero=>intro _ _ _ _ r h; cases h
 | succ n ih=>
  intro v10 v11 v12 v13 r h σ hσ S hS;refine ev hS ?_;rw[Et] at h;refine AM (AA ?_);obtain⟨h14,h⟩|⟨h14,h⟩:=ic h
  ·obtain⟨x15,h15,h⟩:=ob h;have h15n:=Ay h15;obtain⟨r16,h16,h⟩:=ob h;try simp only[hσ,h14,h15,h15n,C,E,F,G,H,J]
   refine E4 (Ag A2k h16) X (E2 X) X (uf X) ?_;obtain⟨h17,h⟩|⟨h17,h⟩:=ic h
   ·obtain⟨h18,h⟩|⟨h18,h⟩:=ic h
    ·try simp only[h14,h15,h15n,h17,h18,C,E,F,G,H,J]
     refine Ul ih h ?_ (by kernel_rfl);try simp only[h14,h15,h15n,h17,h18,C,E,F,G,H,J,pL,aM,I]
    ·try simp only[h14,h15,h15n,h17,h18,C,E,F,G,H,J]
     refine Ul ih h ?_ (by kernel_rfl);try simp only[h14,h15,h15n,h17,h18,C,E,F,G,H,J,pL,aM,I]
   ·try simp only[h14,h15,h15n,h17,C,E,F,G,H,J]
    refine Ul ih h ?_ (by kernel_rfl);try simp only[h14,h15,h15n,h17,C,E,F,G,H,J,pL,aM,I]
  ·obtain⟨h22,h⟩|⟨h22,h⟩:=ic h
   ·try simp only[hσ,h14,h22,C,E,F,G,H,J]
    cases h;trivial
   ·try simp only[hσ,h14,h22,C,E,F,G,H,J]
    cases h;trivial
theorem A4t{a1 a0 r3}{n:W}:fE a1 a0 r3 (Im a1 a0 r3 n):=by
 induction n with
 | zero=>intro _ _ r h; cases h
 | succ n ih=>
  intro v4 v5 r h σ hσ S hS;refine ev hS ?_;rw[Im] at h;refine AM (AA ?_);obtain⟨h6,h⟩|⟨h6,h⟩:=ic h
  ·try simp only[hσ,h6,C,E,F,G,H,J]
   refine Be (es:=Y rI ([(-1:U)]:P U)) ?_;obtain⟨h7,h⟩:=AR h;try simp only[h6,h7,C,E,F,G,H,J]
   refine ih h ?_ (by kernel_rfl);try simp only[h6,h7,C,E,F,G,H,J,pL,aM,I]
  ·try simp only[hσ,h6,C,E,F,G,H,J]
   refine Be (es:=Y rI ([]:P U)) ?_;try simp only[h6,C,E,F,G,H,J]
   refine C8 ?_;try simp only[h6,C,E,F,G,H,J]
   refine C8 ?_;obtain⟨r9,h9,h⟩:=ob h;try simp only[h6,C,E,F,G,H,J]
   refine pU (A2h h9) ?_;try simp only[h6,C,E,F,G,H,J]
   refine A4s h ?_ (by kernel_rfl);try simp only[h6,C,E,F,G,H,J,pL,aM,I]
instance A1u:Ct 18 (∀{a0} {a1} {r},Kl a0 a1=N r→FC Z 18 [.ag (X4.row a0),.sc (.sl (Y zH a1))] [.sc (.v (.sl (Y rI r.1))),.sc (.v (.int .i64 r.2.1)),.sc (.v (.bool r.2.2))]):=by
 refine⟨fun h=> ?_⟩;unfold Kl at h;refine A4 mixed QE [4,5,6] 64 ?_;have s0:= @Ap (Y rI ([]:P U));have k0:= @A4t;exact gc
def WY:Hw:=([(22,[0,3],[],[])],[])
def fS:=fun(k_:U→(P UInt8)→Q (P UInt8))=>∀{v6 v7} {zr},k_ v6 v7=N zr→Kh Z 19 WY 22 [0,3] [] [] ⟨[pI 0 v6,(3,vc (aS v7))],[],[]⟩ (A7 [2] [.sc (.v (.str zr))])
theorem A4u{rec_:U→Q (P UInt8)}(h_rec:∀(a0:U) zr,rec_ a0=N zr→FC Z 19 [.sc (.int .i64 a0)] [.sc (.v (.str zr))]){n:W}:fS (Ky rec_ n):=by
 induction n with
 | zero=>intro _ _ r h; cases h
 | succ n ih=>
  intro v6 v7 r h σ hσ;rw[Ky] at h;have:Ct 19 _:=⟨h_rec⟩;have s0:= @Ap (Y r8 ([(IntKind.u8.wrap (zI .i64 ((48:U)+(zI .i64 (Int.tmod v6 (10:U))))))]:P U));have s1:= @Ap (Y r8 ([(IntKind.u8.wrap (zI .i64 ((48:U)+v6)))]:P U));exact gc
theorem A1z(rec_:U→Q (P UInt8))(a0:U)(r:(P UInt8))(h_rec:∀(a0:U) zr,rec_ a0=N zr→FC Z 19 [.sc (.int .i64 a0)] [.sc (.v (.str zr))])(h:Kz rec_ a0=N r):FC Z 19 [.sc (.int .i64 a0)] [.sc (.v (.str r))]:=by
 unfold Kz at h;refine A4 mixed WY [2] 44 ?_;intro S hS;refine ev hS ?_;simp only[C,E,F,G,H,J];obtain⟨h1,h⟩|⟨h1,h⟩:=ic h
 ·obtain⟨h2,h⟩|⟨h2,h⟩:=ic h
  ·try simp only[h1,h2,C,E,F,G,H,J]
   refine Be (es:=Y r8 ([(IntKind.u8.wrap (zI .i64 ((48:U) - a0)))]:P U)) ?_;obtain⟨h3,h⟩:=AR h;try simp only[h1,h2,h3,C,E,F,G,H,J]
   cases h;exact t0
  ·try simp only[h1,h2,C,E,F,G,H,J]
   refine An ?_;obtain⟨r4,h4,h⟩:=ob h;try simp only[h1,h2,C,E,F,G,H,J]
   refine BF (h_rec _ _ h4) ?_;try simp only[h1,h2,C,E,F,G,H,J]
   refine O5 (m:= .row 22 1 (Y r8 ([(IntKind.u8.wrap (zI .i64 ((48:U) - (zI .i64 (Int.tmod a0 (10:U))))))]:P U))) X X (Rj X) ?_;obtain⟨h5,h⟩:=AR h;try simp only[h1,h2,h5,C,E,F,G,H,J]
   cases h;exact t0
 ·try simp only[h1,C,E,F,G,H,J]
  refine A4u h_rec h ?_ (by kernel_rfl);try simp only[h1,C,E,F,G,H,J,pL,aM,I]
theorem A10:∀(n:W) (a0:U) (r:(P UInt8)),Ex n a0=N r→FC Z 19 [.sc (.int .i64 a0)] [.sc (.v (.str r))]:=by
 intro n
 induction n with
 | zero=>intro _ r h; cases h
 | succ n ih=>intro a0 r h; rw[Ex] at h; exact A1z (Ex n) a0 r ih h
theorem Uc{a0}{r}(h:Kx a0=N r):FC Z 19 [.sc (.int .i64 a0)] [.sc (.v (.str r))]:=A10 bigN a0 r h
instance B3c:Ct 6 (∀{a0} {a1} {r},Nl a0 a1=N r→FC Z 6 [.ag (X4.row a0),.sc (.sl (Y zH a1))] [.sc (.v (.str r))]):=by
 refine⟨fun{a0} {a1} {r} h=> ?_⟩;unfold Nl at h;refine A4 mixed h0 [4] 44 ?_;intro S hS;refine ev hS ?_;simp only[C,E,F,G,H,J];try simp only[C,E,F,G,H,J]
 refine BE ?_;obtain⟨r1,h1,h⟩:=ob h;try simp only[C,E,F,G,H,J]
 refine AE (Ag bd h1) ?_;obtain⟨h2,h⟩|⟨h2,h⟩:=ic h
 ·obtain⟨r3,h3,h⟩:=ob h;try simp only[h2,C,E,F,G,H,J]
  refine AE (Ag A1v h3) ?_;obtain⟨h4,h⟩|⟨h4,h⟩:=ic h
  ·obtain⟨r5,h5,h⟩:=ob h;try simp only[h2,h4,C,E,F,G,H,J]
   refine AE (Ag A1u h5) ?_;obtain⟨r6,h6,h⟩:=ob h;try simp only[h2,h4,C,E,F,G,H,J]
   refine AE (Uc h6) ?_;obtain⟨h7,h⟩:=AR h;obtain⟨h8,h⟩:=AR h;try simp only[zD,zE] at h8
   obtain⟨r9,h9,h⟩:=ob h;try simp only[h2,h4,h7,h8,C,E,F,G,H,J]
   refine AE (Uc h9) ?_;obtain⟨h10,h⟩:=AR h;try simp only[zD,zE] at h10
   obtain⟨h11,h⟩:=AR h;try simp only[zD,zE] at h11
   obtain⟨r12,h12,h⟩:=ob h;try simp only[h2,h4,h7,h8,h10,h11,C,E,F,G,H,J]
   refine AE (Uc h12) ?_;obtain⟨h13,h⟩:=AR h;try simp only[zD,zE] at h13
   try simp only[h2,h4,h7,h8,h10,h11,h13,C,E,F,G,H,J]
   cases h;exact t0
  ·try simp only[h2,h4,C,E,F,G,H,J]
   cases h;exact t0
 ·try simp only[h2,C,E,F,G,H,J]
  cases h;exact t0
instance B1r:Ct 95 (∀{a0} {a1} {a2} {r},BN a0 a1 a2=N r→FC Z 95 [.sc (.int .i64 a0),.sc (.int .i64 a1),.sc (.int .i64 a2)] [.sc (.v (.bool r))]):=by
 refine⟨fun h=> ?_⟩;unfold BN at h;refine A4 mixed h0 [6] 15 ?_;exact gc
instance B1j:Ct 184 (∀{a0} {r},Kd a0=N r→FC Z 184 [.sc (.int .i64 a0)] [.sc (.v (.bool r))]):=by
 refine⟨fun h=> ?_⟩;unfold Kd at h;refine A4 mixed h0 [2] 10 ?_;exact gc
instance B0w:Ct 160 (∀{a0} {r},Mc a0=N r→FC Z 160 [.ag (zA a0)] [.sc (.v (.bool r))]):=by
 refine⟨fun h=> ?_⟩;unfold Mc at h;refine A4 mixed h0 [2] 19 ?_;exact gc
def WZ:Hw:=([(14,[16,17,18],[],[])],[])
def dj:=fun(a0:Xl) (k_:U→Q V)=>∀{v4} {zr},k_ v4=N zr→Kh Z 125 WZ 14 [16,17,18] [] [] ⟨[pL 16 zA a0.Parts,pI 17 (a0.Parts.length:U),pI 18 v4],[],[]⟩ (A7 [2] [.sc (.v (.bool zr))])
theorem A4v{a0}{n:W}:dj a0 (HN a0 n):=by
 induction n with
 | zero=>intro _ r h; cases h
 | succ n ih=>
  intro v4 r h σ hσ;rw[HN] at h;exact gc
instance B1a:Ct 125 (∀{a0} {r},Mm a0=N r→FC Z 125 [.ag (Xl.row a0)] [.sc (.v (.bool r))]):=by
 refine⟨fun h=> ?_⟩;unfold Mm at h;refine A4 mixed WZ [2] 26 ?_;have k0:= @A4v;exact gc
instance A1i:Ct 94 (∀{a0} {r},CU a0=N r→FC Z 94 [.sc (.int .i64 a0)] [.sc (.v (.bool r))]):=by
 refine⟨fun h=> ?_⟩;unfold CU at h;refine A4 mixed h0 [2] 5 ?_;exact gc
instance B09:Ct 126 (∀{a0} {r},Ml a0=N r→FC Z 126 [.ag (X9.row a0)] [.sc (.v (.bool r))]):=by
 refine⟨fun h=> ?_⟩;unfold Ml at h;refine A4 mixed h0 [2] 23 ?_;exact gc
def Xt:Hw:=([(14,[1,25,26,27],[1],[])],[])
def dS:=fun(a0:Xd) (k_:U→Q V)=>∀{v7} {zr},k_ v7=N zr→Kh Z 88 Xt 14 [1,25,26,27] [1] [] ⟨[pB 1,pL 25 X9.row a0.Surges,pI 26 (a0.Surges.length:U),pI 27 v7],[(1,[aI a0.Tide.Mean,aM zA a0.Tide.Parts,aM X9.row a0.Surges])],[]⟩ (A7 [2] [.sc (.v (.bool zr))])
theorem A4w{a0}{n:W}:dS a0 (Gc a0 n):=by
 induction n with
 | zero=>intro _ r h; cases h
 | succ n ih=>
  intro v7 r h σ hσ;rw[Gc] at h;exact gc
instance A01:Ct 88 (∀{a0} {r},Gb a0=N r→FC Z 88 [.ag (Xd.row a0)] [.sc (.v (.bool r))]):=by
 refine⟨fun h=> ?_⟩;unfold Gb at h;refine A4 mixed Xt [2] 52 ?_;have k0:= @A4w;exact gc
def QF:Hw:=([(14,[0,3],[],[]),(25,[0,3,4],[],[]),(32,[0,3],[],[])],[])
def dX:=fun a0 v3 (k_:Q V)=>∀{zr},k_=N zr→Kh Z 127 QF 32 [0,3] [] [] ⟨[(0,vc (aS a0)),pI 3 v3],[],[]⟩ (A7 [2] [.sc (.v (.bool zr))])
def dW:=fun a0 v3 (k_:V→Q V)=>∀{v7} {zr},k_ v7=N zr→Kh Z 127 QF 25 [0,3,4] [] [] ⟨[(0,vc (aS a0)),pI 3 v3,(4,vc (aB v7))],[],[]⟩ (A7 [2] [.sc (.v (.bool zr))])
def RQ:=fun a0 (k_:U→Q V)=>∀{v3} {zr},k_ v3=N zr→Kh Z 127 QF 14 [0,3] [] [] ⟨[(0,vc (aS a0)),pI 3 v3],[],[]⟩ (A7 [2] [.sc (.v (.bool zr))])
theorem A4x{a0 v3}{EG}(Yf:RQ a0 EG):dX a0 v3 (M5 a0 v3 EG):=by
 intro r h σ hσ;unfold M5 at h;have k0:= @Yf;exact gc
theorem A4y{a0 v3}{EG}(Yf:RQ a0 EG):dW a0 v3 (M4 a0 v3 EG):=by
 intro v7 r h σ hσ;unfold M4 at h;have k0:= @A4x;exact gc
theorem A4z{a0}{n:W}:RQ a0 (Gd a0 n):=by
 induction n with
 | zero=>intro _ r h; cases h
 | succ n ih=>
  intro v3 r h σ hσ;rw[Gd] at h;have k0:= @A4y;exact gc
instance B0o:Ct 127 (∀{a0} {r},JY a0=N r→FC Z 127 [.sc (.str a0)] [.sc (.v (.bool r))]):=by
 refine⟨fun h=> ?_⟩;unfold JY at h;refine A4 mixed QF [2] 43 ?_;have k0:= @A4z;exact gc
end Go.Vi
