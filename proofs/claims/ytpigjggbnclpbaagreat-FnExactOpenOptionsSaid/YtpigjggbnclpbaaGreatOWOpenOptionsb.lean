/-
Walks. No condition.
-/
import Derived.Test.YtpigjggbnclpbaaGreatONf
import Derived.Test.YtpigjggbnclpbaaGreatChecked
import Derived.Test.YtpigjggbnclpbaaGreatOVi44
import Derived.KernelRfl
import Derived.Test.YtpigjggbnclpbaaGreatOWOpenOptionsa
namespace Go.Vi
open Go.Proofs
set_option linter.all false
set_option maxRecDepth 4000
set_option maxHeartbeats 2000000
open Nat renaming reduceBEq → B, reduceMul → C, reduceAdd → E, reduceDiv → F, le_of_ble_eq_true → uf
open Int renaming reduceBEq → G
attribute [local irreducible] go AT H7
open List renaming map → X, map_nil → Z, all_eq_true → zA, all_cons → zB, all_nil → zC, cons_append → zG, nil_append → zH
open Tryz renaming prog → Y
open Int renaming toNat → I
open Xb renaming row → zD
open Xc renaming row → zE
open Xa renaming row → zF
open Xe renaming row → zI
open Bool renaming true → T, false → H
open Option renaming some → L, none → N
open _root_ renaming List → O, Option → P, Int → Q, Bool → U, Nat → V, rfl → W
instance xc:Ct 174 (∀{a0} {a1} {a2} {r},KH a0 a1 a2=L r→FC Y 174 [.ag (X0.row a0),.sc (.int .i64 a1),.ag (X6.row a2)] [.sc (.v (.int .i64 r))]):=by
 refine⟨fun h=> ?_⟩;unfold KH at h;refine A5 A2 h0 [6] 31 ?_;exact gc
def T7:Hw:=([(6,[0,5,6,7],[],[])],[])
def Yv:=fun a0 (k_:Q→P U)=>∀{v1} {zr},k_ v1=L zr→Kh Y 153 T7 6 [0,5,6,7] [] [] ⟨[pL 0 X2.row a0,pL 5 X2.row a0,pI 6 (a0.length:Q),pI 7 v1],[],[]⟩ (Ac [2] [.sc (.v (.bool zr))])
theorem uS{a0}{n:V}:Yv a0 (E9 a0 n):=by
 induction n with
 | zero=>intro _ r h; cases h
 | succ n ih=>
  intro v1 r h σ hσ S hS;refine ev hS ?_;rw[E9] at h;refine AR (AJ ?_);obtain⟨h2,h⟩|⟨h2,h⟩:=ic h
  ·obtain⟨x3,h3,h⟩:=ob h;try simp only[hσ,h2,h3,B,C,E,F,G,J]
   refine BS ?_;try simp only[h2,h3,B,C,E,F,G,J]
   refine Ap ?_;obtain⟨r4,h4,h⟩:=ob h;try simp only[h2,h3,B,C,E,F,G,J]
   refine B4 (Ag J3 h4) ?_;try simp only[h2,h3,B,C,E,F,G,J]
   refine Ap ?_;obtain⟨h5,h⟩|⟨h5,h⟩:=ic h
   ·obtain⟨r6,h6,h⟩:=ob h;try simp only[h2,h3,h5,B,C,E,F,G,J]
    refine S0 (by first | rfl | kernel_rfl) ?_;refine B4 (Ag J3 h6) ?_;try simp only[h2,h3,h5,B,C,E,F,G,J]
    refine Ap ?_;obtain⟨h7,h⟩|⟨h7,h⟩:=ic h
    ·obtain⟨h8,h⟩|⟨h8,h⟩:=ic h
     ·obtain⟨x9,h9,h⟩:=ob h;obtain⟨h10,h⟩|⟨h10,h⟩:=ic h
      ·try simp only[h2,h3,h5,h7,h8,h9,h10,B,C,E,F,G,J]
       cases h;exact t0
      ·try simp only[h2,h3,h5,h7,h8,h9,h10,B,C,E,F,G,J]
       refine ih h ?_ (by kernel_rfl);try simp only[h2,h3,h5,h7,h8,h9,h10,B,C,E,F,G,J,pL,aM,Z]
     ·try simp only[h2,h3,h5,h7,h8,B,C,E,F,G,J]
      refine ih h ?_ (by kernel_rfl);try simp only[h2,h3,h5,h7,h8,B,C,E,F,G,J,pL,aM,Z]
    ·try simp only[h2,h3,h5,h7,B,C,E,F,G,J]
     cases h;exact t0
   ·try simp only[h2,h3,h5,B,C,E,F,G,J]
    refine RZ (by first | rfl | kernel_rfl) W ?_;try simp only[h2,h3,h5,B,C,E,F,G,J]
    refine Ap ?_;try simp only[h2,h3,h5,B,C,E,F,G,J]
    cases h;exact t0
  ·try simp only[hσ,h2,B,C,E,F,G,J]
   cases h;exact t0
instance xw:Ct 153 (∀{a0} {r},Ik a0=L r→FC Y 153 [.sc (.sl (X X2.row a0))] [.sc (.v (.bool r))]):=by
 refine⟨fun h=> ?_⟩;unfold Ik at h;refine A5 A2 T7 [2] 41 ?_;have k0:= @uS;exact gc
def T8:Hw:=([(16,[1,5,17,18,19],[],[1024])],[])
def Yr:=fun a1 a0 (k_:Q→(O X2)→P (O X2))=>∀{v5 v6} {zr},k_ v5 v6=L zr→Kh Y 171 T8 16 [1,5,17,18,19] [] [1024] ⟨[pI 1 a1,pW 5 1024,pL 17 X2.row a0,pI 18 (a0.length:Q),pI 19 v5],[],[(1024,2,X X2.row v6)]⟩ (Ac [4] [.sc (.o 2 (X X2.row zr))])
theorem re{a1 a0}{n:V}:Yr a1 a0 (E8 a1 a0 n):=by
 induction n with
 | zero=>intro _ _ r h; cases h
 | succ n ih=>
  intro v5 v6 r h σ hσ;rw[E8] at h;have s0:=fun(x8:X2)=> @Bk (X X2.row ([(⟨x8.From,(IntKind.i64.wrap (x8.To - a1))⟩:X2)]:O X2))
  exact gc
instance xo:Ct 171 (∀{a0} {a1} {r},MP a0 a1=L r→FC Y 171 [.sc (.sl (X X2.row a0)),.sc (.int .i64 a1)] [.sc (.o 2 (X X2.row r))]):=by
 refine⟨fun h=> ?_⟩;unfold MP at h;refine A5 A2 T8 [4] 42 ?_;have s0:= @Bk (X X2.row ([]:O X2));have k0:= @re;exact gc
instance ye:Ct 150 (∀{a0} {a1} {a2} {a3} {a4} {r},MT a0 a1 a2 a3 a4=L r→FC Y 150 [.ag (zD a0),.ag (X0.row a1),.sc (.int .i64 a2),.ag (X6.row a3),.sc (.bool a4)] [.sc (.o 2 (X X2.row r))]):=by
 refine⟨fun h=> ?_⟩;unfold MT at h;refine A5 A2 h0 [10] 33 ?_;exact gc
instance xq:Ct 107 (∀{a0} {a1} {a2} {a3} {r},KQ a0 a1 a2 a3=L r→FC Y 107 [.ag (zD a0),.ag (X0.row a1),.sc (.int .i64 a2),.ag (X6.row a3)] [.sc (.o 2 (X X2.row r))]):=by
 refine⟨fun h=> ?_⟩;unfold KQ at h;refine A5 A2 h0 [8] 14 ?_;exact gc
def S8:Hw:=([(8,[4,5,6,9,13,14,15],[4,5,6],[768])],[(19,6,(N,.frz 1536))])
def YE:=fun a3 (a0:Xb) (a1:X0) (a2:X6) (k_:Q→(O (O X2))→P (O (O X2)))=>∀{v1 v2} {zr},k_ v1 v2=L zr→Kh Y 61 S8 8 [4,5,6,9,13,14,15] [4,5,6] [768] ⟨[pB 4,pB 5,pB 6,pW 9 768,pL 13 rI a3,pI 14 (a3.length:Q),pI 15 v1],[(4,[aI a0.Tide.Mean,aM zE a0.Tide.Parts,aM zF a0.Surges]),(5,[aM X8.row a1.Points,aM X1.row a1.Segments]),(6,(dm a2.row))],[(768,1,X (rL X2.row) v2)]⟩ (Ac [8] [.sc (.o 1 (X (rL X2.row) zr))])
theorem rf{a3 a0 a1 a2}{n:V}:YE a3 a0 a1 a2 (Fc a3 a0 a1 a2 n):=by
 induction n with
 | zero=>intro _ _ r h; cases h
 | succ n ih=>
  intro v1 v2 r h σ hσ;rw[Fc] at h;have s0:=fun(r5:(O X2))=> @Bk (X (rL X2.row) ([r5]:O (O X2)))
  exact gc
instance yf:Ct 61 (∀{a0} {a1} {a2} {a3} {r},MU a0 a1 a2 a3=L r→FC Y 61 [.ag (zD a0),.ag (X0.row a1),.ag (X6.row a2),.sc (.sl (X rI a3))] [.sc (.o 1 (X (rL X2.row) r))]):=by
 refine⟨fun h=> ?_⟩;unfold MU at h;refine A5 A2 S8 [8] 29 ?_;have s0:= @Bk (X (rL X2.row) ([]:O (O X2)));have k0:= @rf;exact gc
def OQ:Hw:=([(8,[3,8,14,15,16],[3],[832]),(32,[3,8,11,14,15,16,45],[3],[832])],[])
def YB:=fun r9 a2 v1 (a0:X0) v2 (k_:U→P ((O Q) × U))=>∀{v12} {zr},k_ v12=L zr→Kh Y 109 OQ 32 [3,8,11,14,15,16,45] [3] [832] ⟨[pB 3,pW 8 832,pI 11 r9,pL 14 rI a2,pI 15 (a2.length:Q),pI 16 v1,(45,vc (aB v12))],[(3,[aM X8.row a0.Points,aM X1.row a0.Segments])],[(832,1,X rI v2)]⟩ (Ac [6,7] [.sc (.o 1 (X rI zr.1)),.sc (.v (.bool zr.2))])
def QK:=fun a2 (a0:X0) (k_:Q→(O Q)→P ((O Q) × U))=>∀{v1 v2} {zr},k_ v1 v2=L zr→Kh Y 109 OQ 8 [3,8,14,15,16] [3] [832] ⟨[pB 3,pW 8 832,pL 14 rI a2,pI 15 (a2.length:Q),pI 16 v1],[(3,[aM X8.row a0.Points,aM X1.row a0.Segments])],[(832,1,X rI v2)]⟩ (Ac [6,7] [.sc (.o 1 (X rI zr.1)),.sc (.v (.bool zr.2))])
theorem VU{r9 a2 v1 a0 v2}{Nq}(gw:QK a2 a0 Nq):YB r9 a2 v1 a0 v2 (F9 r9 a2 v1 a0 v2 Nq):=by
 intro v12 r h σ hσ;unfold F9 at h;have s0:= @Bk (X rI ([r9]:O Q));have k0:= @gw;exact gc
theorem rg{a2 a0}{n:V}:QK a2 a0 (D9 a2 a0 n):=by
 induction n with
 | zero=>intro _ _ r h; cases h
 | succ n ih=>
  intro v1 v2 r h σ hσ S hS;refine ev hS ?_;rw[D9] at h;refine AR (AJ ?_);obtain⟨h3,h⟩|⟨h3,h⟩:=ic h
  ·obtain⟨x4,h4,h⟩:=ob h;obtain⟨r5,h5,h⟩:=ob h;try simp only[hσ,h3,h4,B,C,E,F,G,J]
   refine B4 (Ag J3 h5) ?_;obtain⟨h6,h⟩|⟨h6,h⟩:=ic h
   ·try simp only[h3,h4,h6,B,C,E,F,G,J]
    refine Ap ?_;obtain⟨x7,h7,h⟩:=ob h;obtain⟨x8,h8,h⟩:=ob h;have h8n:=Ay h8;obtain⟨r9,h9,h⟩:=ob h;try simp only[h3,h4,h6,h7,h8,h8n,B,C,E,F,G,J]
    refine B4 (Ag VN h9) ?_;try simp only[h3,h4,h6,h7,h8,h8n,B,C,E,F,G,J]
    refine Ap ?_;obtain⟨h10,h⟩|⟨h10,h⟩:=ic h
    ·try simp only[h3,h4,h6,h7,h8,h8n,h10,B,C,E,F,G,J]
     refine VU ih h ?_ (by kernel_rfl);try simp only[h3,h4,h6,h7,h8,h8n,h10,B,C,E,F,G,J,pL,aM,Z]
    ·obtain⟨r11,h11,h⟩:=ob h;try simp only[h3,h4,h6,h7,h8,h8n,h10,B,C,E,F,G,J]
     refine Bm (Ag VM h11) W (Bg W) W (uf W) ?_;try simp only[h3,h4,h6,h7,h8,h8n,h10,B,C,E,F,G,J]
     refine VU ih h ?_ (by kernel_rfl);try simp only[h3,h4,h6,h7,h8,h8n,h10,B,C,E,F,G,J,pL,aM,Z]
   ·try simp only[h3,h4,h6,B,C,E,F,G,J]
    cases h;trivial
  ·try simp only[hσ,h3,B,C,E,F,G,J]
   cases h;trivial
instance yc:Ct 109 (∀{a0} {a1} {a2} {r},F8 a0 a1 a2=L r→FC Y 109 [.ag (X0.row a0),.sc (.int .i64 a1),.sc (.sl (X rI a2))] [.sc (.o 1 (X rI r.1)),.sc (.v (.bool r.2))]):=by
 refine⟨fun{a0} {a1} {a2} {r} h=> ?_⟩;unfold F8 at h;refine A5 A2 OQ [6,7] 52 ?_;have s0:= @Bk (X rI ([a1]:O Q));have k0:= @rg;exact gc
instance xi:Ct 108 (∀{a0} {a1} {a2} {r},Du a0 a1 a2=L r→FC Y 108 [.ag (X0.row a0),.sc (.int .i64 a1),.sc (.sl (X rI a2))] [.sc (.v (.bool r))]):=by
 refine⟨fun h=> ?_⟩;unfold Du at h;refine A5 A2 h0 [6] 29 ?_;exact gc
instance xj:Ct 62 (∀{a0} {a1} {a2} {r},E7 a0 a1 a2=L r→FC Y 62 [.ag (X0.row a0),.sc (.int .i64 a1),.sc (.sl (X rI a2))] [.sc (.o 1 (X rI r))]):=by
 refine⟨fun h=> ?_⟩;unfold E7 at h;refine A5 A2 h0 [6] 22 ?_;exact gc
def S9:Hw:=([(6,[1,7,8,9],[],[])],[])
def Yg:=fun a1 a0 (k_:Q→P U)=>∀{v1} {zr},k_ v1=L zr→Kh Y 110 S9 6 [1,7,8,9] [] [] ⟨[pI 1 a1,pL 7 X2.row a0,pI 8 (a0.length:Q),pI 9 v1],[],[]⟩ (Ac [4] [.sc (.v (.bool zr))])
theorem rh{a1 a0}{n:V}:Yg a1 a0 (GL a1 a0 n):=by
 induction n with
 | zero=>intro _ r h; cases h
 | succ n ih=>
  intro v1 r h σ hσ;rw[GL] at h;exact gc
instance xY:Ct 110 (∀{a0} {a1} {r},KD a0 a1=L r→FC Y 110 [.sc (.sl (X X2.row a0)),.sc (.int .i64 a1)] [.sc (.v (.bool r))]):=by
 refine⟨fun h=> ?_⟩;unfold KD at h;refine A5 A2 S9 [4] 20 ?_;have k0:= @rh;exact gc
def Sa:Hw:=([(14,[1,10,11,12],[],[])],[])
def Yk:=fun a1 a0 (k_:Q→P Q)=>∀{v3} {zr},k_ v3=L zr→Kh Y 112 Sa 14 [1,10,11,12] [] [] ⟨[pI 1 a1,pL 10 X2.row a0,pI 11 (a0.length:Q),pI 12 v3],[],[]⟩ (Ac [4] [.sc (.v (.int .i64 zr))])
theorem ri{a1 a0}{n:V}:Yk a1 a0 (GM a1 a0 n):=by
 induction n with
 | zero=>intro _ r h; cases h
 | succ n ih=>
  intro v3 r h σ hσ;rw[GM] at h;exact gc
instance qy:Ct 112 (∀{a0} {a1} {r},KI a0 a1=L r→FC Y 112 [.sc (.sl (X X2.row a0)),.sc (.int .i64 a1)] [.sc (.v (.int .i64 r))]):=by
 refine⟨fun h=> ?_⟩;unfold KI at h;refine A5 A2 Sa [4] 25 ?_;have k0:= @ri;exact gc
def OR:Hw:=([(16,[2,3,4,6,7,14,15],[6,7],[1600]),(32,[2,3,4,6,7,14,15,17,73],[6,7],[1600])],[])
def YD:=fun a2 a3 a4 v4 r12 (a0:X0) (a1:X6) v5 (k_:U→P ((O Q) × U))=>∀{v17} {zr},k_ v17=L zr→Kh Y 63 OR 32 [2,3,4,6,7,14,15,17,73] [6,7] [1600] ⟨[pL 2 rI a2,pL 3 rI a3,pL 4 (rL X2.row) a4,pB 6,pB 7,pW 14 1600,pI 15 v4,pI 17 r12,(73,vc (aB v17))],[(6,[aM X8.row a0.Points,aM X1.row a0.Segments]),(7,(dm a1.row))],[(1600,1,X rI v5)]⟩ (Ac [12,13] [.sc (.o 1 (X rI zr.1)),.sc (.v (.bool zr.2))])
def QM:=fun a2 a3 a4 (a0:X0) (a1:X6) (k_:Q→(O Q)→P ((O Q) × U))=>∀{v4 v5} {zr},k_ v4 v5=L zr→Kh Y 63 OR 16 [2,3,4,6,7,14,15] [6,7] [1600] ⟨[pL 2 rI a2,pL 3 rI a3,pL 4 (rL X2.row) a4,pB 6,pB 7,pW 14 1600,pI 15 v4],[(6,[aM X8.row a0.Points,aM X1.row a0.Segments]),(7,(dm a1.row))],[(1600,1,X rI v5)]⟩ (Ac [12,13] [.sc (.o 1 (X rI zr.1)),.sc (.v (.bool zr.2))])
theorem Qh{a2 a3 a4 v4 r12 a0 a1 v5}{Nr}(gx:QM a2 a3 a4 a0 a1 Nr):YD a2 a3 a4 v4 r12 a0 a1 v5 (H1 a2 a3 a4 v4 r12 a0 a1 v5 Nr):=by
 intro v17 r h σ hσ;unfold H1 at h;have s0:= @Bk (X rI ([r12]:O Q));have k0:= @gx;exact gc
theorem rk{a2 a3 a4 a0 a1}{n:V}:QM a2 a3 a4 a0 a1 (Dw a2 a3 a4 a0 a1 n):=by
 induction n with
 | zero=>intro _ _ r h; cases h
 | succ n ih=>
  intro v4 v5 r h σ hσ S hS;refine ev hS ?_;rw[Dw] at h;refine AR (AJ ?_);obtain⟨h6,h⟩|⟨h6,h⟩:=ic h
  ·try simp only[hσ,h6,B,C,E,F,G,J]
   refine Ap ?_;obtain⟨x7,h7,h⟩:=ob h;have h7n:=Ay h7;obtain⟨x8,h8,h⟩:=ob h;obtain⟨x9,h9,h⟩:=ob h;obtain⟨r10,h10,h⟩:=ob h;try simp only[h6,h7,h7n,h8,h9,B,C,E,F,G,J]
   refine D4 (Ag Qd h10) ?_;obtain⟨x11,h11,h⟩:=ob h;obtain⟨r12,h12,h⟩:=ob h;try simp only[h6,h7,h7n,h8,h9,h11,B,C,E,F,G,J]
   refine B4 (Ag qy h12) ?_;try simp only[h6,h7,h7n,h8,h9,h11,B,C,E,F,G,J]
   refine Ap ?_;obtain⟨h13,h⟩|⟨h13,h⟩:=ic h
   ·try simp only[h6,h7,h7n,h8,h9,h11,h13,B,C,E,F,G,J]
    refine Qh ih h ?_ (by kernel_rfl);try simp only[h6,h7,h7n,h8,h9,h11,h13,B,C,E,F,G,J,pL,aM,Z]
   ·obtain⟨h14,h⟩|⟨h14,h⟩:=ic h
    ·obtain⟨x15,h15,h⟩:=ob h;obtain⟨x16,h16,h⟩:=ob h;try simp only[h6,h7,h7n,h8,h9,h11,h13,h14,h15,h16,B,C,E,F,G,J]
     refine Qh ih h ?_ (by kernel_rfl);try simp only[h6,h7,h7n,h8,h9,h11,h13,h14,h15,h16,B,C,E,F,G,J,pL,aM,Z]
    ·try simp only[h6,h7,h7n,h8,h9,h11,h13,h14,B,C,E,F,G,J]
     refine Qh ih h ?_ (by kernel_rfl);try simp only[h6,h7,h7n,h8,h9,h11,h13,h14,B,C,E,F,G,J,pL,aM,Z]
  ·try simp only[hσ,h6,B,C,E,F,G,J]
   cases h;trivial
instance rG:Ct 63 (∀{a0} {a1} {a2} {a3} {a4} {a5} {r},In a0 a1 a2 a3 a4 a5=L r→FC Y 63 [.ag (X0.row a0),.ag (X6.row a1),.sc (.sl (X rI a2)),.sc (.sl (X rI a3)),.sc (.sl (X (rL X2.row) a4)),.sc (.int .i64 a5)] [.sc (.o 1 (X rI r.1)),.sc (.v (.bool r.2))]):=by
 refine⟨fun{a0} {a1} {a2} {a3} {a4} {a5} {r} h=> ?_⟩;unfold In at h;refine A5 A2 OR [12,13] 79 ?_;have s0:= @Bk (X rI ([a5]:O Q));have k0:= @rk;exact gc
instance qw:Ct 113 (∀{a0} {a1} {a2} {a3} {r},Kw a0 a1 a2 a3=L r→FC Y 113 [.ag (X0.row a0),.ag (X6.row a1),.sc (.sl (X rI a2)),.sc (.sl (X rI a3))] [.sc (.v (.int .i64 r))]):=by
 refine⟨fun h=> ?_⟩;unfold Kw at h;refine A5 A2 h0 [8] 54 ?_;exact gc
def Sb:Hw:=([(18,[1,5,6,8,13,14,39,40,41],[6,8],[2176,2432])],[])
def Yn:=fun a1 a5 a4 (a0:X0) (a2:X6) r6 (k_:Q→(O X3)→P (O X3))=>∀{v7 v8} {zr},k_ v7 v8=L zr→Kh Y 114 Sb 18 [1,5,6,8,13,14,39,40,41] [6,8] [2176,2432] ⟨[pI 1 a1,pL 5 rI a5,pB 6,pB 8,pW 13 2176,pW 14 2432,pL 39 rI a4,pI 40 (a4.length:Q),pI 41 v7],[(6,[aM X8.row a0.Points,aM X1.row a0.Segments]),(8,(dm a2.row))],[(2176,5,X X3.row v8),(2432,1,X rI r6)]⟩ (Ac [12] [.sc (.o 5 (X X3.row zr))])
theorem rl{a1 a5 a4 a0 a2 r6}{n:V}:Yn a1 a5 a4 a0 a2 r6 (GP a1 a5 a4 a0 a2 r6 n):=by
 induction n with
 | zero=>intro _ _ r h; cases h
 | succ n ih=>
  intro v7 v8 r h σ hσ S hS;refine ev hS ?_;rw[GP] at h;refine AR (AJ ?_);obtain⟨h9,h⟩|⟨h9,h⟩:=ic h
  ·obtain⟨x10,h10,h⟩:=ob h;obtain⟨x11,h11,h⟩:=ob h;obtain⟨r12,h12,h⟩:=ob h;try simp only[hσ,h9,h10,h11,B,C,E,F,G,J]
   refine B4 (Ag J3 h12) ?_;obtain⟨h13,h⟩|⟨h13,h⟩:=ic h
   ·try simp only[h9,h10,h11,h13,B,C,E,F,G,J]
    refine Ap ?_;obtain⟨x14,h14,h⟩:=ob h;obtain⟨x15,h15,h⟩:=ob h;have h15n:=Ay h15;obtain⟨r16,h16,h⟩:=ob h;try simp only[h9,h10,h11,h13,h14,h15,h15n,B,C,E,F,G,J]
    refine D4 (Ag Qd h16) ?_;try simp only[h9,h10,h11,h13,h14,h15,h15n,B,C,E,F,G,J]
    refine Bz (es:=X X3.row ([(⟨a1,x10,(x14.A==x15),x11,(IntKind.i64.wrap (x11+r16))⟩:X3)]:O X3)) ?_;obtain⟨h17,h⟩:=Bv h;try simp only[h9,h10,h11,h13,h14,h15,h15n,h17,B,C,E,F,G,J]
    refine Ap ?_;try simp only[h9,h10,h11,h13,h14,h15,h15n,h17,B,C,E,F,G,J]
    refine ih h ?_ (by kernel_rfl);try simp only[h9,h10,h11,h13,h14,h15,h15n,h17,B,C,E,F,G,J,pL,aM,Z]
   ·try simp only[h9,h10,h11,h13,B,C,E,F,G,J]
    cases h;exact t0
  ·try simp only[hσ,h9,B,C,E,F,G,J]
   cases h;exact t0
instance rA:Ct 114 (∀{a0} {a1} {a2} {a3} {a4} {a5} {r},KL a0 a1 a2 a3 a4 a5=L r→FC Y 114 [.ag (X0.row a0),.sc (.int .i64 a1),.ag (X6.row a2),.sc (.int .i64 a3),.sc (.sl (X rI a4)),.sc (.sl (X rI a5))] [.sc (.o 5 (X X3.row r))]):=by
 refine⟨fun h=> ?_⟩;unfold KL at h;refine A5 A2 Sb [12] 87 ?_;have s0:= @Bk (X X3.row ([]:O X3));have k0:= @rl;exact gc
def Wk:O (O V × AItem):= [([],(N,.load 65 (S 11) T 4)),([],(N,.faddr 66 (S 11) 1)),([1],(N,.load 67 (S 66) H 1)),([2],(N,.bin 68 .leq (S 67) (K 2880))),([0,0],(N,.store (S 8) (S 65) 4)),([3,4,0,1,2,3,4],(N,.mv 9 (S 68)))]
def Sc:Hw:=([(12,[4,8,10,11,46,47,48],[4,8,10,11],[2432])],[])
abbrev Hi(x2 r3 v6:Q)(c0_ c1_:U)(c2_ c3_ c5_:U)(bx_:O (V × O AC))(rs_:Rows):St:=⟨[(8,vc (.pb 8 0)),(11,vc (.pb 11 0)),(65,bif c0_ then va [aI x2,aI r3,aI v6,.own 2432] else .undef),(66,bif c1_ then vc (.pb 11 1) else .undef),(67,bif c2_ then vc (aI r3) else .undef),(68,bif c3_ then vc (aB (decide (r3≤(2880:Q)))) else .undef),(9,bif c5_ then vc (aB (decide (r3≤(2880:Q)))) else .undef)],bx_,rs_⟩
abbrev NU(x2 r3:Q)(r4:(O X3))(v6:Q):St:=(Hi x2 r3 v6 T T T T T [(8,[aI x2,aI r3,aI v6,.own 2432]),(11,[aI x2,aI r3,aI v6,.own 2432])] [(2432,5,X X3.row r4)])
theorem rn(x2 r3 r4 v6):∀(f:V) (b1 b2:U) (b3 b5:U),An Y Wk (NU x2 r3 r4 v6) f [T,b1,b2,b3,T,b5] (Hi x2 r3 v6 T b1 b2 b3 b5 [(8,[aI x2,aI r3,aI v6,.own 2432]),(11,[aI x2,aI r3,aI v6,.own 2432])] [(2432,5,X X3.row r4)]):=by
 intro f
 induction f with
 | zero=>
  intro b1 b2 b3 b5 h;obtain rfl:b1=T:=zA.1 h b1 (by simp);obtain rfl:b2=T:=zA.1 h b2 (by simp);obtain rfl:b3=T:=zA.1 h b3 (by simp);obtain rfl:b5=T:=zA.1 h b5 (by simp);rfl
 | succ f ih=>
  intro b1 b2 b3 b5;refine Aw ⟨?_,?_,?_,?_,?_,?_,⟨⟩⟩<;>try first | (intro h; cases h; done) | (intro h0 hw; obtain rfl:=hz h0 rfl; (try obtain rfl:=hq hw 1 rfl rfl); (try obtain rfl:=hq hw 2 rfl rfl); (try obtain rfl:=hq hw 3 rfl rfl); refine np ?_; simp only[Hi,A8,Aa,A3,B,C,E,F,G,J]; exact ih _ _ _ _)
theorem ro(x2 r3 r4 v6):∀(f:V) (b0 b1:U) (b2 b3:U),An Y Wk (NU x2 r3 r4 v6) f [b0,b1,b2,b3,H,H] (Hi x2 r3 v6 b0 b1 b2 b3 H [(8,[aI (0:Q),aI (0:Q),aI (0:Q),.nil]),(11,[aI x2,aI r3,aI v6,.own 2432])] [(2432,5,X X3.row r4)]):=by
 intro f
 induction f with
 | zero=>intro b0 b1 b2 b3 h; simp at h
 | succ f ih=>
  intro b0 b1 b2 b3;refine Aw ⟨?_,?_,?_,?_,?_,?_,⟨⟩⟩<;>try first | (intro _ hw; simp at hw; done) | (intro h0 hw; obtain rfl:=hz h0 rfl; (try obtain rfl:=hq hw 1 rfl rfl); (try obtain rfl:=hq hw 2 rfl rfl); refine np ?_; simp only[Hi,A8,Aa,A3,B,C,E,F,G,J]; exact ih _ _ _ _)
  ·intro h0 hw;obtain rfl:=hq hw 0 rfl rfl;refine np ?_;try simp only[Hi,A8,Aa,A3,B,C,E,F,G,J]
   exact rn x2 r3 r4 v6 _ b1 b2 b3 H
def YG:=fun a2 (a0:X9) (x1:X6) x2 r3 r4 (k_:Q→Q→P (X5 × U))=>∀{v5 v6} {zr},k_ v5 v6=L zr→Kh Y 64 Sc 12 [4,8,10,11,46,47,48] [4,8,10,11] [2432] ⟨[pB 4,pB 8,pB 10,pB 11,pL 46 rI a2,pI 47 (a2.length:Q),pI 48 v5],[(4,([aI a0.Forecast.Tide.Mean,aM zE a0.Forecast.Tide.Parts,aM zF a0.Forecast.Surges,aM X8.row a0.Chart.Points,aM X1.row a0.Chart.Segments,aM X6.row a0.Fleet,aI a0.Regime.Gap,aB a0.Regime.NoMeet]++dm a0.Crew.row)),(8,[aI (0:Q),aI (0:Q),aI (0:Q),.nil]),(10,(dm x1.row)),(11,[aI x2,aI r3,aI v6,.own 2432])],[(2432,5,X X3.row r4)]⟩ (Ac [.c 8 T 4,9] [.ag [.v (.int .i64 zr.1.Start),.v (.int .i64 zr.1.Arrival),.v (.int .i64 zr.1.Cost),.o 5 (X X3.row zr.1.Passages)],.sc (.v (.bool zr.2))])
theorem rp{a2 a0 x1 x2 r3 r4}{n:V}:YG a2 a0 x1 x2 r3 r4 (Ff a2 a0 x1 x2 r3 r4 n):=by
 induction n with
 | zero=>intro _ _ r h; cases h
 | succ n ih=>
  intro v5 v6 r h σ hσ S hS;refine ev hS ?_;rw[Ff] at h;refine AR (AJ ?_);obtain⟨h7,h⟩|⟨h7,h⟩:=ic h
  ·obtain⟨x8,h8,h⟩:=ob h;try simp only[hσ,h7,h8,B,C,E,F,G,J]
   refine Ap ?_;obtain⟨x9,h9,h⟩:=ob h;obtain⟨r10,h10,h⟩:=ob h;try simp only[h7,h8,h9,B,C,E,F,G,J]
   refine D4 (Ag Qd h10) ?_;try simp only[h7,h8,h9,B,C,E,F,G,J]
   refine Ap ?_;try simp only[h7,h8,h9,B,C,E,F,G,J]
   refine ih h ?_ (by kernel_rfl);try simp only[h7,h8,h9,B,C,E,F,G,J,pL,aM,Z]
  ·try simp only[hσ,h7,B,C,E,F,G,J]
   refine L6 (ks:= [8,11]) (bs:= [8,11]) (rs:= [2432]) (τ:=(NU x2 r3 r4 v6)) W (ro x2 r3 r4 v6 _ H H H H) ?_;simp only[NU,Hi,A8];try simp only[h7,B,C,E,F,G,J]
   cases h;try simp only[NJ,B,C,E,F,G,J]
   trivial
instance rH:Ct 64 (∀{a0} {a1} {a2} {a3} {r},L1 a0 a1 a2 a3=L r→FC Y 64 [.ag (X9.row a0),.ag (zI a1),.sc (.sl (X rI a2)),.sc (.sl (X rI a3))] [.ag [.v (.int .i64 r.1.Start),.v (.int .i64 r.1.Arrival),.v (.int .i64 r.1.Cost),.o 5 (X X3.row r.1.Passages)],.sc (.v (.bool r.2))]):=by
 refine⟨fun{a0} {a1} {a2} {a3} {r} h=> ?_⟩;unfold L1 at h;refine A5 A2 Sc [.c 8 T 4,9] 69 ?_;intro S hS;refine ev hS ?_;simp only[B,C,E,F,G,J];try simp only[B,C,E,F,G,J]
 refine Bd ?_;try simp only[B,C,E,F,G,J]
 refine Bd ?_;try simp only[B,C,E,F,G,J]
 refine BS ?_;obtain⟨x1,h1,h⟩:=ob h;try simp only[h1,B,C,E,F,G,J]
 refine BS ?_;try simp only[h1,B,C,E,F,G,J]
 refine Ap ?_;obtain⟨x2,h2,h⟩:=ob h;obtain⟨r3,h3,h⟩:=ob h;try simp only[h1,h2,B,C,E,F,G,J]
 refine D4 (Ag qw h3) ?_;obtain⟨r4,h4,h⟩:=ob h;try simp only[h1,h2,B,C,E,F,G,J]
 refine D4 (Ag rA h4) ?_;try simp only[h1,h2,B,C,E,F,G,J]
 refine fx (m:= .box 11 [aI (0:Q),aI (0:Q),aI (0:Q),.nil]) W W (Pv W W) ?_;try simp only[h1,h2,B,C,E,F,G,J]
 refine Ap ?_;try simp only[h1,h2,B,C,E,F,G,J]
 refine rp h ?_ (by kernel_rfl);try simp only[h1,h2,B,C,E,F,G,J,pL,aM,Z]
def OS:Hw:=([(32,[2,3,5,7,8,9,10,11],[2,3,7],[2816,3200,3264]),(56,[2,3,5,7,8,9,10,11],[2,3,7],[2816,3200,3264])],[(54,2,(N,.frz 5315))])
def Ym:=fun(r3:(O Q) × U) v8 (a0:X9) (a1:Xe) (x5:X6) r6 r7 (k_:(O X5)→P (O X5))=>∀{v17} {zr},k_ v17=L zr→Kh Y 24 OS 56 [2,3,5,7,8,9,10,11] [2,3,7] [2816,3200,3264] ⟨[pB 2,pB 3,pL 5 rI r3.1,pB 7,pW 8 2816,pW 9 3200,pW 10 3264,pI 11 v8],[(2,([aI a0.Forecast.Tide.Mean,aM zE a0.Forecast.Tide.Parts,aM zF a0.Forecast.Surges,aM X8.row a0.Chart.Points,aM X1.row a0.Chart.Segments,aM X6.row a0.Fleet,aI a0.Regime.Gap,aB a0.Regime.NoMeet]++dm a0.Crew.row)),(3,(dm a1.row)),(7,(dm x5.row))],[(2816,1,X (rL X2.row) r6),(3200,1,X rI r7),(3264,4,X X5.row v17)]⟩ (Ac [4] [.sc (.o 4 (X X5.row zr))])
def QH:=fun(r3:(O Q) × U) (a0:X9) (a1:Xe) (x5:X6) r6 r7 (k_:Q→(O X5)→P (O X5))=>∀{v8 v9} {zr},k_ v8 v9=L zr→Kh Y 24 OS 32 [2,3,5,7,8,9,10,11] [2,3,7] [2816,3200,3264] ⟨[pB 2,pB 3,pL 5 rI r3.1,pB 7,pW 8 2816,pW 9 3200,pW 10 3264,pI 11 v8],[(2,([aI a0.Forecast.Tide.Mean,aM zE a0.Forecast.Tide.Parts,aM zF a0.Forecast.Surges,aM X8.row a0.Chart.Points,aM X1.row a0.Chart.Segments,aM X6.row a0.Fleet,aI a0.Regime.Gap,aB a0.Regime.NoMeet]++dm a0.Crew.row)),(3,(dm a1.row)),(7,(dm x5.row))],[(2816,1,X (rL X2.row) r6),(3200,1,X rI r7),(3264,4,X X5.row v9)]⟩ (Ac [4] [.sc (.o 4 (X X5.row zr))])
theorem Qi{r3 v8 a0 a1 x5 r6 r7}{Nn}(gr:QH r3 a0 a1 x5 r6 r7 Nn):Ym r3 v8 a0 a1 x5 r6 r7 (GO r3 v8 a0 a1 x5 r6 r7 Nn):=by
 intro v17 r h σ hσ;unfold GO at h;have k0:= @gr;exact gc
theorem rq{r3 a0 a1 x5 r6 r7}{n:V}:QH r3 a0 a1 x5 r6 r7 (E6 r3 a0 a1 x5 r6 r7 n):=by
 induction n with
 | zero=>intro _ _ r h; cases h
 | succ n ih=>
  intro v8 v9 r h σ hσ S hS;refine ev hS ?_;rw[E6] at h;refine AR (AJ ?_);obtain⟨h10,h⟩|⟨h10,h⟩:=ic h
  ·obtain⟨h11,h⟩|⟨h11,h⟩:=ic h
   ·obtain⟨r12,h12,h⟩:=ob h;try simp only[hσ,h10,h11,B,C,E,F,G,J]
    refine Bm (Ag rG h12) W (BL W ⟨AM,W,⟨⟩⟩) W (uf W) ?_;obtain⟨h13,h⟩|⟨h13,h⟩:=ic h
    ·obtain⟨r14,h14,h⟩:=ob h;try simp only[h10,h11,h13,B,C,E,F,G,J]
     refine Bm (Ag rH h14) W (BL W ⟨W,W,W,AM,W,⟨⟩⟩) W (uf W) ?_;try simp only[h10,h11,h13,B,C,E,F,G,J]
     refine BS ?_;obtain⟨h15,h⟩|⟨h15,h⟩:=ic h
     ·try simp only[h10,h11,h13,h15,B,C,E,F,G,J]
      refine Ed ?_;try simp only[h10,h11,h13,h15,B,C,E,F,G,J]
      refine Bz (es:=X X5.row ([r14.1]:O X5)) ?_;obtain⟨h16,h⟩:=Bv h;try simp only[h10,h11,h13,h15,h16,B,C,E,F,G,J]
      refine Qi ih h ?_ (by kernel_rfl);try simp only[h10,h11,h13,h15,h16,B,C,E,F,G,J,pL,aM,Z]
     ·try simp only[h10,h11,h13,h15,B,C,E,F,G,J]
      refine Qi ih h ?_ (by kernel_rfl);try simp only[h10,h11,h13,h15,B,C,E,F,G,J,pL,aM,Z]
    ·try simp only[h10,h11,h13,B,C,E,F,G,J]
     refine Qi ih h ?_ (by kernel_rfl);try simp only[h10,h11,h13,B,C,E,F,G,J,pL,aM,Z]
   ·try simp only[hσ,h10,h11,B,C,E,F,G,J]
    cases h;exact t0
  ·try simp only[hσ,h10,B,C,E,F,G,J]
   cases h;exact t0
instance xe:Ct 24 (∀{a0} {a1} {r},KJ a0 a1=L r→FC Y 24 [.ag (X9.row a0),.ag (zI a1)] [.sc (.o 4 (X X5.row r))]):=by
 refine⟨fun h=> ?_⟩;unfold KJ at h;refine A5 A2 OS [4] 92 ?_;have s0:= @Bk (X X5.row ([]:O X5));have k0:= @rq;exact gc
def Se:Hw:=([(6,[2,7,8,9],[2],[])],[])
def Yh:=fun a1 (a0:X3) (k_:Q→P U)=>∀{v1} {zr},k_ v1=L zr→Kh Y 65 Se 6 [2,7,8,9] [2] [] ⟨[pB 2,pL 7 X7.row a1,pI 8 (a1.length:Q),pI 9 v1],[(2,(dm a0.row))],[]⟩ (Ac [4] [.sc (.v (.bool zr))])
theorem rr{a1 a0}{n:V}:Yh a1 a0 (F3 a1 a0 n):=by
 induction n with
 | zero=>intro _ r h; cases h
 | succ n ih=>
  intro v1 r h σ hσ;rw[F3] at h;exact gc
instance xZ:Ct 65 (∀{a0} {a1} {r},MM a0 a1=L r→FC Y 65 [.ag (X3.row a0),.sc (.sl (X X7.row a1))] [.sc (.v (.bool r))]):=by
 refine⟨fun h=> ?_⟩;unfold MM at h;refine A5 A2 Se [4] 32 ?_;have k0:= @rr;exact gc
def Sf:Hw:=([(6,[1,8,9,10],[],[])],[])
def Ys:=fun a1 (a0:X5) (k_:Q→P U)=>∀{v1} {zr},k_ v1=L zr→Kh Y 25 Sf 6 [1,8,9,10] [] [] ⟨[pL 1 X7.row a1,pL 8 X3.row a0.Passages,pI 9 (a0.Passages.length:Q),pI 10 v1],[],[]⟩ (Ac [4] [.sc (.v (.bool zr))])
theorem ru{a1 a0}{n:V}:Ys a1 a0 (GT a1 a0 n):=by
 induction n with
 | zero=>intro _ r h; cases h
 | succ n ih=>
  intro v1 r h σ hσ;rw[GT] at h;exact gc
instance rC:Ct 25 (∀{a0} {a1} {r},MQ a0 a1=L r→FC Y 25 [.ag (X5.row a0),.sc (.sl (X X7.row a1))] [.sc (.v (.bool r))]):=by
 refine⟨fun h=> ?_⟩;unfold MQ at h;refine A5 A2 Sf [4] 18 ?_;have k0:= @ru;exact gc
def Sg:Hw:=([(16,[2,7,24,25,26],[],[1344,1536])],[])
def Yl:=fun a2 r5 (k_:Q→(O X5)→P (O X5))=>∀{v6 v7} {zr},k_ v6 v7=L zr→Kh Y 6 Sg 16 [2,7,24,25,26] [] [1344,1536] ⟨[pL 2 X7.row a2,pW 7 1344,pW 24 1536,pI 25 (r5.length:Q),pI 26 v6],[],[(1344,4,X X5.row v7),(1536,4,X X5.row r5)]⟩ (Ac [6] [.sc (.o 4 (X X5.row zr))])
theorem rv{a2 r5}{n:V}:Yl a2 r5 (F5 a2 r5 n):=by
 induction n with
 | zero=>intro _ _ r h; cases h
 | succ n ih=>
  intro v6 v7 r h σ hσ S hS;refine ev hS ?_;rw[F5] at h;refine AR (AJ ?_);obtain⟨h8,h⟩|⟨h8,h⟩:=ic h
  ·obtain⟨x9,h9,h⟩:=ob h;have h9n:=Ay h9;try simp only[hσ,h8,h9,h9n,B,C,E,F,G,J]
   refine BS ?_;obtain⟨r10,h10,h⟩:=ob h;try simp only[h8,h9,h9n,B,C,E,F,G,J]
   refine B4 (Ag rC h10) ?_;obtain⟨h11,h⟩|⟨h11,h⟩:=ic h
   ·try simp only[h8,h9,h9n,h11,B,C,E,F,G,J]
    refine ih h ?_ (by kernel_rfl);try simp only[h8,h9,h9n,h11,B,C,E,F,G,J,pL,aM,Z]
   ·try simp only[h8,h9,h9n,h11,B,C,E,F,G,J]
    refine Bz (es:=X X5.row ([x9]:O X5)) ?_;obtain⟨h12,h⟩:=Bv h;try simp only[h8,h9,h9n,h11,h12,B,C,E,F,G,J]
    refine ih h ?_ (by kernel_rfl);try simp only[h8,h9,h9n,h11,h12,B,C,E,F,G,J,pL,aM,Z]
  ·try simp only[hσ,h8,B,C,E,F,G,J]
   cases h;exact t0
instance qz:Ct 6 (∀{a0} {a1} {a2} {r},GN a0 a1 a2=L r→FC Y 6 [.ag (X9.row a0),.ag (zI a1),.sc (.sl (X X7.row a2))] [.sc (.o 4 (X X5.row r))]):=by
 refine⟨fun h=> ?_⟩;unfold GN at h;refine A5 A2 Sg [6] 40 ?_;have s0:= @Bk (X X5.row ([]:O X5));have k0:= @rv;exact gc
instance wO:Ct 124 (∀{a0} {a1} {a2} {r},BA a0 a1 a2=L r→FC Y 124 [.sc (.int .i64 a0),.sc (.int .i64 a1),.sc (.int .i64 a2)] [.sc (.v (.bool r))]):=by
 refine⟨fun h=> ?_⟩;unfold BA at h;refine A5 A2 h0 [6] 15 ?_;exact gc
instance wJ:Ct 188 (∀{a0} {r},HY a0=L r→FC Y 188 [.sc (.int .i64 a0)] [.sc (.v (.bool r))]):=by
 refine⟨fun h=> ?_⟩;unfold HY at h;refine A5 A2 h0 [2] 10 ?_;exact gc
instance vn:Ct 175 (∀{a0} {r},JD a0=L r→FC Y 175 [.ag (zE a0)] [.sc (.v (.bool r))]):=by
 refine⟨fun h=> ?_⟩;unfold JD at h;refine A5 A2 h0 [2] 19 ?_;exact gc
def Si:Hw:=([(14,[16,17,18],[],[])],[])
def Xr:=fun(a0:Xh) (k_:Q→P U)=>∀{v4} {zr},k_ v4=L zr→Kh Y 155 Si 14 [16,17,18] [] [] ⟨[pL 16 zE a0.Parts,pI 17 (a0.Parts.length:Q),pI 18 v4],[],[]⟩ (Ac [2] [.sc (.v (.bool zr))])
theorem rx{a0}{n:V}:Xr a0 (G8 a0 n):=by
 induction n with
 | zero=>intro _ r h; cases h
 | succ n ih=>
  intro v4 r h σ hσ;rw[G8] at h;exact gc
instance wE:Ct 155 (∀{a0} {r},JM a0=L r→FC Y 155 [.ag (Xh.row a0)] [.sc (.v (.bool r))]):=by
 refine⟨fun h=> ?_⟩;unfold JM at h;refine A5 A2 Si [2] 26 ?_;have k0:= @rx;exact gc
instance qX:Ct 123 (∀{a0} {r},Dp a0=L r→FC Y 123 [.sc (.int .i64 a0)] [.sc (.v (.bool r))]):=by
 refine⟨fun h=> ?_⟩;unfold Dp at h;refine A5 A2 h0 [2] 5 ?_;exact gc
instance wD:Ct 156 (∀{a0} {r},JL a0=L r→FC Y 156 [.ag (zF a0)] [.sc (.v (.bool r))]):=by
 refine⟨fun h=> ?_⟩;unfold JL at h;refine A5 A2 h0 [2] 23 ?_;exact gc
def Sj:Hw:=([(14,[1,25,26,27],[1],[])],[])
def WQ:=fun(a0:Xb) (k_:Q→P U)=>∀{v7} {zr},k_ v7=L zr→Kh Y 119 Sj 14 [1,25,26,27] [1] [] ⟨[pB 1,pL 25 zF a0.Surges,pI 26 (a0.Surges.length:Q),pI 27 v7],[(1,[aI a0.Tide.Mean,aM zE a0.Tide.Parts,aM zF a0.Surges])],[]⟩ (Ac [2] [.sc (.v (.bool zr))])
theorem rz{a0}{n:V}:WQ a0 (EQ a0 n):=by
 induction n with
 | zero=>intro _ r h; cases h
 | succ n ih=>
  intro v7 r h σ hσ;rw[EQ] at h;exact gc
instance qS:Ct 119 (∀{a0} {r},EP a0=L r→FC Y 119 [.ag (zD a0)] [.sc (.v (.bool r))]):=by
 refine⟨fun h=> ?_⟩;unfold EP at h;refine A5 A2 Sj [2] 52 ?_;have k0:= @rz;exact gc
def N4:Hw:=([(14,[0,3],[],[]),(25,[0,3,4],[],[]),(32,[0,3],[],[])],[])
def WU:=fun a0 v3 (k_:P U)=>∀{zr},k_=L zr→Kh Y 125 N4 32 [0,3] [] [] ⟨[(0,vc (aS a0)),pI 3 v3],[],[]⟩ (Ac [2] [.sc (.v (.bool zr))])
def WT:=fun a0 v3 (k_:U→P U)=>∀{v7} {zr},k_ v7=L zr→Kh Y 125 N4 25 [0,3,4] [] [] ⟨[(0,vc (aS a0)),pI 3 v3,(4,vc (aB v7))],[],[]⟩ (Ac [2] [.sc (.v (.bool zr))])
def O1:=fun a0 (k_:Q→P U)=>∀{v3} {zr},k_ v3=L zr→Kh Y 125 N4 14 [0,3] [] [] ⟨[(0,vc (aS a0)),pI 3 v3],[],[]⟩ (Ac [2] [.sc (.v (.bool zr))])
theorem sA{a0 v3}{Dz}(Ta:O1 a0 Dz):WU a0 v3 (Jy a0 v3 Dz):=by
 intro r h σ hσ;unfold Jy at h;have k0:= @Ta;exact gc
theorem sB{a0 v3}{Dz}(Ta:O1 a0 Dz):WT a0 v3 (Jx a0 v3 Dz):=by
 intro v7 r h σ hσ;unfold Jx at h;have k0:= @sA;exact gc
theorem sC{a0}{n:V}:O1 a0 (ER a0 n):=by
 induction n with
 | zero=>intro _ r h; cases h
 | succ n ih=>
  intro v3 r h σ hσ;rw[ER] at h;have k0:= @sB;exact gc
instance vg:Ct 125 (∀{a0} {r},HT a0=L r→FC Y 125 [.sc (.str a0)] [.sc (.v (.bool r))]):=by
 refine⟨fun h=> ?_⟩;unfold HT at h;refine A5 A2 N4 [2] 43 ?_;have k0:= @sC;exact gc
def Sk:Hw:=([(6,[1,8,9,10],[],[])],[])
def WZ:=fun a1 (a0:X0) (k_:Q→P Q)=>∀{v1} {zr},k_ v1=L zr→Kh Y 126 Sk 6 [1,8,9,10] [] [] ⟨[(1,vc (aS a1)),pL 8 X8.row a0.Points,pI 9 (a0.Points.length:Q),pI 10 v1],[],[]⟩ (Ac [4] [.sc (.v (.int .i64 zr))])
theorem sD{a1 a0}{n:V}:WZ a1 a0 (G4 a1 a0 n):=by
 induction n with
 | zero=>intro _ r h; cases h
 | succ n ih=>
  intro v1 r h σ hσ;rw[G4] at h;exact gc
instance vp:Ct 126 (∀{a0} {a1} {r},JF a0 a1=L r→FC Y 126 [.ag (X0.row a0),.sc (.str a1)] [.sc (.v (.int .i64 r))]):=by
 refine⟨fun h=> ?_⟩;unfold JF at h;refine A5 A2 Sk [4] 21 ?_;have k0:= @sD;exact gc
instance NV:Ct 75 (∀{a0} {a1} {r},BI a0 a1=L r→FC Y 75 [.sc (.int .i64 a0),.sc (.int .i64 a1)] [.sc (.v (.bool r))]):=by
 refine⟨fun h=> ?_⟩;unfold BI at h;refine A5 A2 h0 [4] 12 ?_;exact gc
instance vt:Ct 127 (∀{a0} {a1} {a2} {r},JH a0 a1 a2=L r→FC Y 127 [.ag (X1.row a0),.sc (.int .i64 a1),.sc (.int .i64 a2)] [.sc (.v (.bool r))]):=by
 refine⟨fun h=> ?_⟩;unfold JH at h;refine A5 A2 h0 [6] 29 ?_;exact gc
def N5:Hw:=([(14,[1,20,21,22],[1],[]),(37,[1,41,42,43],[1],[]),(59,[1,6,41,42,43,86,87,88],[1,6],[])],[])
def WL:=fun(a0:X0) v11 (x13:X1) y24 y25 (k_:Q→P U)=>∀{v26} {zr},k_ v26=L zr→Kh Y 74 N5 59 [1,6,41,42,43,86,87,88] [1,6] [] ⟨[pB 1,pB 6,pL 41 X1.row a0.Segments,pI 42 (a0.Segments.length:Q),pI 43 v11,pL 86 X1.row y24,pI 87 y25,pI 88 v26],[(1,[aM X8.row a0.Points,aM X1.row a0.Segments]),(6,(dm x13.row))],[]⟩ (Ac [2] [.sc (.v (.bool zr))])
def QA:=fun(a0:X0) (k_:Q→P U)=>∀{v11} {zr},k_ v11=L zr→Kh Y 74 N5 37 [1,41,42,43] [1] [] ⟨[pB 1,pL 41 X1.row a0.Segments,pI 42 (a0.Segments.length:Q),pI 43 v11],[(1,[aM X8.row a0.Points,aM X1.row a0.Segments])],[]⟩ (Ac [2] [.sc (.v (.bool zr))])
def WK:=fun(a0:X0) (k_:Q→P U)=>∀{v3} {zr},k_ v3=L zr→Kh Y 74 N5 14 [1,20,21,22] [1] [] ⟨[pB 1,pL 20 X8.row a0.Points,pI 21 (a0.Points.length:Q),pI 22 v3],[(1,[aM X8.row a0.Points,aM X1.row a0.Segments])],[]⟩ (Ac [2] [.sc (.v (.bool zr))])
theorem sE{a0 v11 x13 y24 y25}{Lb}(gj:QA a0 Lb){n:V}:WL a0 v11 x13 y24 y25 (FU a0 v11 x13 y24 y25 Lb n):=by
 induction n with
 | zero=>intro _ r h; cases h
 | succ n ih=>
  intro v26 r h σ hσ;rw[FU] at h;have k0:= @gj;exact gc
theorem sF{a0}{n:V}:QA a0 (Dl a0 n):=by
 induction n with
 | zero=>intro _ r h; cases h
 | succ n ih=>
  intro v11 r h σ hσ;rw[Dl] at h;have k0:= @sE;exact gc
theorem sG{a0}{n:V}:WK a0 (FT a0 n):=by
 induction n with
 | zero=>intro _ r h; cases h
 | succ n ih=>
  intro v3 r h σ hσ;rw[FT] at h;have k0:= @sF;exact gc
instance qN:Ct 74 (∀{a0} {r},CL a0=L r→FC Y 74 [.ag (X0.row a0)] [.sc (.v (.bool r))]):=by
 refine⟨fun h=> ?_⟩;unfold CL at h;refine A5 A2 N5 [2] 100 ?_;have k0:= @sG;exact gc
instance vw:Ct 157 (∀{a0} {r},Do a0=L r→FC Y 157 [.ag (X6.row a0)] [.sc (.v (.bool r))]):=by
 refine⟨fun h=> ?_⟩;unfold Do at h;refine A5 A2 h0 [2] 26 ?_;exact gc
def Sm:Hw:=([(6,[1,7,8,9],[],[])],[])
def Xp:=fun a1 a0 (k_:Q→P Q)=>∀{v1} {zr},k_ v1=L zr→Kh Y 158 Sm 6 [1,7,8,9] [] [] ⟨[(1,vc (aS a1)),pL 7 X6.row a0,pI 8 (a0.length:Q),pI 9 v1],[],[]⟩ (Ac [4] [.sc (.v (.int .i64 zr))])
theorem sH{a1 a0}{n:V}:Xp a1 a0 (G6 a1 a0 n):=by
 induction n with
 | zero=>intro _ r h; cases h
 | succ n ih=>
  intro v1 r h σ hσ;rw[G6] at h;exact gc
instance vu:Ct 158 (∀{a0} {a1} {r},JI a0 a1=L r→FC Y 158 [.sc (.sl (X X6.row a0)),.sc (.str a1)] [.sc (.v (.int .i64 r))]):=by
 refine⟨fun h=> ?_⟩;unfold JI at h;refine A5 A2 Sm [4] 20 ?_;have k0:= @sH;exact gc
def Sn:Hw:=([(14,[0,8,9,10],[],[])],[])
def WP:=fun a0 (k_:Q→P U)=>∀{v2} {zr},k_ v2=L zr→Kh Y 120 Sn 14 [0,8,9,10] [] [] ⟨[pL 0 X6.row a0,pL 8 X6.row a0,pI 9 (a0.length:Q),pI 10 v2],[],[]⟩ (Ac [2] [.sc (.v (.bool zr))])
theorem sI{a0}{n:V}:WP a0 (G0 a0 n):=by
 induction n with
 | zero=>intro _ r h; cases h
 | succ n ih=>
  intro v2 r h σ hσ;rw[G0] at h;exact gc
instance vY:Ct 120 (∀{a0} {r},Jr a0=L r→FC Y 120 [.sc (.sl (X X6.row a0))] [.sc (.v (.bool r))]):=by
 refine⟨fun h=> ?_⟩;unfold Jr at h;refine A5 A2 Sn [2] 27 ?_;have k0:= @sI;exact gc
instance vq:Ct 121 (∀{a0} {r},Ml a0=L r→FC Y 121 [.ag (Xi.row a0)] [.sc (.v (.bool r))]):=by
 refine⟨fun h=> ?_⟩;unfold Ml at h;refine A5 A2 h0 [2] 6 ?_;exact gc
def So:Hw:=([(14,[8,9,10],[],[])],[])
def Xv:=fun a0 (k_:Q→P U)=>∀{v2} {zr},k_ v2=L zr→Kh Y 159 So 14 [8,9,10] [] [] ⟨[pL 8 rI a0,pI 9 (a0.length:Q),pI 10 v2],[],[]⟩ (Ac [2] [.sc (.v (.bool zr))])
theorem sJ{a0}{n:V}:Xv a0 (EV a0 n):=by
 induction n with
 | zero=>intro _ r h; cases h
 | succ n ih=>
  intro v2 r h σ hσ;rw[EV] at h;exact gc
instance wK:Ct 159 (∀{a0} {r},Mq a0=L r→FC Y 159 [.sc (.sl (X rI a0))] [.sc (.v (.bool r))]):=by
 refine⟨fun h=> ?_⟩;unfold Mq at h;refine A5 A2 So [2] 18 ?_;have k0:= @sJ;exact gc
instance vX:Ct 122 (∀{a0} {r},Jq a0=L r→FC Y 122 [.ag (Xj.row a0)] [.sc (.v (.bool r))]):=by
 refine⟨fun h=> ?_⟩;unfold Jq at h;refine A5 A2 h0 [2] 21 ?_;exact gc
instance vd:Ct 72 (∀{a0} {r},Ju a0=L r→FC Y 72 [.ag (X9.row a0)] [.sc (.v (.bool r))]):=by
 refine⟨fun h=> ?_⟩;unfold Ju at h;refine A5 A2 h0 [2] 26 ?_;exact gc
instance wI:Ct 73 (∀{a0} {a1} {r},JO a0 a1=L r→FC Y 73 [.ag (X9.row a0),.ag (zI a1)] [.sc (.v (.bool r))]):=by
 refine⟨fun h=> ?_⟩;unfold JO at h;refine A5 A2 h0 [4] 47 ?_;exact gc
instance VD:Ct 32 (∀{a0} {a1} {r},HR a0 a1=L r→FC Y 32 [.ag (X9.row a0),.ag (zI a1)] [.sc (.v (.bool r))]):=by
 refine⟨fun h=> ?_⟩;unfold HR at h;refine A5 A2 h0 [4] 12 ?_;exact gc
def Sp:Hw:=([(14,[2,15,16,17],[2],[])],[])
def WO:=fun a1 (a0:X0) (k_:Q→P U)=>∀{v4} {zr},k_ v4=L zr→Kh Y 33 Sp 14 [2,15,16,17] [2] [] ⟨[pB 2,pL 15 X7.row a1,pI 16 (a1.length:Q),pI 17 v4],[(2,[aM X8.row a0.Points,aM X1.row a0.Segments])],[]⟩ (Ac [4] [.sc (.v (.bool zr))])
theorem sK{a1 a0}{n:V}:WO a1 a0 (FZ a1 a0 n):=by
 induction n with
 | zero=>intro _ r h; cases h
 | succ n ih=>
  intro v4 r h σ hσ;rw[FZ] at h;exact gc
instance qR:Ct 33 (∀{a0} {a1} {r},FY a0 a1=L r→FC Y 33 [.ag (X0.row a0),.sc (.sl (X X7.row a1))] [.sc (.v (.bool r))]):=by
 refine⟨fun h=> ?_⟩;unfold FY at h;refine A5 A2 Sp [4] 46 ?_;have k0:= @sK;exact gc
instance Qa:Ct 176 (∀{a0} {r},BW a0=L r→FC Y 176 [.sc (.sl (X rI a0))] [.sc (.o 1 (X rI r))]):=by
 refine⟨fun h=> ?_⟩;unfold BW at h;refine A5 A2 h0 [2] 8 ?_;have s0:= @Fq _ rI (0:Q);exact gc
instance VG:Ct 177 (∀{a0} {a1} {r},HV a0 a1=L r→FC Y 177 [.ag (X1.row a0),.sc (.int .i64 a1)] [.sc (.v (.int .i64 r))]):=by
 refine⟨fun h=> ?_⟩;unfold HV at h;refine A5 A2 h0 [4] 18 ?_;exact gc
def LQ:O (O V × AItem):= [([],(N,.mv 18 (S 5))),([],(N,.mv 19 (S 5))),([1],(N,.nilc 20 (S 19))),([2],(N,.load 21 (S 20) H 1)),([],(N,.mv 22 (S 3))),([4],(N,.call 23 176 [(S 22)])),([5],(N,.bslice 24 1 [.sl []] 1 [(0,(S 23))])),([3,6,5],(N,.app 25 1 24 (S 21) (S 24))),([0,0,1,2,3,4,5,6,7],(N,.nilc 26 (S 18))),([8,7,7,0,1,2,3,4,5,6,7],(N,.store (S 26) (S 25) 1))]
def J4:O (O V × AItem):= [([],(N,.load 48 (S 6) T 2)),([],(N,.mv 49 (S 14))),([],(N,.mv 50 (S 2))),([],(N,.mv 51 (S 3))),([3],(N,.call 52 176 [(S 51)])),([],(N,.mv 53 (S 12))),([5],(N,.bslice 54 1 [.int .i64 0] 1 [(0,(S 53))])),([4,6,4],(N,.app 55 1 8 (S 52) (S 54))),([],(N,.load 56 (S 10) T 8)),([],(N,.mv 57 (S 5))),([0,1,2,7,8,9,7],(N,.call 58 160 [(S 48),(S 49),(S 50),(S 55),(S 56),(S 57)]))]
def N6:Hw:=([(15,[1,2,3,5,6,10,30,31,32],[99999999999,6,10],[90000]),(30,[1,2,3,5,6,10,12,14,30,31,32,47],[99999999999,6,10],[90000])],[])
abbrev Cm(a3:O Q)(wo3_ wo5_:AV)(c0_ c1_:U)(c2_ c3_:U)(c4_ c5_:U)(c6_ c7_ c8_:U)(bx_:O (V × O AC))(rs_:Rows):St:=⟨[(3,vc (aL (X rI a3))),(5,vc (.pb 99999999999 0)),(18,bif c0_ then vc (.pb 99999999999 0) else .undef),(19,bif c1_ then vc (.pb 99999999999 0) else .undef),(20,bif c2_ then vc (.pb 99999999999 0) else .undef),(21,bif c3_ then wo3_ else .undef),(22,bif c4_ then vc (aL (X rI a3)) else .undef),(23,bif c5_ then wo5_ else .undef),(24,bif c6_ then vc (.own 1536) else .undef),(25,bif c7_ then vc (.own 90000) else .undef),(26,bif c8_ then vc (.pb 99999999999 0) else .undef)],bx_,rs_⟩
abbrev Hn(a3:O Q)(a5:O (O Q))(r2:(O Q)):St:=(Cm a3 (vc (.undef)) (vc (aL (X rI r2))) T T T T T T T T T [(99999999999,[.own 90000])] [(90000,1,X (rL rI) (a5++([r2]:O (O Q)))),(1536,1,X (rL rI) ([r2]:O (O Q)))])
theorem sM(rec_:X0→Q→Q→(O Q)→X4→(O (O Q))→P (O (O Q)))(h_rec:∀(a0:X0) (a1 a2:Q) (a3:O Q) (a4:X4) (a5:O (O Q)) zr,rec_ a0 a1 a2 a3 a4 a5=L zr→FCz Y 160 [.d (.ag (X0.row a0)),.d (.sc (.int .i64 a1)),.d (.sc (.int .i64 a2)),.d (.sc (.sl (X rI a3))),.d (.ag (X4.row a4)),.p] [.r 0] [(1,X (rL rI) a5)] [.r 0] [(1,X (rL rI) zr)] [])(a3)(a5:O (O Q))(r2)(h2:BW a3=L r2)(h3:(A4 a5.length ([r2]:O (O Q)).length 24)=T):∀(f:V),An Y LQ (Hn a3 a5 r2) f [T,T,T,T,T,T,T,T,T,T] (Cm a3 (vc (.undef)) (vc (aL (X rI r2))) T T T T T T T T T [(99999999999,[.own 90000])] [(90000,1,X (rL rI) (a5++([r2]:O (O Q)))),(1536,1,X (rL rI) ([r2]:O (O Q)))]):=by
 intro f
 induction f with
 | zero=>intro h; rfl
 | succ f ih=>
  refine Aw ⟨?_,?_,?_,?_,?_,?_,?_,?_,?_,?_,⟨⟩⟩<;>try first | (intro h; cases h; done)
theorem sN(rec_:X0→Q→Q→(O Q)→X4→(O (O Q))→P (O (O Q)))(h_rec:∀(a0:X0) (a1 a2:Q) (a3:O Q) (a4:X4) (a5:O (O Q)) zr,rec_ a0 a1 a2 a3 a4 a5=L zr→FCz Y 160 [.d (.ag (X0.row a0)),.d (.sc (.int .i64 a1)),.d (.sc (.int .i64 a2)),.d (.sc (.sl (X rI a3))),.d (.ag (X4.row a4)),.p] [.r 0] [(1,X (rL rI) a5)] [.r 0] [(1,X (rL rI) zr)] [])(a3)(a5:O (O Q))(r2)(hr2:BW a3=L r2)(hg3:(A4 a5.length ([r2]:O (O Q)).length 24)=T):∀(f:V) (b0 b1:U) (b2 b8:U),An Y LQ (Hn a3 a5 r2) f [b0,b1,b2,T,T,T,T,T,b8,H] (Cm a3 (vc (.undef)) (vc (aL (X rI r2))) b0 b1 b2 T T T T T b8 [(99999999999,[.undef])] [(90000,1,X (rL rI) (a5++([r2]:O (O Q)))),(1536,1,X (rL rI) ([r2]:O (O Q)))]):=by
 intro f
 induction f with
 | zero=>intro b0 b1 b2 b8 h; simp at h
 | succ f ih=>
  intro b0 b1 b2 b8;refine Aw ⟨?_,?_,?_,?_,?_,?_,?_,?_,?_,?_,⟨⟩⟩<;>try first | (intro h; cases h; done) | (intro h0 hw; obtain rfl:=hz h0 rfl; (try obtain rfl:=hq hw 0 rfl rfl); (try obtain rfl:=hq hw 1 rfl rfl); (try obtain rfl:=hq hw 2 rfl rfl); refine np ?_; simp only[Cm,A8,Aa,A3,B,C,E,F,G,J]; exact ih _ _ _ _)
  ·intro h0 hw;obtain rfl:=hq hw 0 rfl rfl;obtain rfl:=hq hw 1 rfl rfl;obtain rfl:=hq hw 2 rfl rfl;obtain rfl:=hq hw 8 rfl rfl;refine np ?_;try simp only[Cm,A8,Aa,A3,B,C,E,F,G,J]
   exact sM rec_ h_rec a3 a5 r2 hr2 hg3 _
theorem sO(rec_:X0→Q→Q→(O Q)→X4→(O (O Q))→P (O (O Q)))(h_rec:∀(a0:X0) (a1 a2:Q) (a3:O Q) (a4:X4) (a5:O (O Q)) zr,rec_ a0 a1 a2 a3 a4 a5=L zr→FCz Y 160 [.d (.ag (X0.row a0)),.d (.sc (.int .i64 a1)),.d (.sc (.int .i64 a2)),.d (.sc (.sl (X rI a3))),.d (.ag (X4.row a4)),.p] [.r 0] [(1,X (rL rI) a5)] [.r 0] [(1,X (rL rI) zr)] [])(a3)(a5:O (O Q))(r2)(hr2:BW a3=L r2)(hg3:(A4 a5.length ([r2]:O (O Q)).length 24)=T):∀(f:V) (b0 b1:U) (b2 b3:U),An Y LQ (Hn a3 a5 r2) f [b0,b1,b2,b3,T,T,T,H,H,H] (Cm a3 (vc (.own 90000)) (vc (aL (X rI r2))) b0 b1 b2 b3 T T T H H [(99999999999,[.own 90000])] [(90000,1,X (rL rI) a5),(1536,1,X (rL rI) ([r2]:O (O Q)))]):=by
 intro f
 induction f with
 | zero=>intro b0 b1 b2 b3 h; simp at h
 | succ f ih=>
  intro b0 b1 b2 b3;refine Aw ⟨?_,?_,?_,?_,?_,?_,?_,?_,?_,?_,⟨⟩⟩<;>try first | (intro h; cases h; done) | (intro _ hw; simp at hw; done) | (intro h0 hw; obtain rfl:=hz h0 rfl; (try obtain rfl:=hq hw 1 rfl rfl); (try obtain rfl:=hq hw 2 rfl rfl); refine np ?_; simp only[Cm,A8,Aa,A3,B,C,E,F,G,J]; exact ih _ _ _ _)
  ·intro h0 hw;obtain rfl:=hq hw 3 rfl rfl;refine np ?_;try simp only[hg3,Cm,A8,Aa,A3,B,C,E,F,G,J]
   exact sN rec_ h_rec a3 a5 r2 hr2 hg3 _ b0 b1 b2 H
theorem sP(rec_:X0→Q→Q→(O Q)→X4→(O (O Q))→P (O (O Q)))(h_rec:∀(a0:X0) (a1 a2:Q) (a3:O Q) (a4:X4) (a5:O (O Q)) zr,rec_ a0 a1 a2 a3 a4 a5=L zr→FCz Y 160 [.d (.ag (X0.row a0)),.d (.sc (.int .i64 a1)),.d (.sc (.int .i64 a2)),.d (.sc (.sl (X rI a3))),.d (.ag (X4.row a4)),.p] [.r 0] [(1,X (rL rI) a5)] [.r 0] [(1,X (rL rI) zr)] [])(a3)(a5:O (O Q))(r2)(hr2:BW a3=L r2)(hg3:(A4 a5.length ([r2]:O (O Q)).length 24)=T):∀(f:V) (b0 b1:U) (b2 b3:U),An Y LQ (Hn a3 a5 r2) f [b0,b1,b2,b3,T,T,H,H,H,H] (Cm a3 (vc (.own 90000)) (vc (.own 1472)) b0 b1 b2 b3 T T H H H [(99999999999,[.own 90000])] [(90000,1,X (rL rI) a5),(1472,1,X rI r2)]):=by
 intro f
 induction f with
 | zero=>intro b0 b1 b2 b3 h; simp at h
 | succ f ih=>
  intro b0 b1 b2 b3;refine Aw ⟨?_,?_,?_,?_,?_,?_,?_,?_,?_,?_,⟨⟩⟩<;>try first | (intro h; cases h; done) | (intro _ hw; simp at hw; done) | (intro h0 hw; obtain rfl:=hz h0 rfl; (try obtain rfl:=hq hw 1 rfl rfl); (try obtain rfl:=hq hw 2 rfl rfl); refine np ?_; simp only[Cm,A8,Aa,A3,B,C,E,F,G,J]; exact ih _ _ _ _)
  ·intro h0 hw;refine⟨[(N,.frz 1472)],[],W,W,?_⟩;try simp only[Cm,A8,Aa,zH,zG,A3,B,C,E,F,G,J]
   refine Ed ?_;try simp only[A3,B,C,E,F,G,J]
   refine As (es:=X (rL rI) ([r2]:O (O Q))) W (by simp only[St.fresh,zB,zC,Ak]; simp[AV.cells,V1.cells,AC.uses]) ?_;try simp only[A3,B,C,E,F,G,J]
   exact sO rec_ h_rec a3 a5 r2 hr2 hg3 _ b0 b1 b2 b3
theorem sQ(rec_:X0→Q→Q→(O Q)→X4→(O (O Q))→P (O (O Q)))(h_rec:∀(a0:X0) (a1 a2:Q) (a3:O Q) (a4:X4) (a5:O (O Q)) zr,rec_ a0 a1 a2 a3 a4 a5=L zr→FCz Y 160 [.d (.ag (X0.row a0)),.d (.sc (.int .i64 a1)),.d (.sc (.int .i64 a2)),.d (.sc (.sl (X rI a3))),.d (.ag (X4.row a4)),.p] [.r 0] [(1,X (rL rI) a5)] [.r 0] [(1,X (rL rI) zr)] [])(a3)(a5:O (O Q))(r2)(hr2:BW a3=L r2)(hg3:(A4 a5.length ([r2]:O (O Q)).length 24)=T):∀(f:V) (b0 b1:U) (b2 b3 b4:U),An Y LQ (Hn a3 a5 r2) f [b0,b1,b2,b3,b4,H,H,H,H,H] (Cm a3 (vc (.own 90000)) (vc (.own 1472)) b0 b1 b2 b3 b4 H H H H [(99999999999,[.own 90000])] [(90000,1,X (rL rI) a5)]):=by
 intro f
 induction f with
 | zero=>intro b0 b1 b2 b3 b4 h; simp at h
 | succ f ih=>
  intro b0 b1 b2 b3 b4;refine Aw ⟨?_,?_,?_,?_,?_,?_,?_,?_,?_,?_,⟨⟩⟩<;>try first | (intro _ hw; simp at hw; done) | (intro h0 hw; obtain rfl:=hz h0 rfl; (try obtain rfl:=hq hw 1 rfl rfl); (try obtain rfl:=hq hw 2 rfl rfl); refine np ?_; simp only[Cm,A8,Aa,A3,B,C,E,F,G,J]; exact ih _ _ _ _ _)
  ·intro h0 hw;obtain rfl:=hq hw 4 rfl rfl;refine np ?_;try simp only[Cm,A8,Aa,A3,B,C,E,F,G,J]
   refine N0 (Ag Qa hr2) W (by simp only[St.fresh,zB,zC,Ak]; simp[AV.cells,V1.cells,AC.uses]) (uf W) ?_;try simp only[A3,B,C,E,F,G,J]
   exact sP rec_ h_rec a3 a5 r2 hr2 hg3 _ b0 b1 b2 b3
abbrev BP(a1 a2:Q)(a3:O Q)(v6 r11:Q)(a0:X0)(y7:X4)(wo4_ wo7_:AV)(c0_ c1_:U)(c2_ c3_:U)(c4_ c5_:U)(c6_ c7_:U)(c8_ c9_ c10_:U)(bx_:O (V × O AC))(rs_:Rows):St:=⟨[(1,vc (aI a1)),(2,vc (aI a2)),(3,vc (aL (X rI a3))),(5,vc (.pb 99999999999 0)),(6,vc (.pb 6 0)),(10,vc (.pb 10 0)),(12,vc (aI v6)),(14,vc (aI r11)),(30,vc (aL (X X1.row a0.Segments))),(31,vc (aI (a0.Segments.length:Q))),(32,vc (aI v6)),(48,bif c0_ then va [aL (X X8.row a0.Points),aL (X X1.row a0.Segments)] else .undef),(49,bif c1_ then vc (aI r11) else .undef),(50,bif c2_ then vc (aI a2) else .undef),(51,bif c3_ then vc (aL (X rI a3)) else .undef),(52,bif c4_ then wo4_ else .undef),(53,bif c5_ then vc (aI v6) else .undef),(54,bif c6_ then vc (.own 3456) else .undef),(55,bif c7_ then wo7_ else .undef),(56,bif c8_ then va [aB y7.i0,aB y7.i1,aB y7.i2,aB y7.i3,aB y7.i4,aB y7.i5,aB y7.i6,aB y7.i7] else .undef),(57,bif c9_ then vc (.pb 99999999999 0) else .undef),(58,bif c10_ then .tup [] else .undef)],bx_,rs_⟩
abbrev FF(a1 a2:Q)(a3:O Q)(v6 r11:Q)(a0:X0)(y7:X4)(r18:(O Q))(r20:(O (O Q))):St:=(BP a1 a2 a3 v6 r11 a0 y7 (vc (.undef)) (vc (aL (X rI (r18++([v6]:O Q))))) T T T T T T T T T T T [(99999999999,[.own 90000]),(6,[aL (X X8.row a0.Points),aL (X X1.row a0.Segments)]),(10,[aB y7.i0,aB y7.i1,aB y7.i2,aB y7.i3,aB y7.i4,aB y7.i5,aB y7.i6,aB y7.i7])] [(90000,1,X (rL rI) r20),(3456,1,X rI ([v6]:O Q))])
theorem sR(rec_:X0→Q→Q→(O Q)→X4→(O (O Q))→P (O (O Q)))(h_rec:∀(a0:X0) (a1 a2:Q) (a3:O Q) (a4:X4) (a5:O (O Q)) zr,rec_ a0 a1 a2 a3 a4 a5=L zr→FCz Y 160 [.d (.ag (X0.row a0)),.d (.sc (.int .i64 a1)),.d (.sc (.int .i64 a2)),.d (.sc (.sl (X rI a3))),.d (.ag (X4.row a4)),.p] [.r 0] [(1,X (rL rI) a5)] [.r 0] [(1,X (rL rI) zr)] [])(a1:Q)(a2)(a3)(v6)(r11)(a0)(y7)(v8)(r18)(r20)(h18:BW a3=L r18)(h19:(A4 r18.length ([v6]:O Q).length 8)=T)(h20:rec_ a0 r11 a2 (r18++([v6]:O Q)) y7 v8=L r20):∀(f:V),An Y J4 (FF a1 a2 a3 v6 r11 a0 y7 r18 r20) f [T,T,T,T,T,T,T,T,T,T,T] (BP a1 a2 a3 v6 r11 a0 y7 (vc (.undef)) (vc (aL (X rI (r18++([v6]:O Q))))) T T T T T T T T T T T [(99999999999,[.own 90000]),(6,[aL (X X8.row a0.Points),aL (X X1.row a0.Segments)]),(10,[aB y7.i0,aB y7.i1,aB y7.i2,aB y7.i3,aB y7.i4,aB y7.i5,aB y7.i6,aB y7.i7])] [(90000,1,X (rL rI) r20),(3456,1,X rI ([v6]:O Q))]):=by
 intro f
 induction f with
 | zero=>intro h; rfl
 | succ f ih=>
  refine Aw ⟨?_,?_,?_,?_,?_,?_,?_,?_,?_,?_,?_,⟨⟩⟩<;>try first | (intro h; cases h; done)
theorem sS(rec_:X0→Q→Q→(O Q)→X4→(O (O Q))→P (O (O Q)))(h_rec:∀(a0:X0) (a1 a2:Q) (a3:O Q) (a4:X4) (a5:O (O Q)) zr,rec_ a0 a1 a2 a3 a4 a5=L zr→FCz Y 160 [.d (.ag (X0.row a0)),.d (.sc (.int .i64 a1)),.d (.sc (.int .i64 a2)),.d (.sc (.sl (X rI a3))),.d (.ag (X4.row a4)),.p] [.r 0] [(1,X (rL rI) a5)] [.r 0] [(1,X (rL rI) zr)] [])(a1:Q)(a2)(a3)(v6)(r11)(a0)(y7)(v8)(r18)(r20)(hr18:BW a3=L r18)(hg19:(A4 r18.length ([v6]:O Q).length 8)=T)(hr20:rec_ a0 r11 a2 (r18++([v6]:O Q)) y7 v8=L r20):∀(f:V) (b0 b1:U) (b2 b8 b9:U),An Y J4 (FF a1 a2 a3 v6 r11 a0 y7 r18 r20) f [b0,b1,b2,T,T,T,T,T,b8,b9,H] (BP a1 a2 a3 v6 r11 a0 y7 (vc (.undef)) (vc (.own 3328)) b0 b1 b2 T T T T T b8 b9 H [(99999999999,[.own 90000]),(6,[aL (X X8.row a0.Points),aL (X X1.row a0.Segments)]),(10,[aB y7.i0,aB y7.i1,aB y7.i2,aB y7.i3,aB y7.i4,aB y7.i5,aB y7.i6,aB y7.i7])] [(90000,1,X (rL rI) v8),(3328,1,X rI (r18++([v6]:O Q))),(3456,1,X rI ([v6]:O Q))]):=by
 intro f
 induction f with
 | zero=>intro b0 b1 b2 b8 b9 h; simp at h
 | succ f ih=>
  intro b0 b1 b2 b8 b9;refine Aw ⟨?_,?_,?_,?_,?_,?_,?_,?_,?_,?_,?_,⟨⟩⟩<;>try first | (intro h; cases h; done) | (intro h0 hw; obtain rfl:=hz h0 rfl; refine np ?_; simp only[BP,A8,Aa,A3,B,C,E,F,G,J]; exact ih _ _ _ _ _)
  ·intro h0 hw;obtain rfl:=hq hw 0 rfl rfl;obtain rfl:=hq hw 1 rfl rfl;obtain rfl:=hq hw 2 rfl rfl;obtain rfl:=hq hw 8 rfl rfl;obtain rfl:=hq hw 9 rfl rfl;refine⟨[(N,.frz 3328)],[],W,W,?_⟩;try simp only[BP,A8,Aa,zH,zG,A3,B,C,E,F,G,J]
   refine Ed ?_;try simp only[A3,B,C,E,F,G,J]
   refine RY (h_rec _ _ _ _ _ _ _ hr20) 99999999999 [90000] rfl W W W (by decide) W W W ?_;try simp only[A3,B,C,E,F,G,J]
   exact sR rec_ h_rec a1 a2 a3 v6 r11 a0 y7 v8 r18 r20 hr18 hg19 hr20 _
theorem VW(rec_:X0→Q→Q→(O Q)→X4→(O (O Q))→P (O (O Q)))(h_rec:∀(a0:X0) (a1 a2:Q) (a3:O Q) (a4:X4) (a5:O (O Q)) zr,rec_ a0 a1 a2 a3 a4 a5=L zr→FCz Y 160 [.d (.ag (X0.row a0)),.d (.sc (.int .i64 a1)),.d (.sc (.int .i64 a2)),.d (.sc (.sl (X rI a3))),.d (.ag (X4.row a4)),.p] [.r 0] [(1,X (rL rI) a5)] [.r 0] [(1,X (rL rI) zr)] [])(a1:Q)(a2)(a3)(v6)(r11)(a0)(y7)(v8)(r18)(r20)(hr18:BW a3=L r18)(hg19:(A4 r18.length ([v6]:O Q).length 8)=T)(hr20:rec_ a0 r11 a2 (r18++([v6]:O Q)) y7 v8=L r20):∀(f:V) (b0 b1:U) (b2 b8 b9:U),An Y J4 (FF a1 a2 a3 v6 r11 a0 y7 r18 r20) f [b0,b1,b2,T,T,T,T,H,b8,b9,H] (BP a1 a2 a3 v6 r11 a0 y7 (vc (.own 3328)) (vc (.own 3328)) b0 b1 b2 T T T T H b8 b9 H [(99999999999,[.own 90000]),(6,[aL (X X8.row a0.Points),aL (X X1.row a0.Segments)]),(10,[aB y7.i0,aB y7.i1,aB y7.i2,aB y7.i3,aB y7.i4,aB y7.i5,aB y7.i6,aB y7.i7])] [(90000,1,X (rL rI) v8),(3328,1,X rI r18),(3456,1,X rI ([v6]:O Q))]):=by
 intro f
 induction f with
 | zero=>intro b0 b1 b2 b8 b9 h; simp at h
 | succ f ih=>
  intro b0 b1 b2 b8 b9;refine Aw ⟨?_,?_,?_,?_,?_,?_,?_,?_,?_,?_,?_,⟨⟩⟩<;>try first | (intro h; cases h; done) | (intro _ hw; simp at hw; done) | (intro h0 hw; obtain rfl:=hz h0 rfl; refine np ?_; simp only[BP,A8,Aa,A3,B,C,E,F,G,J]; exact ih _ _ _ _ _)
  ·intro h0 hw;refine np ?_;try simp only[hg19,BP,A8,Aa,A3,B,C,E,F,G,J]
   exact sS rec_ h_rec a1 a2 a3 v6 r11 a0 y7 v8 r18 r20 hr18 hg19 hr20 _ b0 b1 b2 b8 b9
theorem sT(rec_:X0→Q→Q→(O Q)→X4→(O (O Q))→P (O (O Q)))(h_rec:∀(a0:X0) (a1 a2:Q) (a3:O Q) (a4:X4) (a5:O (O Q)) zr,rec_ a0 a1 a2 a3 a4 a5=L zr→FCz Y 160 [.d (.ag (X0.row a0)),.d (.sc (.int .i64 a1)),.d (.sc (.int .i64 a2)),.d (.sc (.sl (X rI a3))),.d (.ag (X4.row a4)),.p] [.r 0] [(1,X (rL rI) a5)] [.r 0] [(1,X (rL rI) zr)] [])(a1:Q)(a2)(a3)(v6)(r11)(a0)(y7)(v8)(r18)(r20)(hr18:BW a3=L r18)(hg19:(A4 r18.length ([v6]:O Q).length 8)=T)(hr20:rec_ a0 r11 a2 (r18++([v6]:O Q)) y7 v8=L r20):∀(f:V) (b0 b1:U) (b2 b5:U) (b8 b9:U),An Y J4 (FF a1 a2 a3 v6 r11 a0 y7 r18 r20) f [b0,b1,b2,T,T,b5,H,H,b8,b9,H] (BP a1 a2 a3 v6 r11 a0 y7 (vc (.own 3328)) (vc (.own 3328)) b0 b1 b2 T T b5 H H b8 b9 H [(99999999999,[.own 90000]),(6,[aL (X X8.row a0.Points),aL (X X1.row a0.Segments)]),(10,[aB y7.i0,aB y7.i1,aB y7.i2,aB y7.i3,aB y7.i4,aB y7.i5,aB y7.i6,aB y7.i7])] [(90000,1,X (rL rI) v8),(3328,1,X rI r18)]):=by
 intro f
 induction f with
 | zero=>intro b0 b1 b2 b5 b8 b9 h; simp at h
 | succ f ih=>
  intro b0 b1 b2 b5 b8 b9;refine Aw ⟨?_,?_,?_,?_,?_,?_,?_,?_,?_,?_,?_,⟨⟩⟩<;>try first | (intro h; cases h; done) | (intro _ hw; simp at hw; done) | (intro h0 hw; obtain rfl:=hz h0 rfl; refine np ?_; simp only[BP,A8,Aa,A3,B,C,E,F,G,J]; exact ih _ _ _ _ _ _)
  ·intro h0 hw;obtain rfl:=hq hw 5 rfl rfl;refine np ?_;try simp only[BP,A8,Aa,A3,B,C,E,F,G,J]
   refine As (es:=X rI ([v6]:O Q)) W (by simp only[St.fresh,zB,zC,Ak]; simp[AV.cells,V1.cells,AC.uses]) ?_;try simp only[A3,B,C,E,F,G,J]
   exact VW rec_ h_rec a1 a2 a3 v6 r11 a0 y7 v8 r18 r20 hr18 hg19 hr20 _ b0 b1 b2 b8 b9
theorem sU(rec_:X0→Q→Q→(O Q)→X4→(O (O Q))→P (O (O Q)))(h_rec:∀(a0:X0) (a1 a2:Q) (a3:O Q) (a4:X4) (a5:O (O Q)) zr,rec_ a0 a1 a2 a3 a4 a5=L zr→FCz Y 160 [.d (.ag (X0.row a0)),.d (.sc (.int .i64 a1)),.d (.sc (.int .i64 a2)),.d (.sc (.sl (X rI a3))),.d (.ag (X4.row a4)),.p] [.r 0] [(1,X (rL rI) a5)] [.r 0] [(1,X (rL rI) zr)] [])(a1:Q)(a2)(a3)(v6)(r11)(a0)(y7)(v8)(r18)(r20)(hr18:BW a3=L r18)(hg19:(A4 r18.length ([v6]:O Q).length 8)=T)(hr20:rec_ a0 r11 a2 (r18++([v6]:O Q)) y7 v8=L r20):∀(f:V) (b0 b1:U) (b2 b3:U) (b8 b9:U),An Y J4 (FF a1 a2 a3 v6 r11 a0 y7 r18 r20) f [b0,b1,b2,b3,H,T,T,H,b8,b9,H] (BP a1 a2 a3 v6 r11 a0 y7 (vc (.own 3328)) (vc (.own 3328)) b0 b1 b2 b3 H T T H b8 b9 H [(99999999999,[.own 90000]),(6,[aL (X X8.row a0.Points),aL (X X1.row a0.Segments)]),(10,[aB y7.i0,aB y7.i1,aB y7.i2,aB y7.i3,aB y7.i4,aB y7.i5,aB y7.i6,aB y7.i7])] [(90000,1,X (rL rI) v8),(3456,1,X rI ([v6]:O Q))]):=by
 intro f
 induction f with
 | zero=>intro b0 b1 b2 b3 b8 b9 h; simp at h
 | succ f ih=>
  intro b0 b1 b2 b3 b8 b9;refine Aw ⟨?_,?_,?_,?_,?_,?_,?_,?_,?_,?_,?_,⟨⟩⟩<;>try first | (intro h; cases h; done) | (intro _ hw; simp at hw; done) | (intro h0 hw; obtain rfl:=hz h0 rfl; refine np ?_; simp only[BP,A8,Aa,A3,B,C,E,F,G,J]; exact ih _ _ _ _ _ _)
  ·intro h0 hw;obtain rfl:=hq hw 3 rfl rfl;refine⟨[],[(N,.keep [1,2,3,5,6,10,12,14,30,31,32,48,49,50,51,52,53,54,55,56,57,58] [99999999999,6,10] [90000,3328,3456])],W,W,?_⟩;try simp only[BP,A8,Aa,zH,zG,A3,B,C,E,F,G,J]
   refine N0 (Ag Qa hr18) W (by simp only[St.fresh,zB,zC,Ak]; simp[AV.cells,V1.cells,AC.uses]) (uf W) ?_;try simp only[A3,B,C,E,F,G,J]
   exact VW rec_ h_rec a1 a2 a3 v6 r11 a0 y7 v8 r18 r20 hr18 hg19 hr20 _ b0 b1 b2 b8 b9
theorem sV(rec_:X0→Q→Q→(O Q)→X4→(O (O Q))→P (O (O Q)))(h_rec:∀(a0:X0) (a1 a2:Q) (a3:O Q) (a4:X4) (a5:O (O Q)) zr,rec_ a0 a1 a2 a3 a4 a5=L zr→FCz Y 160 [.d (.ag (X0.row a0)),.d (.sc (.int .i64 a1)),.d (.sc (.int .i64 a2)),.d (.sc (.sl (X rI a3))),.d (.ag (X4.row a4)),.p] [.r 0] [(1,X (rL rI) a5)] [.r 0] [(1,X (rL rI) zr)] [])(a1:Q)(a2)(a3)(v6)(r11)(a0)(y7)(v8)(r18)(r20)(hr18:BW a3=L r18)(hg19:(A4 r18.length ([v6]:O Q).length 8)=T)(hr20:rec_ a0 r11 a2 (r18++([v6]:O Q)) y7 v8=L r20):∀(f:V) (b0 b1:U) (b2 b3:U) (b5 b8 b9:U),An Y J4 (FF a1 a2 a3 v6 r11 a0 y7 r18 r20) f [b0,b1,b2,b3,H,b5,H,H,b8,b9,H] (BP a1 a2 a3 v6 r11 a0 y7 (vc (.own 3328)) (vc (.own 3328)) b0 b1 b2 b3 H b5 H H b8 b9 H [(99999999999,[.own 90000]),(6,[aL (X X8.row a0.Points),aL (X X1.row a0.Segments)]),(10,[aB y7.i0,aB y7.i1,aB y7.i2,aB y7.i3,aB y7.i4,aB y7.i5,aB y7.i6,aB y7.i7])] [(90000,1,X (rL rI) v8)]):=by
 intro f
 induction f with
 | zero=>intro b0 b1 b2 b3 b5 b8 b9 h; simp at h
 | succ f ih=>
  intro b0 b1 b2 b3 b5 b8 b9;refine Aw ⟨?_,?_,?_,?_,?_,?_,?_,?_,?_,?_,?_,⟨⟩⟩<;>try first | (intro _ hw; simp at hw; done) | (intro h0 hw; obtain rfl:=hz h0 rfl; refine np ?_; simp only[BP,A8,Aa,A3,B,C,E,F,G,J]; exact ih _ _ _ _ _ _ _)
  ·intro h0 hw;obtain rfl:=hq hw 3 rfl rfl;refine np ?_;try simp only[BP,A8,Aa,A3,B,C,E,F,G,J]
   refine N0 (Ag Qa hr18) W (by simp only[St.fresh,zB,zC,Ak]; simp[AV.cells,V1.cells,AC.uses]) (uf W) ?_;try simp only[A3,B,C,E,F,G,J]
   exact sT rec_ h_rec a1 a2 a3 v6 r11 a0 y7 v8 r18 r20 hr18 hg19 hr20 _ b0 b1 b2 b5 b8 b9
  ·intro h0 hw;obtain rfl:=hq hw 5 rfl rfl;refine np ?_;try simp only[BP,A8,Aa,A3,B,C,E,F,G,J]
   refine As (es:=X rI ([v6]:O Q)) W (by simp only[St.fresh,zB,zC,Ak]; simp[AV.cells,V1.cells,AC.uses]) ?_;try simp only[A3,B,C,E,F,G,J]
   exact sU rec_ h_rec a1 a2 a3 v6 r11 a0 y7 v8 r18 r20 hr18 hg19 hr20 _ b0 b1 b2 b3 b8 b9
def WN:=fun a1 a2 a3 v6 r11 (a0:X0) (y7:X4) v8 (k_:U→P (O (O Q)))=>∀{v16} {zr},k_ v16=L zr→Kh Y 160 N6 30 [1,2,3,5,6,10,12,14,30,31,32,47] [99999999999,6,10] [90000] ⟨[pI 1 a1,pI 2 a2,pL 3 rI a3,(5,vc (.pb 99999999999 0)),pB 6,pB 10,pI 12 v6,pI 14 r11,pL 30 X1.row a0.Segments,pI 31 (a0.Segments.length:Q),pI 32 v6,(47,vc (aB v16))],[(99999999999,[.own 90000]),(6,[aM X8.row a0.Points,aM X1.row a0.Segments]),(10,[aB y7.i0,aB y7.i1,aB y7.i2,aB y7.i3,aB y7.i4,aB y7.i5,aB y7.i6,aB y7.i7])],[(90000,1,X (rL rI) v8)]⟩ (M2 [] [] [.r 0] [(1,X (rL rI) zr)])
def QC:=fun a1 a2 a3 (a0:X0) (y7:X4) (k_:Q→(O (O Q))→P (O (O Q)))=>∀{v6 v8} {zr},k_ v6 v8=L zr→Kh Y 160 N6 15 [1,2,3,5,6,10,30,31,32] [99999999999,6,10] [90000] ⟨[pI 1 a1,pI 2 a2,pL 3 rI a3,(5,vc (.pb 99999999999 0)),pB 6,pB 10,pL 30 X1.row a0.Segments,pI 31 (a0.Segments.length:Q),pI 32 v6],[(99999999999,[.own 90000]),(6,[aM X8.row a0.Points,aM X1.row a0.Segments]),(10,[aB y7.i0,aB y7.i1,aB y7.i2,aB y7.i3,aB y7.i4,aB y7.i5,aB y7.i6,aB y7.i7])],[(90000,1,X (rL rI) v8)]⟩ (M2 [] [] [.r 0] [(1,X (rL rI) zr)])
theorem VX{rec_:X0→Q→Q→(O Q)→X4→(O (O Q))→P (O (O Q))}(h_rec:∀(a0:X0) (a1 a2:Q) (a3:O Q) (a4:X4) (a5:O (O Q)) zr,rec_ a0 a1 a2 a3 a4 a5=L zr→FCz Y 160 [.d (.ag (X0.row a0)),.d (.sc (.int .i64 a1)),.d (.sc (.int .i64 a2)),.d (.sc (.sl (X rI a3))),.d (.ag (X4.row a4)),.p] [.r 0] [(1,X (rL rI) a5)] [.r 0] [(1,X (rL rI) zr)] []){a1 a2 a3 v6 r11 a0 y7 v8}{Lc}(T9:QC a1 a2 a3 a0 y7 Lc):WN a1 a2 a3 v6 r11 a0 y7 v8 (FX rec_ a1 a2 a3 v6 r11 a0 y7 v8 Lc):=by
 intro v16 r h σ hσ S hS;refine ev hS ?_;refine AJ ?_;unfold FX at h;obtain⟨h17,h⟩|⟨h17,h⟩:=ic h
 ·try simp only[hσ,h17,B,C,E,F,G,J]
  obtain⟨r18,h18,h⟩:=ob h;obtain⟨h19,h⟩:=Bv h;obtain⟨r20,h20,h⟩:=ob h;refine L6 (ks:= [1,2,3,5,6,10,12,14,30,31,32]) (bs:= [99999999999,6,10]) (rs:= [90000]) (τ:=(FF a1 a2 a3 v6 r11 a0 y7 r18 r20)) W (sV rec_ h_rec a1 a2 a3 v6 r11 a0 y7 v8 r18 r20 h18 h19 h20 _ H H H H H H H) ?_;simp only[FF,BP,A8];try simp only[h17,h19,B,C,E,F,G,J]
  refine T9 h ?_ (by kernel_rfl);try simp only[h17,h19,B,C,E,F,G,J,pL,aM,Z]
 ·try simp only[hσ,h17,B,C,E,F,G,J]
  refine T9 h ?_ (by kernel_rfl);try simp only[h17,B,C,E,F,G,J,pL,aM,Z]
theorem sW{rec_:X0→Q→Q→(O Q)→X4→(O (O Q))→P (O (O Q))}(h_rec:∀(a0:X0) (a1 a2:Q) (a3:O Q) (a4:X4) (a5:O (O Q)) zr,rec_ a0 a1 a2 a3 a4 a5=L zr→FCz Y 160 [.d (.ag (X0.row a0)),.d (.sc (.int .i64 a1)),.d (.sc (.int .i64 a2)),.d (.sc (.sl (X rI a3))),.d (.ag (X4.row a4)),.p] [.r 0] [(1,X (rL rI) a5)] [.r 0] [(1,X (rL rI) zr)] []){a1 a2 a3 a0 y7}{n:V}:QC a1 a2 a3 a0 y7 (EN rec_ a1 a2 a3 a0 y7 n):=by
 induction n with
 | zero=>intro _ _ r h; cases h
 | succ n ih=>
  intro v6 v8 r h σ hσ S hS;refine ev hS ?_;rw[EN] at h;refine AR (AJ ?_);obtain⟨h9,h⟩|⟨h9,h⟩:=ic h
  ·obtain⟨x10,h10,h⟩:=ob h;try simp only[hσ,h9,h10,B,C,E,F,G,J]
   refine BS ?_;obtain⟨r11,h11,h⟩:=ob h;try simp only[h9,h10,B,C,E,F,G,J]
   refine B4 (Ag VG h11) ?_;obtain⟨h12,h⟩|⟨h12,h⟩:=ic h
   ·obtain⟨h13,h⟩:=Bv h;try simp only[h9,h10,h12,B,C,E,F,G,J]
    refine L5 W W h13 ?_;obtain⟨x14,h14,h⟩:=ob h;have h14n:=Ay h14;have hA15:([aB y7.i0,aB y7.i1,aB y7.i2,aB y7.i3,aB y7.i4,aB y7.i5,aB y7.i6,aB y7.i7]:O AC)[I r11]?=L (aB x14):=QZ h14n;try simp only[h9,h10,h12,hA15,B,C,E,F,G,J]
    refine VX h_rec ih h ?_ (by kernel_rfl);try simp only[h9,h10,h12,hA15,B,C,E,F,G,J,pL,aM,Z]
   ·try simp only[h9,h10,h12,B,C,E,F,G,J]
    refine VX h_rec ih h ?_ (by kernel_rfl);try simp only[h9,h10,h12,B,C,E,F,G,J,pL,aM,Z]
  ·try simp only[hσ,h9,B,C,E,F,G,J]
   cases h;exact⟨trivial,[90000],by decide,by decide,W,W⟩
theorem cf:AB Y 160=L ((By Y 160 N6).strip,[],60):=by kernel_rfl
theorem qP(rec_:X0→Q→Q→(O Q)→X4→(O (O Q))→P (O (O Q)))(a0:X0)(a1 a2:Q)(a3:O Q)(a4:X4)(a5:O (O Q))(r:(O (O Q)))(h_rec:∀(a0:X0) (a1 a2:Q) (a3:O Q) (a4:X4) (a5:O (O Q)) zr,rec_ a0 a1 a2 a3 a4 a5=L zr→FCz Y 160 [.d (.ag (X0.row a0)),.d (.sc (.int .i64 a1)),.d (.sc (.int .i64 a2)),.d (.sc (.sl (X rI a3))),.d (.ag (X4.row a4)),.p] [.r 0] [(1,X (rL rI) a5)] [.r 0] [(1,X (rL rI) zr)] [])(h:Mi rec_ a0 a1 a2 a3 a4 a5=L r):FCz Y 160 [.d (.ag (X0.row a0)),.d (.sc (.int .i64 a1)),.d (.sc (.int .i64 a2)),.d (.sc (.sl (X rI a3))),.d (.ag (X4.row a4)),.p] [.r 0] [(1,X (rL rI) a5)] [.r 0] [(1,X (rL rI) r)] []:=by
 unfold Mi at h;refine WE (σ:=⟨[(0,va [aL (X X8.row a0.Points),aL (X X1.row a0.Segments)]),(1,vc (aI a1)),(2,vc (aI a2)),(3,vc (aL (X rI a3))),(4,va [aB a4.i0,aB a4.i1,aB a4.i2,aB a4.i3,aB a4.i4,aB a4.i5,aB a4.i6,aB a4.i7]),(5,vc (.pb 99999999999 0))],[(99999999999,[.own 90000])],[(90000,1,X (rL rI) a5)]⟩) A2 cf W W W W ?_;refine BE N6 ?_;intro S hS;refine ev hS ?_;try simp only[B,C,E,F,G,J]
 refine Bd ?_;try simp only[B,C,E,F,G,J]
 refine Bd ?_;obtain⟨h1,h⟩|⟨h1,h⟩:=ic h
 ·try simp only[h1,B,C,E,F,G,J]
  obtain⟨r2,h2,h⟩:=ob h;obtain⟨h3,h⟩:=Bv h;refine L6 (ks:= [3,5]) (bs:= [99999999999]) (rs:= [90000]) (τ:=(Hn a3 a5 r2)) W (sQ rec_ h_rec a3 a5 r2 h2 h3 _ H H H H H) ?_;simp only[Hn,Cm,A8];try simp only[h1,h3,B,C,E,F,G,J]
  cases h;exact⟨trivial,[90000],by decide,by decide,W,W⟩
 ·obtain⟨h4,h⟩:=Bv h;try simp only[h1,B,C,E,F,G,J]
  refine L5 W W h4 ?_;have hA5:Bx [aB a4.i0,aB a4.i1,aB a4.i2,aB a4.i3,aB a4.i4,aB a4.i5,aB a4.i6,aB a4.i7] (I a1) [aB T]= [aB ((X4.set a4 (I a1) T)).i0,aB ((X4.set a4 (I a1) T)).i1,aB ((X4.set a4 (I a1) T)).i2,aB ((X4.set a4 (I a1) T)).i3,aB ((X4.set a4 (I a1) T)).i4,aB ((X4.set a4 (I a1) T)).i5,aB ((X4.set a4 (I a1) T)).i6,aB ((X4.set a4 (I a1) T)).i7]:=X4.set_eq a4 (DN h4);have hA5g:BJ [aB a4.i0,aB a4.i1,aB a4.i2,aB a4.i3,aB a4.i4,aB a4.i5,aB a4.i6,aB a4.i7] (I a1+1)=T:=Oh (DN h4);have hA5h:BJ [aB a4.i1,aB a4.i2,aB a4.i3,aB a4.i4,aB a4.i5,aB a4.i6,aB a4.i7] (I a1)=T:=Oi (c:=aB a4.i0) (DN h4);try simp only[h1,hA5,hA5g,hA5h,B,C,E,F,G,J]
  refine sW h_rec h ?_ (by kernel_rfl);try simp only[h1,hA5,hA5g,hA5h,B,C,E,F,G,J,pL,aM,Z]
theorem qQ:∀(n:V) (a0:X0) (a1:Q) (a2:Q) (a3:O Q) (a4:X4) (a5:O (O Q)) (r:(O (O Q))),EO n a0 a1 a2 a3 a4 a5=L r→FCz Y 160 [.d (.ag (X0.row a0)),.d (.sc (.int .i64 a1)),.d (.sc (.int .i64 a2)),.d (.sc (.sl (X rI a3))),.d (.ag (X4.row a4)),.p] [.r 0] [(1,X (rL rI) a5)] [.r 0] [(1,X (rL rI) r)] []:=by
 intro n
 induction n with
 | zero=>intro _ _ _ _ _ _ r h; cases h
 | succ n ih=>intro a0 a1 a2 a3 a4 a5 r h; rw[EO] at h; exact qP (EO n) a0 a1 a2 a3 a4 a5 r ih h
theorem qO{a0}{a1}{a2}{a3}{a4}{a5}{r}(h:OF a0 a1 a2 a3 a4 a5=L r):FCz Y 160 [.d (.ag (X0.row a0)),.d (.sc (.int .i64 a1)),.d (.sc (.int .i64 a2)),.d (.sc (.sl (X rI a3))),.d (.ag (X4.row a4)),.p] [.r 0] [(1,X (rL rI) a5)] [.r 0] [(1,X (rL rI) r)] []:=qQ bigN a0 a1 a2 a3 a4 a5 r h
instance qU:Ct 128 (∀{a0} {a1} {a2} {r},JG a0 a1 a2=L r→FC Y 128 [.ag (X0.row a0),.sc (.int .i64 a1),.sc (.int .i64 a2)] [.sc (.o 1 (X (rL rI) r))]):=by
 refine⟨fun{a0} {a1} {a2} {r} h=> ?_⟩;unfold JG at h;refine A5 A2 h0 [6] 34 ?_;intro S hS;refine ev hS ?_;simp only[B,C,E,F,G,J];try simp only[B,C,E,F,G,J]
 refine Bd ?_;obtain⟨r1,hr1,h⟩:=ob h;try simp only[B,C,E,F,G,J]
 refine B4 (Ag qN hr1) ?_;obtain⟨hb2,h⟩|⟨hb2,h⟩:=ic h
 ·obtain⟨r3,hr3,h⟩:=ob h;try simp only[hb2,B,C,E,F,G,J]
  refine B4 (Ag NV hr3) ?_;obtain⟨hb4,h⟩|⟨hb4,h⟩:=ic h
  ·obtain⟨r5,hr5,h⟩:=ob h;try simp only[hb2,hb4,B,C,E,F,G,J]
   refine B4 (Ag NV hr5) ?_;obtain⟨hb6,h⟩|⟨hb6,h⟩:=ic h
   ·try simp only[hb2,hb4,hb6,B,C,E,F,G,J]
    refine Bz (es:=X (rL rI) ([]:O (O Q))) ?_;try simp only[hb2,hb4,hb6,B,C,E,F,G,J]
    refine BS ?_;try simp only[hb2,hb4,hb6,B,C,E,F,G,J]
    refine fI ?_;obtain⟨r7,hr7,h⟩:=ob h;try simp only[hb2,hb4,hb6,B,C,E,F,G,J]
    refine RY (qO hr7) 7 [1728] rfl W W W (by decide) W W W ?_;try simp only[hb2,hb4,hb6,B,C,E,F,G,J]
    cases h;exact t0
   ·try simp only[hb2,hb4,hb6,B,C,E,F,G,J]
    cases h;exact t0
  ·try simp only[hb2,hb4,B,C,E,F,G,J]
   cases h;exact t0
 ·try simp only[hb2,B,C,E,F,G,J]
  cases h;exact t0
def Sr:Hw:=([(16,[2,5,11,12,13],[2],[])],[])
def Xo:=fun a1 (a0:X0) (k_:Q→Q→P Q)=>∀{v3 v4} {zr},k_ v3 v4=L zr→Kh Y 129 Sr 16 [2,5,11,12,13] [2] [] ⟨[pB 2,pI 5 v3,pL 11 rI a1,pI 12 (a1.length:Q),pI 13 v4],[(2,[aM X8.row a0.Points,aM X1.row a0.Segments])],[]⟩ (Ac [4] [.sc (.v (.int .i64 zr))])
theorem sX{a1 a0}{n:V}:Xo a1 a0 (G5 a1 a0 n):=by
 induction n with
 | zero=>intro _ _ r h; cases h
 | succ n ih=>
  intro v3 v4 r h σ hσ;rw[G5] at h;exact gc
instance VE:Ct 129 (∀{a0} {a1} {r},ET a0 a1=L r→FC Y 129 [.ag (X0.row a0),.sc (.sl (X rI a1))] [.sc (.v (.int .i64 r))]):=by
 refine⟨fun h=> ?_⟩;unfold ET at h;refine A5 A2 Sr [4] 33 ?_;have k0:= @sX;exact gc
def Ss:Hw:=([(18,[3,9,22,23,24],[3],[960])],[])
def WJ:=fun r1 (a0:X0) (k_:(O Q)→Q→P ((O Q) × U))=>∀{v4 v5} {zr},k_ v4 v5=L zr→Kh Y 77 Ss 18 [3,9,22,23,24] [3] [960] ⟨[pB 3,pL 9 rI v4,pW 22 960,pI 23 (r1.length:Q),pI 24 v5],[(3,[aM X8.row a0.Points,aM X1.row a0.Segments])],[(960,1,X (rL rI) r1)]⟩ (Ac [6,7] [.sc (.v (.sl (X rI zr.1))),.sc (.v (.bool zr.2))])
theorem sY{r1 a0}{n:V}:WJ r1 a0 (DP r1 a0 n):=by
 induction n with
 | zero=>intro _ _ r h; cases h
 | succ n ih=>
  intro v4 v5 r h σ hσ S hS;refine ev hS ?_;rw[DP] at h;refine AR (AJ ?_);obtain⟨h6,h⟩|⟨h6,h⟩:=ic h
  ·obtain⟨x7,h7,h⟩:=ob h;have h7n:=Ay h7;try simp only[hσ,h6,h7,h7n,B,C,E,F,G,J]
   refine Ap ?_;obtain⟨r9,h9,h⟩:=ob h;try simp only[h6,h7,h7n,B,C,E,F,G,J]
   refine D4 (Ag VE h9) ?_;obtain⟨r10,h10,h⟩:=ob h;try simp only[h6,h7,h7n,B,C,E,F,G,J]
   refine B4 (Ag VE h10) ?_;try simp only[h6,h7,h7n,B,C,E,F,G,J]
   refine Ap ?_;obtain⟨h11,h⟩|⟨h11,h⟩:=ic h
   ·try simp only[h6,h7,h7n,h11,B,C,E,F,G,J]
    refine ih h ?_ (by kernel_rfl);try simp only[h6,h7,h7n,h11,B,C,E,F,G,J,pL,aM,Z]
   ·try simp only[h6,h7,h7n,h11,B,C,E,F,G,J]
    refine ih h ?_ (by kernel_rfl);try simp only[h6,h7,h7n,h11,B,C,E,F,G,J,pL,aM,Z]
  ·try simp only[hσ,h6,B,C,E,F,G,J]
   cases h;trivial
instance qM:Ct 77 (∀{a0} {a1} {a2} {r},Jp a0 a1 a2=L r→FC Y 77 [.ag (X0.row a0),.sc (.int .i64 a1),.sc (.int .i64 a2)] [.sc (.v (.sl (X rI r.1))),.sc (.v (.bool r.2))]):=by
 refine⟨fun{a0} {a1} {a2} {r} h=> ?_⟩;unfold Jp at h;refine A5 A2 Ss [6,7] 38 ?_;intro S hS;refine ev hS ?_;simp only[B,C,E,F,G,J];try simp only[B,C,E,F,G,J]
 refine Bd ?_;obtain⟨r1,h1,h⟩:=ob h;try simp only[B,C,E,F,G,J]
 refine B4 (Ag qU h1) ?_;obtain⟨h2,h⟩|⟨h2,h⟩:=ic h
 ·try simp only[h2,B,C,E,F,G,J]
  cases h;trivial
 ·obtain⟨x3,h3,h⟩:=ob h;have h3n:=Ay h3;try simp only[h2,h3,h3n,B,C,E,F,G,J]
  refine sY h ?_ (by kernel_rfl);try simp only[h2,h3,h3n,B,C,E,F,G,J,pL,aM,Z]
def OT:Hw:=([(20,[1,3,8,9,22,23,24],[3,8],[1344]),(44,[1,3,8,9,22,23,24,47],[3,8],[1344])],[])
def WM:=fun r14 a2 v6 (a0:X0) (v7:X4) v8 (k_:U→P ((O Q) × U))=>∀{v19} {zr},k_ v19=L zr→Kh Y 161 OT 44 [1,3,8,9,22,23,24,47] [3,8] [1344] ⟨[pI 1 r14,pB 3,pB 8,pW 9 1344,pL 22 rI a2,pI 23 (a2.length:Q),pI 24 v6,(47,vc (aB v19))],[(3,[aM X8.row a0.Points,aM X1.row a0.Segments]),(8,[aB v7.i0,aB v7.i1,aB v7.i2,aB v7.i3,aB v7.i4,aB v7.i5,aB v7.i6,aB v7.i7])],[(1344,1,X rI v8)]⟩ (Ac [6,7] [.sc (.o 1 (X rI zr.1)),.sc (.v (.bool zr.2))])
def QB:=fun a2 (a0:X0) (k_:Q→Q→X4→(O Q)→P ((O Q) × U))=>∀{v5 v6 v7 v8} {zr},k_ v5 v6 v7 v8=L zr→Kh Y 161 OT 20 [1,3,8,9,22,23,24] [3,8] [1344] ⟨[pI 1 v5,pB 3,pB 8,pW 9 1344,pL 22 rI a2,pI 23 (a2.length:Q),pI 24 v6],[(3,[aM X8.row a0.Points,aM X1.row a0.Segments]),(8,[aB v7.i0,aB v7.i1,aB v7.i2,aB v7.i3,aB v7.i4,aB v7.i5,aB v7.i6,aB v7.i7])],[(1344,1,X rI v8)]⟩ (Ac [6,7] [.sc (.o 1 (X rI zr.1)),.sc (.v (.bool zr.2))])
theorem VY{r14 a2 v6 a0 v7 v8}{Nk}(gk:QB a2 a0 Nk):WM r14 a2 v6 a0 v7 v8 (FW r14 a2 v6 a0 v7 v8 Nk):=by
 intro v19 r h σ hσ S hS;refine ev hS ?_;refine AJ ?_;unfold FW at h;obtain⟨h20,h⟩|⟨h20,h⟩:=ic h
 ·try simp only[hσ,h20,B,C,E,F,G,J]
  cases h;trivial
 ·obtain⟨h21,h⟩:=Bv h;try simp only[hσ,h20,B,C,E,F,G,J]
  refine L5 W W h21 ?_;have hA22:Bx [aB v7.i0,aB v7.i1,aB v7.i2,aB v7.i3,aB v7.i4,aB v7.i5,aB v7.i6,aB v7.i7] (I r14) [aB T]= [aB ((X4.set v7 (I r14) T)).i0,aB ((X4.set v7 (I r14) T)).i1,aB ((X4.set v7 (I r14) T)).i2,aB ((X4.set v7 (I r14) T)).i3,aB ((X4.set v7 (I r14) T)).i4,aB ((X4.set v7 (I r14) T)).i5,aB ((X4.set v7 (I r14) T)).i6,aB ((X4.set v7 (I r14) T)).i7]:=X4.set_eq v7 (DN h21);have hA22g:BJ [aB v7.i0,aB v7.i1,aB v7.i2,aB v7.i3,aB v7.i4,aB v7.i5,aB v7.i6,aB v7.i7] (I r14+1)=T:=Oh (DN h21);have hA22h:BJ [aB v7.i1,aB v7.i2,aB v7.i3,aB v7.i4,aB v7.i5,aB v7.i6,aB v7.i7] (I r14)=T:=Oi (c:=aB v7.i0) (DN h21);try simp only[h20,hA22,hA22g,hA22h,B,C,E,F,G,J]
  refine Bz (es:=X rI ([r14]:O Q)) ?_;obtain⟨h23,h⟩:=Bv h;try simp only[h20,hA22,hA22g,hA22h,h23,B,C,E,F,G,J]
  refine gk h ?_ (by kernel_rfl);try simp only[h20,hA22,hA22g,hA22h,h23,B,C,E,F,G,J,pL,aM,Z]
theorem sa{a2 a0}{n:V}:QB a2 a0 (EM a2 a0 n):=by
 induction n with
 | zero=>intro _ _ _ _ r h; cases h
 | succ n ih=>
  intro v5 v6 v7 v8 r h σ hσ S hS;refine ev hS ?_;rw[EM] at h;refine AR (AJ ?_);obtain⟨h9,h⟩|⟨h9,h⟩:=ic h
  ·obtain⟨x10,h10,h⟩:=ob h;obtain⟨r11,h11,h⟩:=ob h;try simp only[hσ,h9,h10,B,C,E,F,G,J]
   refine B4 (Ag NV h11) ?_;obtain⟨h12,h⟩|⟨h12,h⟩:=ic h
   ·obtain⟨x13,h13,h⟩:=ob h;obtain⟨r14,h14,h⟩:=ob h;try simp only[h9,h10,h12,h13,B,C,E,F,G,J]
    refine B4 (Ag VG h14) ?_;obtain⟨h15,h⟩|⟨h15,h⟩:=ic h
    ·try simp only[h9,h10,h12,h13,h15,B,C,E,F,G,J]
     refine VY ih h ?_ (by kernel_rfl);try simp only[h9,h10,h12,h13,h15,B,C,E,F,G,J,pL,aM,Z]
    ·obtain⟨h16,h⟩:=Bv h;try simp only[h9,h10,h12,h13,h15,B,C,E,F,G,J]
     refine L5 W W h16 ?_;obtain⟨x17,h17,h⟩:=ob h;have h17n:=Ay h17;have hA18:([aB v7.i0,aB v7.i1,aB v7.i2,aB v7.i3,aB v7.i4,aB v7.i5,aB v7.i6,aB v7.i7]:O AC)[I r14]?=L (aB x17):=QZ h17n;try simp only[h9,h10,h12,h13,h15,hA18,B,C,E,F,G,J]
     refine VY ih h ?_ (by kernel_rfl);try simp only[h9,h10,h12,h13,h15,hA18,B,C,E,F,G,J,pL,aM,Z]
   ·try simp only[h9,h10,h12,B,C,E,F,G,J]
    cases h;trivial
  ·try simp only[hσ,h9,B,C,E,F,G,J]
   cases h;trivial
instance vW:Ct 161 (∀{a0} {a1} {a2} {r},FV a0 a1 a2=L r→FC Y 161 [.ag (X0.row a0),.sc (.int .i64 a1),.sc (.sl (X rI a2))] [.sc (.o 1 (X rI r.1)),.sc (.v (.bool r.2))]):=by
 refine⟨fun{a0} {a1} {a2} {r} h=> ?_⟩;unfold FV at h;refine A5 A2 OT [6,7] 56 ?_;intro S hS;refine ev hS ?_;simp only[B,C,E,F,G,J];try simp only[B,C,E,F,G,J]
 refine Bd ?_;obtain⟨r1,h1,h⟩:=ob h;try simp only[B,C,E,F,G,J]
 refine B4 (Ag NV h1) ?_;obtain⟨h2,h⟩|⟨h2,h⟩:=ic h
 ·try simp only[h2,B,C,E,F,G,J]
  refine BS ?_;obtain⟨h3,h⟩:=Bv h;try simp only[h2,B,C,E,F,G,J]
  refine L5 W W h3 ?_;have hA4:Bx [aB H,aB H,aB H,aB H,aB H,aB H,aB H,aB H] (I a1) [aB T]= [aB ((X4.set (⟨H,H,H,H,H,H,H,H⟩:X4) (I a1) T)).i0,aB ((X4.set (⟨H,H,H,H,H,H,H,H⟩:X4) (I a1) T)).i1,aB ((X4.set (⟨H,H,H,H,H,H,H,H⟩:X4) (I a1) T)).i2,aB ((X4.set (⟨H,H,H,H,H,H,H,H⟩:X4) (I a1) T)).i3,aB ((X4.set (⟨H,H,H,H,H,H,H,H⟩:X4) (I a1) T)).i4,aB ((X4.set (⟨H,H,H,H,H,H,H,H⟩:X4) (I a1) T)).i5,aB ((X4.set (⟨H,H,H,H,H,H,H,H⟩:X4) (I a1) T)).i6,aB ((X4.set (⟨H,H,H,H,H,H,H,H⟩:X4) (I a1) T)).i7]:=X4.set_eq (⟨H,H,H,H,H,H,H,H⟩:X4) (DN h3);have hA4g:BJ [aB H,aB H,aB H,aB H,aB H,aB H,aB H,aB H] (I a1+1)=T:=Oh (DN h3);have hA4h:BJ [aB H,aB H,aB H,aB H,aB H,aB H,aB H] (I a1)=T:=Oi (c:=aB H) (DN h3);try simp only[h2,hA4,hA4g,hA4h,B,C,E,F,G,J]
  refine Bz (es:=X rI ([a1]:O Q)) ?_;try simp only[h2,hA4,hA4g,hA4h,B,C,E,F,G,J]
  refine sa h ?_ (by kernel_rfl);try simp only[h2,hA4,hA4g,hA4h,B,C,E,F,G,J,pL,aM,Z]
 ·try simp only[h2,B,C,E,F,G,J]
  cases h;trivial
instance VF:Ct 130 (∀{a0} {a1} {a2} {r},D6 a0 a1 a2=L r→FC Y 130 [.ag (X0.row a0),.sc (.int .i64 a1),.sc (.sl (X rI a2))] [.sc (.o 1 (X rI r))]):=by
 refine⟨fun h=> ?_⟩;unfold D6 at h;refine A5 A2 h0 [6] 20 ?_;exact gc
instance vr:Ct 162 (∀{a0} {a1} {a2} {r},DR a0 a1 a2=L r→FC Y 162 [.ag (X0.row a0),.sc (.int .i64 a1),.sc (.sl (X rI a2))] [.sc (.v (.bool r))]):=by
 refine⟨fun h=> ?_⟩;unfold DR at h;refine A5 A2 h0 [6] 20 ?_;exact gc
instance VH:Ct 163 (∀{a0} {a1} {r},EU a0 a1=L r→FC Y 163 [.ag (X6.row a0),.ag (X1.row a1)] [.sc (.v (.int .i64 r))]):=by
 refine⟨fun h=> ?_⟩;unfold EU at h;refine A5 A2 h0 [4] 12 ?_;exact gc
instance wL:Ct 178 (∀{a0} {a1} {a2} {r},Gb a0 a1 a2=L r→FC Y 178 [.ag (X0.row a0),.sc (.int .i64 a1),.ag (X6.row a2)] [.sc (.v (.bool r))]):=by
 refine⟨fun h=> ?_⟩;unfold Gb at h;refine A5 A2 h0 [6] 20 ?_;exact gc
instance wA:Ct 197 (∀{a0} {r},Mn a0=L r→FC Y 197 [.ag (X6.row a0)] [.sc (.v (.int .i64 r))]):=by
 refine⟨fun h=> ?_⟩;unfold Mn at h;refine A5 A2 h0 [2] 11 ?_;exact gc
instance vz:Ct 192 (∀{a0} {r},Mm a0=L r→FC Y 192 [.ag (X6.row a0)] [.sc (.v (.int .i64 r))]):=by
 refine⟨fun h=> ?_⟩;unfold Mm at h;refine A5 A2 h0 [2] 9 ?_;exact gc
instance vh:Ct 181 (∀{a0} {a1} {a2} {r},Jz a0 a1 a2=L r→FC Y 181 [.ag (X0.row a0),.sc (.int .i64 a1),.ag (X6.row a2)] [.sc (.v (.int .i64 r))]):=by
 refine⟨fun h=> ?_⟩;unfold Jz at h;refine A5 A2 h0 [6] 21 ?_;exact gc
def N7:Hw:=([(10,[0,3,4,5],[],[384]),(35,[0,3,4,5],[],[384]),(36,[0,3,4,5],[],[384])],[])
def XB:=fun F_a0 caps_a0 v2 (k_:U→(O X2)→P (O X2))=>∀{v11 v12} {zr},k_ v11 v12=L zr→Kh Y 189 N7 36 [0,3,4,5] [] [384] ⟨[(0,vc (.dat (.clo F_a0 caps_a0))),pW 3 384,(4,vc (aB v11)),pI 5 v2],[],[(384,2,X X2.row v12)]⟩ (Ac [2] [.sc (.o 2 (X X2.row zr))])
def XA:=fun F_a0 caps_a0 v2 (k_:(O X2)→P (O X2))=>∀{v9} {zr},k_ v9=L zr→Kh Y 189 N7 35 [0,3,4,5] [] [384] ⟨[(0,vc (.dat (.clo F_a0 caps_a0))),pW 3 384,(4,vc (aB T)),pI 5 v2],[],[(384,2,X X2.row v9)]⟩ (Ac [2] [.sc (.o 2 (X X2.row zr))])
def O2:=fun F_a0 caps_a0 (k_:U→Q→(O X2)→P (O X2))=>∀{v1 v2 v3} {zr},k_ v1 v2 v3=L zr→Kh Y 189 N7 10 [0,3,4,5] [] [384] ⟨[(0,vc (.dat (.clo F_a0 caps_a0))),pW 3 384,(4,vc (aB v1)),pI 5 v2],[],[(384,2,X X2.row v3)]⟩ (Ac [2] [.sc (.o 2 (X X2.row zr))])
theorem VZ{a0:Q→P U}{F_a0 caps_a0}(hF_a0:Bi Y F_a0=T)(h_a0:∀z0 zr,a0 z0=L zr→FC Y F_a0 ([.sc (.int .i64 z0)]++caps_a0.map .sc) [.sc (.v (.bool zr))]){v2}{Ei}(Tb:O2 F_a0 caps_a0 Ei):XB F_a0 caps_a0 v2 (Gh a0 v2 Ei):=by
 intro v11 v12 r h σ hσ;unfold Gh at h;have k0:= @Tb;exact gc
theorem W0{a0:Q→P U}{F_a0 caps_a0}(hF_a0:Bi Y F_a0=T)(h_a0:∀z0 zr,a0 z0=L zr→FC Y F_a0 ([.sc (.int .i64 z0)]++caps_a0.map .sc) [.sc (.v (.bool zr))]){v2}{Ei}(Tb:O2 F_a0 caps_a0 Ei):XA F_a0 caps_a0 v2 (HZ a0 v2 Ei):=by
 intro v9 r h σ hσ;unfold HZ at h;have s0:=fun(x10:X2)=> @Ex _ X2.row ((⟨x10.From,v2⟩:X2))
 have k0:= @VZ;exact gc
theorem sb{a0:Q→P U}{F_a0 caps_a0}(hF_a0:Bi Y F_a0=T)(h_a0:∀z0 zr,a0 z0=L zr→FC Y F_a0 ([.sc (.int .i64 z0)]++caps_a0.map .sc) [.sc (.v (.bool zr))]){n:V}:O2 F_a0 caps_a0 (DU a0 n):=by
 induction n with
 | zero=>intro _ _ _ r h; cases h
 | succ n ih=>
  intro v1 v2 v3 r h σ hσ S hS;refine ev hS ?_;rw[DU] at h;refine AR (AJ ?_);obtain⟨h4,h⟩|⟨h4,h⟩:=ic h
  ·obtain⟨r5,h5,h⟩:=ob h;try simp only[hσ,h4,B,C,E,F,G,J]
   refine L7 (h_a0 _ _ h5) hF_a0 W W (Bg W) W (uf W) ?_;obtain⟨h6,h⟩|⟨h6,h⟩:=ic h
   ·obtain⟨h7,h⟩|⟨h7,h⟩:=ic h
    ·try simp only[h4,h6,h7,B,C,E,F,G,J]
     refine W0 hF_a0 h_a0 ih h ?_ (by kernel_rfl);try simp only[h4,h6,h7,B,C,E,F,G,J,pL,aM,Z]
    ·try simp only[h4,h6,h7,B,C,E,F,G,J]
     refine Bz (es:=X X2.row ([(⟨v2,(0:Q)⟩:X2)]:O X2)) ?_;obtain⟨h8,h⟩:=Bv h;try simp only[h4,h6,h7,h8,B,C,E,F,G,J]
     refine W0 hF_a0 h_a0 ih h ?_ (by kernel_rfl);try simp only[h4,h6,h7,h8,B,C,E,F,G,J,pL,aM,Z]
   ·try simp only[h4,h6,B,C,E,F,G,J]
    refine VZ hF_a0 h_a0 ih h ?_ (by kernel_rfl);try simp only[h4,h6,B,C,E,F,G,J,pL,aM,Z]
  ·try simp only[hσ,h4,B,C,E,F,G,J]
   cases h;exact t0
theorem qY{a0}{r}(F_a0:FuncId)(caps_a0:O D)(hF_a0:Bi Y F_a0=T)(h_a0:∀z0 zr,a0 z0=L zr→FC Y F_a0 ([.sc (.int .i64 z0)]++caps_a0.map .sc) [.sc (.v (.bool zr))])(h:JQ a0=L r):FC Y 189 [.sc (.clo F_a0 caps_a0)] [.sc (.o 2 (X X2.row r))]:=by
 unfold JQ at h;refine A5 A2 N7 [2] 30 ?_;have s0:= @Bk (X X2.row ([]:O X2));have k0:= @sb;exact gc
instance wG:Ct 198 (∀{a0} {a1} {r},JN a0 a1=L r→FC Y 198 [.sc (.int .i64 a0),.sc (.int .i64 a1)] [.sc (.v (.int .i64 r))]):=by
 refine⟨fun h=> ?_⟩;unfold JN at h;refine A5 A2 h0 [4] 46 ?_;exact gc
def Su:Hw:=([(8,[1,5,11,12,13],[],[])],[])
def Xs:=fun a1 (a0:Xh) (k_:Q→Q→P Q)=>∀{v1 v2} {zr},k_ v1 v2=L zr→Kh Y 195 Su 8 [1,5,11,12,13] [] [] ⟨[pI 1 a1,pI 5 v1,pL 11 zE a0.Parts,pI 12 (a0.Parts.length:Q),pI 13 v2],[],[]⟩ (Ac [4] [.sc (.v (.int .i64 zr))])
theorem sd{a1 a0}{n:V}:Xs a1 a0 (G9 a1 a0 n):=by
 induction n with
 | zero=>intro _ _ r h; cases h
 | succ n ih=>
  intro v1 v2 r h σ hσ;rw[G9] at h;exact gc
instance wF:Ct 195 (∀{a0} {a1} {r},Mp a0 a1=L r→FC Y 195 [.ag (Xh.row a0),.sc (.int .i64 a1)] [.sc (.v (.int .i64 r))]):=by
 refine⟨fun h=> ?_⟩;unfold Mp at h;refine A5 A2 Su [4] 32 ?_;have k0:= @sd;exact gc
def Sv:Hw:=([(8,[1,5,9,10,11],[],[])],[])
def WR:=fun a1 (a0:Xb) (k_:Q→Q→P Q)=>∀{v1 v2} {zr},k_ v1 v2=L zr→Kh Y 196 Sv 8 [1,5,9,10,11] [] [] ⟨[pI 1 a1,pI 5 v1,pL 9 zF a0.Surges,pI 10 (a0.Surges.length:Q),pI 11 v2],[],[]⟩ (Ac [4] [.sc (.v (.int .i64 zr))])
theorem se{a1 a0}{n:V}:WR a1 a0 (DQ a1 a0 n):=by
 induction n with
 | zero=>intro _ _ r h; cases h
 | succ n ih=>
  intro v1 v2 r h σ hσ;rw[DQ] at h;exact gc
instance vb:Ct 196 (∀{a0} {a1} {r},Jt a0 a1=L r→FC Y 196 [.ag (zD a0),.sc (.int .i64 a1)] [.sc (.v (.int .i64 r))]):=by
 refine⟨fun h=> ?_⟩;unfold Jt at h;refine A5 A2 Sv [4] 23 ?_;have k0:= @se;exact gc
instance vZ:Ct 191 (∀{a0} {a1} {r},Js a0 a1=L r→FC Y 191 [.ag (zD a0),.sc (.int .i64 a1)] [.sc (.v (.int .i64 r))]):=by
 refine⟨fun h=> ?_⟩;unfold Js at h;refine A5 A2 h0 [4] 18 ?_;exact gc
theorem sg{a0}{c0}{c1}{r}(h:Mj a0 c0 c1=L r):FC Y 190 [.sc (.int .i64 a0),.sc (.pd (zD c0)),.sc (.pd (rI c1))] [.sc (.v (.bool r))]:=by
 unfold Mj at h;refine A5 A2 h0 [4] 10 ?_;exact gc
instance vj:Ct 180 (∀{a0} {a1} {r},JA a0 a1=L r→FC Y 180 [.ag (zD a0),.sc (.int .i64 a1)] [.sc (.o 2 (X X2.row r))]):=by
 refine⟨fun{a0} {a1} {r} h=> ?_⟩;unfold JA at h;refine A5 A2 h0 [4] 10 ?_;intro S hS;refine ev hS ?_;simp only[B,C,E,F,G,J];try simp only[B,C,E,F,G,J]
 refine Bd ?_;try simp only[B,C,E,F,G,J]
 refine Bd ?_;obtain⟨r1,hr1,h⟩:=ob h;try simp only[B,C,E,F,G,J]
 refine B4 (Ag qS hr1) ?_;obtain⟨hb2,h⟩|⟨hb2,h⟩:=ic h
 ·obtain⟨r3,hr3,h⟩:=ob h;try simp only[hb2,B,C,E,F,G,J]
  refine Bm (qY 190 [.pd (zD a0),.pd (rI a1)] (by kernel_rfl) (fun z0 zr zh=>sg zh) hr3) W (BL W ⟨AM,⟨⟩⟩) W (uf W) ?_;try simp only[hb2,B,C,E,F,G,J]
  cases h;exact t0
 ·try simp only[hb2,B,C,E,F,G,J]
  cases h;exact t0
instance vk:Ct 182 (∀{a0} {a1} {a2} {r},JB a0 a1 a2=L r→FC Y 182 [.ag (X0.row a0),.sc (.int .i64 a1),.ag (X6.row a2)] [.sc (.v (.int .i64 r))]):=by
 refine⟨fun h=> ?_⟩;unfold JB at h;refine A5 A2 h0 [6] 30 ?_;exact gc
def Sx:Hw:=([(6,[0,5,6,7],[],[])],[])
def Xt:=fun a0 (k_:Q→P U)=>∀{v1} {zr},k_ v1=L zr→Kh Y 183 Sx 6 [0,5,6,7] [] [] ⟨[pL 0 X2.row a0,pL 5 X2.row a0,pI 6 (a0.length:Q),pI 7 v1],[],[]⟩ (Ac [2] [.sc (.v (.bool zr))])
theorem si{a0}{n:V}:Xt a0 (DT a0 n):=by
 induction n with
 | zero=>intro _ r h; cases h
 | succ n ih=>
  intro v1 r h σ hσ;rw[DT] at h;exact gc
instance wH:Ct 183 (∀{a0} {r},HW a0=L r→FC Y 183 [.sc (.sl (X X2.row a0))] [.sc (.v (.bool r))]):=by
 refine⟨fun h=> ?_⟩;unfold HW at h;refine A5 A2 Sx [2] 44 ?_;have k0:= @si;exact gc
def Sy:Hw:=([(16,[1,5,17,18,19],[],[1024])],[])
def Xq:=fun a1 a0 (k_:Q→(O X2)→P (O X2))=>∀{v5 v6} {zr},k_ v5 v6=L zr→Kh Y 179 Sy 16 [1,5,17,18,19] [] [1024] ⟨[pI 1 a1,pW 5 1024,pL 17 X2.row a0,pI 18 (a0.length:Q),pI 19 v5],[],[(1024,2,X X2.row v6)]⟩ (Ac [4] [.sc (.o 2 (X X2.row zr))])
theorem sj{a1 a0}{n:V}:Xq a1 a0 (DS a1 a0 n):=by
 induction n with
 | zero=>intro _ _ r h; cases h
 | succ n ih=>
  intro v5 v6 r h σ hσ;rw[DS] at h;have s0:=fun(x8:X2)=> @Bk (X X2.row ([(⟨x8.From,(IntKind.i64.wrap (x8.To - a1))⟩:X2)]:O X2))
  exact gc
instance wB:Ct 179 (∀{a0} {a1} {r},Mo a0 a1=L r→FC Y 179 [.sc (.sl (X X2.row a0)),.sc (.int .i64 a1)] [.sc (.o 2 (X X2.row r))]):=by
 refine⟨fun h=> ?_⟩;unfold Mo at h;refine A5 A2 Sy [4] 42 ?_;have s0:= @Bk (X X2.row ([]:O X2));have k0:= @sj;exact gc
instance qV:Ct 164 (∀{a0} {a1} {a2} {a3} {r},JK a0 a1 a2 a3=L r→FC Y 164 [.ag (zD a0),.ag (X0.row a1),.sc (.int .i64 a2),.ag (X6.row a3)] [.sc (.o 2 (X X2.row r))]):=by
 refine⟨fun h=> ?_⟩;unfold JK at h;refine A5 A2 h0 [8] 30 ?_;exact gc
def OU:Hw:=([(5,[3,4,5,6,7,10,34],[5,6,7,10],[]),(16,[4,5,6,7,10,12,43,44,45],[5,6,7,10,12],[140288,140352,140416])],[(11,3,(N,.ownb 12 0 140288 1)),(11,4,(N,.ownb 12 1 140352 1)),(11,5,(N,.ownb 12 2 140416 1)),(14,6,(N,.frz 2560))])
def Xy:=fun a4 (a0:Xb) (a1:X0) (a2:X6) y11 y12 (k_:Q→(O U)→(O Q)→(O (O X2))→P (Xf × U))=>∀{v13 v14 v15 v16} {zr},k_ v13 v14 v15 v16=L zr→Kh Y 131 OU 16 [4,5,6,7,10,12,43,44,45] [5,6,7,10,12] [140288,140352,140416] ⟨[pL 4 rI a4,pB 5,pB 6,pB 7,pB 10,pB 12,pL 43 rI y11,pI 44 y12,pI 45 v13],[(5,[aI a0.Tide.Mean,aM zE a0.Tide.Parts,aM zF a0.Surges]),(6,[aM X8.row a1.Points,aM X1.row a1.Segments]),(7,(dm a2.row)),(10,[.nil,.nil,.nil]),(12,[.own 140288,.own 140352,.own 140416])],[(140288,1,X rB v14),(140352,1,X rI v15),(140416,1,X (rL X2.row) v16)]⟩ (Ac [.c 10 T 3,11] [.ag [.o 1 (X rB zr.1.waits),.o 1 (X rI zr.1.minutes),.o 1 (X (rL X2.row) zr.1.sure)],.sc (.v (.bool zr.2))])
def Xx:=fun a3 a4 (a0:Xb) (a1:X0) (a2:X6) (k_:U→P (Xf × U))=>∀{v7} {zr},k_ v7=L zr→Kh Y 131 OU 5 [3,4,5,6,7,10,34] [5,6,7,10] [] ⟨[pI 3 a3,pL 4 rI a4,pB 5,pB 6,pB 7,pB 10,(34,vc (aB v7))],[(5,[aI a0.Tide.Mean,aM zE a0.Tide.Parts,aM zF a0.Surges]),(6,[aM X8.row a1.Points,aM X1.row a1.Segments]),(7,(dm a2.row)),(10,[.nil,.nil,.nil])],[]⟩ (Ac [.c 10 T 3,11] [.ag [.o 1 (X rB zr.1.waits),.o 1 (X rI zr.1.minutes),.o 1 (X (rL X2.row) zr.1.sure)],.sc (.v (.bool zr.2))])
theorem sq{a4 a0 a1 a2 y11 y12}{n:V}:Xy a4 a0 a1 a2 y11 y12 (Gf a4 a0 a1 a2 y11 y12 n):=by
 induction n with
 | zero=>intro _ _ _ _ r h; cases h
 | succ n ih=>
  intro v13 v14 v15 v16 r h σ hσ S hS;refine ev hS ?_;rw[Gf] at h;refine AR (AJ ?_);obtain⟨h17,h⟩|⟨h17,h⟩:=ic h
  ·obtain⟨x18,h18,h⟩:=ob h;try simp only[hσ,h17,h18,B,C,E,F,G,J]
   refine Ap ?_;obtain⟨x19,h19,h⟩:=ob h;try simp only[h17,h18,h19,B,C,E,F,G,J]
   refine Bz (es:=X rB ([x19.Wait]:O U)) ?_;obtain⟨h20,h⟩:=Bv h;try simp only[h17,h18,h19,h20,B,C,E,F,G,J]
   refine Ap ?_;try simp only[h17,h18,h19,h20,B,C,E,F,G,J]
   refine Ap ?_;try simp only[h17,h18,h19,h20,B,C,E,F,G,J]
   refine Ap ?_;obtain⟨x21,h21,h⟩:=ob h;obtain⟨x22,h22,h⟩:=ob h;obtain⟨r23,h23,h⟩:=ob h;try simp only[h17,h18,h19,h20,h21,h22,B,C,E,F,G,J]
   refine D4 (Ag VH h23) ?_;try simp only[h17,h18,h19,h20,h21,h22,B,C,E,F,G,J]
   refine Bz (es:=X rI ([r23]:O Q)) ?_;obtain⟨h24,h⟩:=Bv h;try simp only[h17,h18,h19,h20,h21,h22,h24,B,C,E,F,G,J]
   refine Ap ?_;try simp only[h17,h18,h19,h20,h21,h22,h24,B,C,E,F,G,J]
   refine Ap ?_;try simp only[h17,h18,h19,h20,h21,h22,h24,B,C,E,F,G,J]
   refine Ap ?_;obtain⟨r25,h25,h⟩:=ob h;try simp only[h17,h18,h19,h20,h21,h22,h24,B,C,E,F,G,J]
   refine D4 (FC.asV (rs':= [.sc (.v (.sl (X X2.row r25)))]) (Ag qV h25) W) ?_;try simp only[h17,h18,h19,h20,h21,h22,h24,B,C,E,F,G,J]
   refine Bz (es:=X (rL X2.row) ([r25]:O (O X2))) ?_;obtain⟨h26,h⟩:=Bv h;try simp only[h17,h18,h19,h20,h21,h22,h24,h26,B,C,E,F,G,J]
   refine Ap ?_;try simp only[h17,h18,h19,h20,h21,h22,h24,h26,B,C,E,F,G,J]
   refine Ap ?_;try simp only[h17,h18,h19,h20,h21,h22,h24,h26,B,C,E,F,G,J]
   refine ih h ?_ (by kernel_rfl);try simp only[h17,h18,h19,h20,h21,h22,h24,h26,B,C,E,F,G,J,pL,aM,Z]
  ·try simp only[hσ,h17,B,C,E,F,G,J]
   cases h;try simp only[NJ,B,C,E,F,G,J]
   trivial
theorem sr{a3 a4 a0 a1 a2}:Xx a3 a4 a0 a1 a2 (Ge a3 a4 a0 a1 a2):=by
 intro v7 r h σ hσ S hS;refine ev hS ?_;refine AJ ?_;unfold Ge at h;obtain⟨h8,h⟩|⟨h8,h⟩:=ic h
 ·try simp only[hσ,h8,B,C,E,F,G,J]
  cases h;try simp only[NJ,B,C,E,F,G,J]
  trivial
 ·try simp only[hσ,h8,B,C,E,F,G,J]
  refine BS ?_;try simp only[h8,B,C,E,F,G,J]
  refine OL (cs':= [.own 140288,.nil,.nil]) W W W W ?_;try simp only[h8,B,C,E,F,G,J]
  refine OL (cs':= [.own 140288,.own 140352,.nil]) W W W W ?_;try simp only[h8,B,C,E,F,G,J]
  refine OL (cs':= [.own 140288,.own 140352,.own 140416]) W W W W ?_;obtain⟨r9,h9,h⟩:=ob h;try simp only[h8,B,C,E,F,G,J]
  refine B4 (Ag VF h9) ?_;try simp only[h8,B,C,E,F,G,J]
  refine Ed ?_;obtain⟨p10,h10,h⟩:=ob h;try simp only[h8,h10,B,C,E,F,G,J]
  refine sq h ?_ (by kernel_rfl);try simp only[h8,h10,B,C,E,F,G,J,pL,aM,Z]
instance wM:Ct 131 (∀{a0} {a1} {a2} {a3} {a4} {r},Gd a0 a1 a2 a3 a4=L r→FC Y 131 [.ag (zD a0),.ag (X0.row a1),.ag (X6.row a2),.sc (.int .i64 a3),.sc (.sl (X rI a4))] [.ag [.o 1 (X rB r.1.waits),.o 1 (X rI r.1.minutes),.o 1 (X (rL X2.row) r.1.sure)],.sc (.v (.bool r.2))]):=by
 refine⟨fun h=> ?_⟩;unfold Gd at h;refine A5 A2 OU [.c 10 T 3,11] 91 ?_;have k0:= @sr;exact gc
def Sz:Hw:=([(7,[2,3,4,6,28],[3,4,6],[])],[])
def Xu:=fun a2 (a0:X9) (a1:Xe) (k_:U→P (Xf × U))=>∀{v4} {zr},k_ v4=L zr→Kh Y 78 Sz 7 [2,3,4,6,28] [3,4,6] [] ⟨[pL 2 rI a2,pB 3,pB 4,pB 6,(28,vc (aB v4))],[(3,([aI a0.Forecast.Tide.Mean,aM zE a0.Forecast.Tide.Parts,aM zF a0.Forecast.Surges,aM X8.row a0.Chart.Points,aM X1.row a0.Chart.Segments,aM X6.row a0.Fleet,aI a0.Regime.Gap,aB a0.Regime.NoMeet]++dm a0.Crew.row)),(4,(dm a1.row)),(6,[.nil,.nil,.nil])],[]⟩ (Ac [.c 6 T 3,7] [.ag [.o 1 (X rB zr.1.waits),.o 1 (X rI zr.1.minutes),.o 1 (X (rL X2.row) zr.1.sure)],.sc (.v (.bool zr.2))])
theorem W1{a2 a0 a1}:Xu a2 a0 a1 (HX a2 a0 a1):=by
 intro v4 r h σ hσ;unfold HX at h;exact gc
instance qW:Ct 78 (∀{a0} {a1} {a2} {r},Ga a0 a1 a2=L r→FC Y 78 [.ag (X9.row a0),.ag (zI a1),.sc (.sl (X rI a2))] [.ag [.o 1 (X rB r.1.waits),.o 1 (X rI r.1.minutes),.o 1 (X (rL X2.row) r.1.sure)],.sc (.v (.bool r.2))]):=by
 refine⟨fun{a0} {a1} {a2} {r} h=> ?_⟩;unfold Ga at h;refine A5 A2 Sz [.c 6 T 3,7] 46 ?_;intro S hS;refine ev hS ?_;simp only[B,C,E,F,G,J];try simp only[B,C,E,F,G,J]
 refine Bd ?_;try simp only[B,C,E,F,G,J]
 refine Bd ?_;try simp only[B,C,E,F,G,J]
 refine BS ?_;obtain⟨r1,h1,h⟩:=ob h;try simp only[B,C,E,F,G,J]
 refine B4 (Ag VF h1) ?_;try simp only[B,C,E,F,G,J]
 refine Ap ?_;obtain⟨h2,h⟩|⟨h2,h⟩:=ic h
 ·try simp only[h2,B,C,E,F,G,J]
  refine W1 h ?_ (by kernel_rfl);try simp only[h2,B,C,E,F,G,J,pL,aM,Z]
 ·obtain⟨x3,h3,h⟩:=ob h;have h3n:=Ay h3;try simp only[h2,h3,h3n,B,C,E,F,G,J]
  refine W1 h ?_ (by kernel_rfl);try simp only[h2,h3,h3n,B,C,E,F,G,J,pL,aM,Z]
def SA:Hw:=([(6,[1,7,8,9],[],[])],[])
def WS:=fun a1 a0 (k_:Q→P U)=>∀{v1} {zr},k_ v1=L zr→Kh Y 165 SA 6 [1,7,8,9] [] [] ⟨[pI 1 a1,pL 7 X2.row a0,pI 8 (a0.length:Q),pI 9 v1],[],[]⟩ (Ac [4] [.sc (.v (.bool zr))])
theorem su{a1 a0}{n:V}:WS a1 a0 (G1 a1 a0 n):=by
 induction n with
 | zero=>intro _ r h; cases h
 | succ n ih=>
  intro v1 r h σ hσ;rw[G1] at h;exact gc
instance ve:Ct 165 (∀{a0} {a1} {r},Jv a0 a1=L r→FC Y 165 [.sc (.sl (X X2.row a0)),.sc (.int .i64 a1)] [.sc (.v (.bool r))]):=by
 refine⟨fun h=> ?_⟩;unfold Jv at h;refine A5 A2 SA [4] 20 ?_;have k0:= @su;exact gc
def SB:Hw:=([(14,[1,10,11,12],[],[])],[])
def WW:=fun a1 a0 (k_:Q→P Q)=>∀{v3} {zr},k_ v3=L zr→Kh Y 166 SB 14 [1,10,11,12] [] [] ⟨[pI 1 a1,pL 10 X2.row a0,pI 11 (a0.length:Q),pI 12 v3],[],[]⟩ (Ac [4] [.sc (.v (.int .i64 zr))])
theorem sv{a1 a0}{n:V}:WW a1 a0 (G2 a1 a0 n):=by
 induction n with
 | zero=>intro _ r h; cases h
 | succ n ih=>
  intro v3 r h σ hσ;rw[G2] at h;exact gc
instance qT:Ct 166 (∀{a0} {a1} {r},JC a0 a1=L r→FC Y 166 [.sc (.sl (X X2.row a0)),.sc (.int .i64 a1)] [.sc (.v (.int .i64 r))]):=by
 refine⟨fun h=> ?_⟩;unfold JC at h;refine A5 A2 SB [4] 25 ?_;have k0:= @sv;exact gc
def OV:Hw:=([(16,[2,6,7],[2],[1152]),(32,[2,6,7,9,59],[2],[1152])],[])
def Xz:=fun v4 r10 (a0:Xf) v5 (k_:U→P ((O Q) × U))=>∀{v14} {zr},k_ v14=L zr→Kh Y 132 OV 32 [2,6,7,9,59] [2] [1152] ⟨[pB 2,pW 6 1152,pI 7 v4,pI 9 r10,(59,vc (aB v14))],[(2,(dm a0.row))],[(1152,1,X rI v5)]⟩ (Ac [4,5] [.sc (.o 1 (X rI zr.1)),.sc (.v (.bool zr.2))])
def QE:=fun(a0:Xf) (k_:Q→(O Q)→P ((O Q) × U))=>∀{v4 v5} {zr},k_ v4 v5=L zr→Kh Y 132 OV 16 [2,6,7] [2] [1152] ⟨[pB 2,pW 6 1152,pI 7 v4],[(2,(dm a0.row))],[(1152,1,X rI v5)]⟩ (Ac [4,5] [.sc (.o 1 (X rI zr.1)),.sc (.v (.bool zr.2))])
theorem Qj{v4 r10 a0 v5}{Nm}(gm:QE a0 Nm):Xz v4 r10 a0 v5 (Gg v4 r10 a0 v5 Nm):=by
 intro v14 r h σ hσ;unfold Gg at h;have s0:= @Bk (X rI ([r10]:O Q));have k0:= @gm;exact gc
theorem sw{a0}{n:V}:QE a0 (Dq a0 n):=by
 induction n with
 | zero=>intro _ _ r h; cases h
 | succ n ih=>
  intro v4 v5 r h σ hσ S hS;refine ev hS ?_;rw[Dq] at h;refine AR (AJ ?_);obtain⟨h6,h⟩|⟨h6,h⟩:=ic h
  ·try simp only[hσ,h6,B,C,E,F,G,J]
   refine Ap ?_;obtain⟨x7,h7,h⟩:=ob h;have h7n:=Ay h7;obtain⟨x8,h8,h⟩:=ob h;obtain⟨x9,h9,h⟩:=ob h;obtain⟨r10,h10,h⟩:=ob h;try simp only[h6,h7,h7n,h8,h9,B,C,E,F,G,J]
   refine B4 (Ag qT h10) ?_;obtain⟨h11,h⟩|⟨h11,h⟩:=ic h
   ·try simp only[h6,h7,h7n,h8,h9,h11,B,C,E,F,G,J]
    refine Qj ih h ?_ (by kernel_rfl);try simp only[h6,h7,h7n,h8,h9,h11,B,C,E,F,G,J,pL,aM,Z]
   ·obtain⟨h12,h⟩|⟨h12,h⟩:=ic h
    ·obtain⟨x13,h13,h⟩:=ob h;try simp only[h6,h7,h7n,h8,h9,h11,h12,h13,B,C,E,F,G,J]
     refine Qj ih h ?_ (by kernel_rfl);try simp only[h6,h7,h7n,h8,h9,h11,h12,h13,B,C,E,F,G,J,pL,aM,Z]
    ·try simp only[h6,h7,h7n,h8,h9,h11,h12,B,C,E,F,G,J]
     refine Qj ih h ?_ (by kernel_rfl);try simp only[h6,h7,h7n,h8,h9,h11,h12,B,C,E,F,G,J,pL,aM,Z]
  ·try simp only[hσ,h6,B,C,E,F,G,J]
   cases h;trivial
instance wN:Ct 132 (∀{a0} {a1} {r},JP a0 a1=L r→FC Y 132 [.ag (Xf.row a0),.sc (.int .i64 a1)] [.sc (.o 1 (X rI r.1)),.sc (.v (.bool r.2))]):=by
 refine⟨fun{a0} {a1} {r} h=> ?_⟩;unfold JP at h;refine A5 A2 OV [4,5] 65 ?_;have s0:= @Bk (X rI ([a1]:O Q));have k0:= @sw;exact gc
def SC:Hw:=([(18,[1,5,6,8,13,14,40,41,42],[6,8],[2432,2496])],[])
def WY:=fun a1 a5 a4 (a0:X0) (a2:X6) r6 (k_:Q→(O X3)→P (O X3))=>∀{v7 v8} {zr},k_ v7 v8=L zr→Kh Y 133 SC 18 [1,5,6,8,13,14,40,41,42] [6,8] [2432,2496] ⟨[pI 1 a1,pL 5 rI a5,pB 6,pB 8,pW 13 2432,pW 14 2496,pL 40 rI a4,pI 41 (a4.length:Q),pI 42 v7],[(6,[aM X8.row a0.Points,aM X1.row a0.Segments]),(8,(dm a2.row))],[(2432,1,X rI r6),(2496,5,X X3.row v8)]⟩ (Ac [12] [.sc (.o 5 (X X3.row zr))])
theorem sx{a1 a5 a4 a0 a2 r6}{n:V}:WY a1 a5 a4 a0 a2 r6 (G3 a1 a5 a4 a0 a2 r6 n):=by
 induction n with
 | zero=>intro _ _ r h; cases h
 | succ n ih=>
  intro v7 v8 r h σ hσ S hS;refine ev hS ?_;rw[G3] at h;refine AR (AJ ?_);obtain⟨h9,h⟩|⟨h9,h⟩:=ic h
  ·obtain⟨x10,h10,h⟩:=ob h;obtain⟨x11,h11,h⟩:=ob h;obtain⟨r12,h12,h⟩:=ob h;try simp only[hσ,h9,h10,h11,B,C,E,F,G,J]
   refine B4 (Ag qX h12) ?_;obtain⟨h13,h⟩|⟨h13,h⟩:=ic h
   ·obtain⟨x14,h14,h⟩:=ob h;try simp only[h9,h10,h11,h13,h14,B,C,E,F,G,J]
    refine BS ?_;try simp only[h9,h10,h11,h13,h14,B,C,E,F,G,J]
    refine Ap ?_;obtain⟨x15,h15,h⟩:=ob h;have h15n:=Ay h15;obtain⟨r16,h16,h⟩:=ob h;try simp only[h9,h10,h11,h13,h14,h15,h15n,B,C,E,F,G,J]
    refine D4 (Ag VH h16) ?_;try simp only[h9,h10,h11,h13,h14,h15,h15n,B,C,E,F,G,J]
    refine Bz (es:=X X3.row ([(⟨a1,x10,(x15==x14.A),x11,(IntKind.i64.wrap (x11+r16))⟩:X3)]:O X3)) ?_;obtain⟨h17,h⟩:=Bv h;try simp only[h9,h10,h11,h13,h14,h15,h15n,h17,B,C,E,F,G,J]
    refine Ap ?_;try simp only[h9,h10,h11,h13,h14,h15,h15n,h17,B,C,E,F,G,J]
    refine ih h ?_ (by kernel_rfl);try simp only[h9,h10,h11,h13,h14,h15,h15n,h17,B,C,E,F,G,J,pL,aM,Z]
   ·try simp only[h9,h10,h11,h13,B,C,E,F,G,J]
    cases h;exact t0
  ·try simp only[hσ,h9,B,C,E,F,G,J]
   cases h;exact t0
instance vo:Ct 133 (∀{a0} {a1} {a2} {a3} {a4} {a5} {r},JE a0 a1 a2 a3 a4 a5=L r→FC Y 133 [.ag (X0.row a0),.sc (.int .i64 a1),.ag (X6.row a2),.sc (.int .i64 a3),.sc (.sl (X rI a4)),.sc (.sl (X rI a5))] [.sc (.o 5 (X X3.row r))]):=by
 refine⟨fun h=> ?_⟩;unfold JE at h;refine A5 A2 SC [12] 85 ?_;have s0:= @Bk (X X3.row ([]:O X3));have k0:= @sx;exact gc
instance vV:Ct 134 (∀{a0} {a1} {a2} {a3} {r},Jo a0 a1 a2 a3=L r→FC Y 134 [.ag (X0.row a0),.ag (X6.row a1),.sc (.sl (X rI a2)),.sc (.sl (X rI a3))] [.sc (.v (.int .i64 r))]):=by
 refine⟨fun h=> ?_⟩;unfold Jo at h;refine A5 A2 h0 [8] 55 ?_;exact gc
def Wj:O (O V × AItem):= [([],(N,.load 72 (S 16) T 4)),([],(N,.faddr 73 (S 16) 1)),([1],(N,.load 74 (S 73) H 1)),([2],(N,.bin 75 .leq (S 74) (K 2880))),([0,0],(N,.store (S 10) (S 72) 4)),([3,4,0,1,2,3,4],(N,.mv 11 (S 75)))]
def SD:Hw:=([(24,[10,16,60,61,62],[10,16],[2752])],[])
abbrev Hh(a4 r5 v7:Q)(c0_ c1_:U)(c2_ c3_ c5_:U)(bx_:O (V × O AC))(rs_:Rows):St:=⟨[(10,vc (.pb 10 0)),(16,vc (.pb 16 0)),(72,bif c0_ then va [aI a4,aI r5,aI v7,.own 2752] else .undef),(73,bif c1_ then vc (.pb 16 1) else .undef),(74,bif c2_ then vc (aI r5) else .undef),(75,bif c3_ then vc (aB (decide (r5≤(2880:Q)))) else .undef),(11,bif c5_ then vc (aB (decide (r5≤(2880:Q)))) else .undef)],bx_,rs_⟩
abbrev NT(a4 r5:Q)(r4:(O X3))(v7:Q):St:=(Hh a4 r5 v7 T T T T T [(10,[aI a4,aI r5,aI v7,.own 2752]),(16,[aI a4,aI r5,aI v7,.own 2752])] [(2752,5,X X3.row r4)])
theorem sy(a4 r5 r4 v7):∀(f:V) (b1 b2:U) (b3 b5:U),An Y Wj (NT a4 r5 r4 v7) f [T,b1,b2,b3,T,b5] (Hh a4 r5 v7 T b1 b2 b3 b5 [(10,[aI a4,aI r5,aI v7,.own 2752]),(16,[aI a4,aI r5,aI v7,.own 2752])] [(2752,5,X X3.row r4)]):=by
 intro f
 induction f with
 | zero=>
  intro b1 b2 b3 b5 h;obtain rfl:b1=T:=zA.1 h b1 (by simp);obtain rfl:b2=T:=zA.1 h b2 (by simp);obtain rfl:b3=T:=zA.1 h b3 (by simp);obtain rfl:b5=T:=zA.1 h b5 (by simp);rfl
 | succ f ih=>
  intro b1 b2 b3 b5;refine Aw ⟨?_,?_,?_,?_,?_,?_,⟨⟩⟩<;>try first | (intro h; cases h; done) | (intro h0 hw; obtain rfl:=hz h0 rfl; (try obtain rfl:=hq hw 1 rfl rfl); (try obtain rfl:=hq hw 2 rfl rfl); (try obtain rfl:=hq hw 3 rfl rfl); refine np ?_; simp only[Hh,A8,Aa,A3,B,C,E,F,G,J]; exact ih _ _ _ _)
theorem tA(a4 r5 r4 v7):∀(f:V) (b0 b1:U) (b2 b3:U),An Y Wj (NT a4 r5 r4 v7) f [b0,b1,b2,b3,H,H] (Hh a4 r5 v7 b0 b1 b2 b3 H [(10,[aI (0:Q),aI (0:Q),aI (0:Q),.nil]),(16,[aI a4,aI r5,aI v7,.own 2752])] [(2752,5,X X3.row r4)]):=by
 intro f
 induction f with
 | zero=>intro b0 b1 b2 b3 h; simp at h
 | succ f ih=>
  intro b0 b1 b2 b3;refine Aw ⟨?_,?_,?_,?_,?_,?_,⟨⟩⟩<;>try first | (intro _ hw; simp at hw; done) | (intro h0 hw; obtain rfl:=hz h0 rfl; (try obtain rfl:=hq hw 1 rfl rfl); (try obtain rfl:=hq hw 2 rfl rfl); refine np ?_; simp only[Hh,A8,Aa,A3,B,C,E,F,G,J]; exact ih _ _ _ _)
  ·intro h0 hw;obtain rfl:=hq hw 0 rfl rfl;refine np ?_;try simp only[Hh,A8,Aa,A3,B,C,E,F,G,J]
   exact sy a4 r5 r4 v7 _ b1 b2 b3 H
def Xw:=fun(a2:Xf) a4 r5 r4 (k_:Q→Q→P (X5 × U))=>∀{v6 v7} {zr},k_ v6 v7=L zr→Kh Y 79 SD 24 [10,16,60,61,62] [10,16] [2752] ⟨[pB 10,pB 16,pL 60 rI a2.minutes,pI 61 (a2.minutes.length:Q),pI 62 v6],[(10,[aI (0:Q),aI (0:Q),aI (0:Q),.nil]),(16,[aI a4,aI r5,aI v7,.own 2752])],[(2752,5,X X3.row r4)]⟩ (Ac [.c 10 T 4,11] [.ag [.v (.int .i64 zr.1.Start),.v (.int .i64 zr.1.Arrival),.v (.int .i64 zr.1.Cost),.o 5 (X X3.row zr.1.Passages)],.sc (.v (.bool zr.2))])
theorem tB{a2 a4 r5 r4}{n:V}:Xw a2 a4 r5 r4 (EW a2 a4 r5 r4 n):=by
 induction n with
 | zero=>intro _ _ r h; cases h
 | succ n ih=>
  intro v6 v7 r h σ hσ S hS;refine ev hS ?_;rw[EW] at h;refine AR (AJ ?_);obtain⟨h8,h⟩|⟨h8,h⟩:=ic h
  ·obtain⟨x9,h9,h⟩:=ob h;try simp only[hσ,h8,h9,B,C,E,F,G,J]
   refine ih h ?_ (by kernel_rfl);try simp only[h8,h9,B,C,E,F,G,J,pL,aM,Z]
  ·try simp only[hσ,h8,B,C,E,F,G,J]
   refine L6 (ks:= [10,16]) (bs:= [10,16]) (rs:= [2752]) (τ:=(NT a4 r5 r4 v7)) W (tA a4 r5 r4 v7 _ H H H H) ?_;simp only[NT,Hh,A8];try simp only[h8,B,C,E,F,G,J]
   cases h;try simp only[NJ,B,C,E,F,G,J]
   trivial
instance VI:Ct 79 (∀{a0} {a1} {a2} {a3} {a4} {r},Gc a0 a1 a2 a3 a4=L r→FC Y 79 [.ag (X9.row a0),.ag (zI a1),.ag (Xf.row a2),.sc (.sl (X rI a3)),.sc (.int .i64 a4)] [.ag [.v (.int .i64 r.1.Start),.v (.int .i64 r.1.Arrival),.v (.int .i64 r.1.Cost),.o 5 (X X3.row r.1.Passages)],.sc (.v (.bool r.2))]):=by
 refine⟨fun h=> ?_⟩;unfold Gc at h;refine A5 A2 SD [.c 10 T 4,11] 76 ?_;have k0:= @tB;exact gc
end Go.Vi
