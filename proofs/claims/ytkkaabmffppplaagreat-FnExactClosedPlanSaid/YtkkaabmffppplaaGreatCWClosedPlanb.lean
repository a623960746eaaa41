/-
Walks. No condition.
-/
import Derived.Test.YtkkaabmffppplaaGreatCNf
import Derived.Test.YtkkaabmffppplaaGreatChecked
import Derived.Test.YtkkaabmffppplaaGreatCVi44
import Derived.KernelRfl
import Derived.Test.YtkkaabmffppplaaGreatCWClosedPlana
namespace Go.Vi
open Go.Proofs
set_option linter.all false
set_option maxRecDepth 4000
set_option maxHeartbeats 2000000
open Nat renaming reduceBEq → C, reduceMul → E, reduceAdd → F, reduceDiv → G, le_of_ble_eq_true → uf
open Int renaming reduceBEq → I
attribute [local irreducible] go B5 HL
open List renaming map → Y, all_eq_true → zD
open Tryz renaming prog → Z
open Xd renaming row → zA
open Xa renaming row → zB
open Xb renaming row → zC
open Xc renaming row → zE
open Bool renaming true → T, false → L
open Option renaming some → N, none → O
open _root_ renaming List → P, Option → Q, Int → U, Bool → V, Nat → W, rfl → X
def UE:Hw:=([(8,[3,7,8,9],[],[384]),(27,[3,4,7,8,9,30],[],[384])],[])
def lB:=fun v1 a0 v2 (k_:V→Q (P X5))=>∀{v8} {zr},k_ v8=N zr→Kh Z 248 UE 27 [3,4,7,8,9,30] [] [384] ⟨[pW 3 384,pI 4 v1,pL 7 rB a0,pI 8 (a0.length:U),pI 9 v1,(30,vc (aB v8))],[],[(384,2,Y X5.row v2)]⟩ (A5 [2] [.sc (.o 2 (Y X5.row zr))])
def WS:=fun a0 (k_:U→(P X5)→Q (P X5))=>∀{v1 v2} {zr},k_ v1 v2=N zr→Kh Z 248 UE 8 [3,7,8,9] [] [384] ⟨[pW 3 384,pL 7 rB a0,pI 8 (a0.length:U),pI 9 v1],[],[(384,2,Y X5.row v2)]⟩ (A5 [2] [.sc (.o 2 (Y X5.row zr))])
theorem gE{v1 a0 v2}{PF}(vS:WS a0 PF):lB v1 a0 v2 (JL v1 a0 v2 PF):=by
 intro v8 r h σ hσ;unfold JL at h;have s0:= @Aw (Y X5.row ([(⟨v1,v1⟩:X5)]:P X5));have s1:=fun(x10:X5)=> @Ez _ X5.row ((⟨x10.From,v1⟩:X5))
 have k0:= @vS;exact gc
theorem B42{a0}{n:W}:WS a0 (ER a0 n):=by
 induction n with
 | zero=>intro _ _ r h; cases h
 | succ n ih=>
  intro v1 v2 r h σ hσ S hS;refine ev hS ?_;rw[ER] at h;refine AB (As ?_);obtain⟨h3,h⟩|⟨h3,h⟩:=ic h
  ·obtain⟨x4,h4,h⟩:=ob h;obtain⟨h5,h⟩|⟨h5,h⟩:=ic h
   ·obtain⟨h6,h⟩|⟨h6,h⟩:=ic h
    ·obtain⟨x7,h7,h⟩:=ob h;have h7n:=Am h7;refine sg ?_;exact gE ih h sq kr
    ·refine sg ?_;exact gE ih h sq kr
   ·refine sg ?_;exact ih h sq kr
  ·refine sg ?_;cases h;exact t0
instance C0y:Ct 248 (∀{a0} {r},OW a0=N r→FC Z 248 [.sc (.sl (Y rB a0))] [.sc (.o 2 (Y X5.row r))]):=by
 refine⟨fun h=> ?_⟩;unfold OW at h;refine A3 A2 UE [2] 46 ?_;have s0:= @Aw (Y X5.row ([]:P X5));have k0:= @B42;exact gc
def UF:Hw:=([(8,[1,2,3,7,8],[3],[704]),(27,[1,2,3,7,8,10],[3],[704])],[])
def lA:=fun a1 v2 (a0:Xe) v3 (k_:V→U→Q (P X5))=>∀{v7 v8} {zr},k_ v7 v8=N zr→Kh Z 232 UF 27 [1,2,3,7,8,10] [3] [704] ⟨[pI 1 a1,(2,vc (aB v7)),pB 3,pW 7 704,pI 8 v2,pI 10 v8],[(3,[aI a0.Tide.Mean,aM zA a0.Tide.Parts,aM zB a0.Surges])],[(704,1,Y rB v3)]⟩ (A5 [6] [.sc (.o 2 (Y X5.row zr))])
def WR:=fun a1 (a0:Xe) (k_:V→U→(P V)→Q (P X5))=>∀{v1 v2 v3} {zr},k_ v1 v2 v3=N zr→Kh Z 232 UF 8 [1,2,3,7,8] [3] [704] ⟨[pI 1 a1,(2,vc (aB v1)),pB 3,pW 7 704,pI 8 v2],[(3,[aI a0.Tide.Mean,aM zA a0.Tide.Parts,aM zB a0.Surges])],[(704,1,Y rB v3)]⟩ (A5 [6] [.sc (.o 2 (Y X5.row zr))])
theorem A81{a1 v2 a0 v3}{Sj}(vR:WR a1 a0 Sj):lA a1 v2 a0 v3 (OV a1 v2 a0 v3 Sj):=by
 intro v7 v8 r h σ hσ;unfold OV at h;have s0:=fun(r9:U)=> @Aw (Y rB ([(decide (a1≤(IntKind.i64.wrap (r9+v8))))]:P V))
 have k0:= @vR;exact gc
theorem A82{a1 a0}{n:W}:WR a1 a0 (He a1 a0 n):=by
 induction n with
 | zero=>intro _ _ _ r h; cases h
 | succ n ih=>
  intro v1 v2 v3 r h σ hσ;rw[He] at h;have k0:= @A81;exact gc
instance C0x:Ct 232 (∀{a0} {a1} {a2} {r},OU a0 a1 a2=N r→FC Z 232 [.ag (Xe.row a0),.sc (.int .i64 a1),.sc (.bool a2)] [.sc (.o 2 (Y X5.row r))]):=by
 refine⟨fun h=> ?_⟩;unfold OU at h;refine A3 A2 UF [6] 37 ?_;have s0:= @Aw (Y rB ([]:P V));have k0:= @A82;exact gc
instance Wb:Ct 184 (∀{a0} {a1} {r},G3 a0 a1=N r→FC Z 184 [.ag (X2.row a0),.ag (X4.row a1)] [.sc (.v (.int .i64 r))]):=by
 refine⟨fun h=> ?_⟩;unfold G3 at h;refine A3 A2 h0 [4] 12 ?_;exact gc
instance B99:Ct 234 (∀{a0} {a1} {a2} {r},LI a0 a1 a2=N r→FC Z 234 [.ag (X3.row a0),.sc (.int .i64 a1),.ag (X4.row a2)] [.sc (.v (.int .i64 r))]):=by
 refine⟨fun h=> ?_⟩;unfold LI at h;refine A3 A2 h0 [6] 31 ?_;exact gc
def YT:Hw:=([(6,[0,5,6,7],[],[])],[])
def kx:=fun a0 (k_:U→Q V)=>∀{v1} {zr},k_ v1=N zr→Kh Z 210 YT 6 [0,5,6,7] [] [] ⟨[pL 0 X5.row a0,pL 5 X5.row a0,pI 6 (a0.length:U),pI 7 v1],[],[]⟩ (A5 [2] [.sc (.v (.bool zr))])
theorem A83{a0}{n:W}:kx a0 (G1 a0 n):=by
 induction n with
 | zero=>intro _ r h; cases h
 | succ n ih=>
  intro v1 r h σ hσ S hS;refine ev hS ?_;rw[G1] at h;refine AB (As ?_);obtain⟨h2,h⟩|⟨h2,h⟩:=ic h
  ·obtain⟨x3,h3,h⟩:=ob h;obtain⟨r4,h4,h⟩:=ob h;refine sg ?_;refine AF (Ab Gy h4) ?_;refine sg ?_;obtain⟨h5,h⟩|⟨h5,h⟩:=ic h
   ·obtain⟨r6,h6,h⟩:=ob h;refine sg ?_;refine Pf (by first | rfl | kernel_rfl) ?_;refine AF (Ab Gy h6) ?_;refine sg ?_;obtain⟨h7,h⟩|⟨h7,h⟩:=ic h
    ·obtain⟨h8,h⟩|⟨h8,h⟩:=ic h
     ·obtain⟨x9,h9,h⟩:=ob h;obtain⟨h10,h⟩|⟨h10,h⟩:=ic h
      ·refine sg ?_;cases h;exact t0
      ·refine sg ?_;exact ih h sq kr
     ·refine sg ?_;exact ih h sq kr
    ·refine sg ?_;cases h;exact t0
   ·refine sg ?_;refine Pe (by first | rfl | kernel_rfl) X ?_;refine sg ?_;cases h;exact t0
  ·refine sg ?_;cases h;exact t0
instance C0u:Ct 210 (∀{a0} {r},LM a0=N r→FC Z 210 [.sc (.sl (Y X5.row a0))] [.sc (.v (.bool r))]):=by
 refine⟨fun h=> ?_⟩;unfold LM at h;refine A3 A2 YT [2] 41 ?_;have k0:= @A83;exact gc
def YU:Hw:=([(16,[1,5,17,18,19],[],[1024])],[])
def kq:=fun a1 a0 (k_:U→(P X5)→Q (P X5))=>∀{v5 v6} {zr},k_ v5 v6=N zr→Kh Z 231 YU 16 [1,5,17,18,19] [] [1024] ⟨[pI 1 a1,pW 5 1024,pL 17 X5.row a0,pI 18 (a0.length:U),pI 19 v5],[],[(1024,2,Y X5.row v6)]⟩ (A5 [4] [.sc (.o 2 (Y X5.row zr))])
theorem A84{a1 a0}{n:W}:kq a1 a0 (G0 a1 a0 n):=by
 induction n with
 | zero=>intro _ _ r h; cases h
 | succ n ih=>
  intro v5 v6 r h σ hσ;rw[G0] at h;have s0:=fun(x8:X5)=> @Aw (Y X5.row ([(⟨x8.From,(IntKind.i64.wrap (x8.To - a1))⟩:X5)]:P X5))
  exact gc
instance C0o:Ct 231 (∀{a0} {a1} {r},Rv a0 a1=N r→FC Z 231 [.sc (.sl (Y X5.row a0)),.sc (.int .i64 a1)] [.sc (.o 2 (Y X5.row r))]):=by
 refine⟨fun h=> ?_⟩;unfold Rv at h;refine A3 A2 YU [4] 42 ?_;have s0:= @Aw (Y X5.row ([]:P X5));have k0:= @A84;exact gc
instance C02:Ct 207 (∀{a0} {a1} {a2} {a3} {a4} {r},Rz a0 a1 a2 a3 a4=N r→FC Z 207 [.ag (Xe.row a0),.ag (X3.row a1),.sc (.int .i64 a2),.ag (X4.row a3),.sc (.bool a4)] [.sc (.o 2 (Y X5.row r))]):=by
 refine⟨fun h=> ?_⟩;unfold Rz at h;refine A3 A2 h0 [10] 33 ?_;exact gc
instance C0q:Ct 180 (∀{a0} {a1} {a2} {a3} {r},OP a0 a1 a2 a3=N r→FC Z 180 [.ag (Xe.row a0),.ag (X3.row a1),.sc (.int .i64 a2),.ag (X4.row a3)] [.sc (.o 2 (Y X5.row r))]):=by
 refine⟨fun h=> ?_⟩;unfold OP at h;refine A3 A2 h0 [8] 14 ?_;exact gc
def YW:Hw:=([(8,[4,5,6,9,13,14,15],[4,5,6],[768])],[(19,6,(O,.frz 1536))])
def lG:=fun a3 (a0:Xe) (a1:X3) (a2:X4) (k_:U→(P (P X5))→Q (P (P X5)))=>∀{v1 v2} {zr},k_ v1 v2=N zr→Kh Z 149 YW 8 [4,5,6,9,13,14,15] [4,5,6] [768] ⟨[pB 4,pB 5,pB 6,pW 9 768,pL 13 rI a3,pI 14 (a3.length:U),pI 15 v1],[(4,[aI a0.Tide.Mean,aM zA a0.Tide.Parts,aM zB a0.Surges]),(5,[aM X8.row a1.Points,aM X2.row a1.Segments]),(6,(dm a2.row))],[(768,1,Y (rL X5.row) v2)]⟩ (A5 [8] [.sc (.o 1 (Y (rL X5.row) zr))])
theorem A85{a3 a0 a1 a2}{n:W}:lG a3 a0 a1 a2 (Hk a3 a0 a1 a2 n):=by
 induction n with
 | zero=>intro _ _ r h; cases h
 | succ n ih=>
  intro v1 v2 r h σ hσ;rw[Hk] at h;have s0:=fun(r5:(P X5))=> @Aw (Y (rL X5.row) ([r5]:P (P X5)))
  exact gc
instance C03:Ct 149 (∀{a0} {a1} {a2} {a3} {r},RA a0 a1 a2 a3=N r→FC Z 149 [.ag (Xe.row a0),.ag (X3.row a1),.ag (X4.row a2),.sc (.sl (Y rI a3))] [.sc (.o 1 (Y (rL X5.row) r))]):=by
 refine⟨fun h=> ?_⟩;unfold RA at h;refine A3 A2 YW [8] 29 ?_;have s0:= @Aw (Y (rL X5.row) ([]:P (P X5)));have k0:= @A85;exact gc
def Ub:Hw:=([(8,[3,8,14,15,16],[3],[832]),(32,[3,8,11,14,15,16,45],[3],[832])],[])
def lD:=fun r9 a2 v1 (a0:X3) v2 (k_:V→Q ((P U) × V))=>∀{v12} {zr},k_ v12=N zr→Kh Z 182 Ub 32 [3,8,11,14,15,16,45] [3] [832] ⟨[pB 3,pW 8 832,pI 11 r9,pL 14 rI a2,pI 15 (a2.length:U),pI 16 v1,(45,vc (aB v12))],[(3,[aM X8.row a0.Points,aM X2.row a0.Segments])],[(832,1,Y rI v2)]⟩ (A5 [6,7] [.sc (.o 1 (Y rI zr.1)),.sc (.v (.bool zr.2))])
def WT:=fun a2 (a0:X3) (k_:U→(P U)→Q ((P U) × V))=>∀{v1 v2} {zr},k_ v1 v2=N zr→Kh Z 182 Ub 8 [3,8,14,15,16] [3] [832] ⟨[pB 3,pW 8 832,pL 14 rI a2,pI 15 (a2.length:U),pI 16 v1],[(3,[aM X8.row a0.Points,aM X2.row a0.Segments])],[(832,1,Y rI v2)]⟩ (A5 [6,7] [.sc (.o 1 (Y rI zr.1)),.sc (.v (.bool zr.2))])
theorem fK{r9 a2 v1 a0 v2}{Sk}(vT:WT a2 a0 Sk):lD r9 a2 v1 a0 v2 (Hg r9 a2 v1 a0 v2 Sk):=by
 intro v12 r h σ hσ;unfold Hg at h;have s0:= @Aw (Y rI ([r9]:P U));have k0:= @vT;exact gc
theorem A87{a2 a0}{n:W}:WT a2 a0 (Ei a2 a0 n):=by
 induction n with
 | zero=>intro _ _ r h; cases h
 | succ n ih=>
  intro v1 v2 r h σ hσ S hS;refine ev hS ?_;rw[Ei] at h;refine AB (As ?_);obtain⟨h3,h⟩|⟨h3,h⟩:=ic h
  ·obtain⟨x4,h4,h⟩:=ob h;obtain⟨r5,h5,h⟩:=ob h;refine sg ?_;refine AF (Ab Gy h5) ?_;obtain⟨h6,h⟩|⟨h6,h⟩:=ic h
   ·obtain⟨x7,h7,h⟩:=ob h;obtain⟨x8,h8,h⟩:=ob h;have h8n:=Am h8;obtain⟨r9,h9,h⟩:=ob h;refine sg ?_;refine AF (Ab fC h9) ?_;refine sg ?_;obtain⟨h10,h⟩|⟨h10,h⟩:=ic h
    ·refine sg ?_;exact fK ih h sq kr
    ·obtain⟨r11,h11,h⟩:=ob h;refine sg ?_;refine AT (Ab fB h11) X (B1 X) X (uf X) ?_;refine sg ?_;exact fK ih h sq kr
   ·refine sg ?_;cases h;trivial
  ·refine sg ?_;cases h;trivial
instance C00:Ct 182 (∀{a0} {a1} {a2} {r},Hf a0 a1 a2=N r→FC Z 182 [.ag (X3.row a0),.sc (.int .i64 a1),.sc (.sl (Y rI a2))] [.sc (.o 1 (Y rI r.1)),.sc (.v (.bool r.2))]):=by
 refine⟨fun{a0} {a1} {a2} {r} h=> ?_⟩;unfold Hf at h;refine A3 A2 Ub [6,7] 52 ?_;have s0:= @Aw (Y rI ([a1]:P U));have k0:= @A87;exact gc
instance C0j:Ct 181 (∀{a0} {a1} {a2} {r},EQ a0 a1 a2=N r→FC Z 181 [.ag (X3.row a0),.sc (.int .i64 a1),.sc (.sl (Y rI a2))] [.sc (.v (.bool r))]):=by
 refine⟨fun h=> ?_⟩;unfold EQ at h;refine A3 A2 h0 [6] 29 ?_;exact gc
instance C0k:Ct 150 (∀{a0} {a1} {a2} {r},FZ a0 a1 a2=N r→FC Z 150 [.ag (X3.row a0),.sc (.int .i64 a1),.sc (.sl (Y rI a2))] [.sc (.o 1 (Y rI r))]):=by
 refine⟨fun h=> ?_⟩;unfold FZ at h;refine A3 A2 h0 [6] 22 ?_;exact gc
def YX:Hw:=([(6,[1,7,8,9],[],[])],[])
def ju:=fun a1 a0 (k_:U→Q V)=>∀{v1} {zr},k_ v1=N zr→Kh Z 183 YX 6 [1,7,8,9] [] [] ⟨[pI 1 a1,pL 7 X5.row a0,pI 8 (a0.length:U),pI 9 v1],[],[]⟩ (A5 [4] [.sc (.v (.bool zr))])
theorem A88{a1 a0}{n:W}:ju a1 a0 (Jw a1 a0 n):=by
 induction n with
 | zero=>intro _ r h; cases h
 | succ n ih=>
  intro v1 r h σ hσ;rw[Jw] at h;exact gc
instance B93:Ct 183 (∀{a0} {a1} {r},Oz a0 a1=N r→FC Z 183 [.sc (.sl (Y X5.row a0)),.sc (.int .i64 a1)] [.sc (.v (.bool r))]):=by
 refine⟨fun h=> ?_⟩;unfold Oz at h;refine A3 A2 YX [4] 20 ?_;have k0:= @A88;exact gc
def YY:Hw:=([(14,[1,10,11,12],[],[])],[])
def kb:=fun a1 a0 (k_:U→Q U)=>∀{v3} {zr},k_ v3=N zr→Kh Z 185 YY 14 [1,10,11,12] [] [] ⟨[pI 1 a1,pL 10 X5.row a0,pI 11 (a0.length:U),pI 12 v3],[],[]⟩ (A5 [4] [.sc (.v (.int .i64 zr))])
theorem A89{a1 a0}{n:W}:kb a1 a0 (Jz a1 a0 n):=by
 induction n with
 | zero=>intro _ r h; cases h
 | succ n ih=>
  intro v3 r h σ hσ;rw[Jz] at h;exact gc
instance A71:Ct 185 (∀{a0} {a1} {r},OF a0 a1=N r→FC Z 185 [.sc (.sl (Y X5.row a0)),.sc (.int .i64 a1)] [.sc (.v (.int .i64 r))]):=by
 refine⟨fun h=> ?_⟩;unfold OF at h;refine A3 A2 YY [4] 25 ?_;have k0:= @A89;exact gc
def Uc:Hw:=([(16,[2,3,4,6,7,14,15],[6,7],[1600]),(32,[2,3,4,6,7,14,15,17,73],[6,7],[1600])],[])
def lF:=fun a2 a3 a4 v4 r12 (a0:X3) (a1:X4) v5 (k_:V→Q ((P U) × V))=>∀{v17} {zr},k_ v17=N zr→Kh Z 151 Uc 32 [2,3,4,6,7,14,15,17,73] [6,7] [1600] ⟨[pL 2 rI a2,pL 3 rI a3,pL 4 (rL X5.row) a4,pB 6,pB 7,pW 14 1600,pI 15 v4,pI 17 r12,(73,vc (aB v17))],[(6,[aM X8.row a0.Points,aM X2.row a0.Segments]),(7,(dm a1.row))],[(1600,1,Y rI v5)]⟩ (A5 [12,13] [.sc (.o 1 (Y rI zr.1)),.sc (.v (.bool zr.2))])
def WW:=fun a2 a3 a4 (a0:X3) (a1:X4) (k_:U→(P U)→Q ((P U) × V))=>∀{v4 v5} {zr},k_ v4 v5=N zr→Kh Z 151 Uc 16 [2,3,4,6,7,14,15] [6,7] [1600] ⟨[pL 2 rI a2,pL 3 rI a3,pL 4 (rL X5.row) a4,pB 6,pB 7,pW 14 1600,pI 15 v4],[(6,[aM X8.row a0.Points,aM X2.row a0.Segments]),(7,(dm a1.row))],[(1600,1,Y rI v5)]⟩ (A5 [12,13] [.sc (.o 1 (Y rI zr.1)),.sc (.v (.bool zr.2))])
theorem Wf{a2 a3 a4 v4 r12 a0 a1 v5}{Sl}(vU:WW a2 a3 a4 a0 a1 Sl):lF a2 a3 a4 v4 r12 a0 a1 v5 (JP a2 a3 a4 v4 r12 a0 a1 v5 Sl):=by
 intro v17 r h σ hσ;unfold JP at h;have s0:= @Aw (Y rI ([r12]:P U));have k0:= @vU;exact gc
theorem A9a{a2 a3 a4 a0 a1}{n:W}:WW a2 a3 a4 a0 a1 (ES a2 a3 a4 a0 a1 n):=by
 induction n with
 | zero=>intro _ _ r h; cases h
 | succ n ih=>
  intro v4 v5 r h σ hσ S hS;refine ev hS ?_;rw[ES] at h;refine AB (As ?_);obtain⟨h6,h⟩|⟨h6,h⟩:=ic h
  ·obtain⟨x7,h7,h⟩:=ob h;have h7n:=Am h7;obtain⟨x8,h8,h⟩:=ob h;obtain⟨x9,h9,h⟩:=ob h;obtain⟨r10,h10,h⟩:=ob h;refine sg ?_;refine D6 (Ab Wb h10) ?_;obtain⟨x11,h11,h⟩:=ob h;obtain⟨r12,h12,h⟩:=ob h;refine sg ?_;refine AF (Ab A71 h12) ?_;refine sg ?_;obtain⟨h13,h⟩|⟨h13,h⟩:=ic h
   ·refine sg ?_;exact Wf ih h sq kr
   ·obtain⟨h14,h⟩|⟨h14,h⟩:=ic h
    ·obtain⟨x15,h15,h⟩:=ob h;obtain⟨x16,h16,h⟩:=ob h;refine sg ?_;exact Wf ih h sq kr
    ·refine sg ?_;exact Wf ih h sq kr
  ·refine sg ?_;cases h;trivial
instance A79:Ct 151 (∀{a0} {a1} {a2} {a3} {a4} {a5} {r},LP a0 a1 a2 a3 a4 a5=N r→FC Z 151 [.ag (X3.row a0),.ag (X4.row a1),.sc (.sl (Y rI a2)),.sc (.sl (Y rI a3)),.sc (.sl (Y (rL X5.row) a4)),.sc (.int .i64 a5)] [.sc (.o 1 (Y rI r.1)),.sc (.v (.bool r.2))]):=by
 refine⟨fun{a0} {a1} {a2} {a3} {a4} {a5} {r} h=> ?_⟩;unfold LP at h;refine A3 A2 Uc [12,13] 79 ?_;have s0:= @Aw (Y rI ([a5]:P U));have k0:= @A9a;exact gc
instance A7v:Ct 186 (∀{a0} {a1} {a2} {a3} {r},On a0 a1 a2 a3=N r→FC Z 186 [.ag (X3.row a0),.ag (X4.row a1),.sc (.sl (Y rI a2)),.sc (.sl (Y rI a3))] [.sc (.v (.int .i64 r))]):=by
 refine⟨fun h=> ?_⟩;unfold On at h;refine A3 A2 h0 [8] 54 ?_;exact gc
def YZ:Hw:=([(18,[1,5,6,8,13,14,39,40,41],[6,8],[2176,2432])],[])
def kg:=fun a1 a5 a4 (a0:X3) (a2:X4) r6 (k_:U→(P X1)→Q (P X1))=>∀{v7 v8} {zr},k_ v7 v8=N zr→Kh Z 187 YZ 18 [1,5,6,8,13,14,39,40,41] [6,8] [2176,2432] ⟨[pI 1 a1,pL 5 rI a5,pB 6,pB 8,pW 13 2176,pW 14 2432,pL 39 rI a4,pI 40 (a4.length:U),pI 41 v7],[(6,[aM X8.row a0.Points,aM X2.row a0.Segments]),(8,(dm a2.row))],[(2176,5,Y X1.row v8),(2432,1,Y rI r6)]⟩ (A5 [12] [.sc (.o 5 (Y X1.row zr))])
theorem A9b{a1 a5 a4 a0 a2 r6}{n:W}:kg a1 a5 a4 a0 a2 r6 (JB a1 a5 a4 a0 a2 r6 n):=by
 induction n with
 | zero=>intro _ _ r h; cases h
 | succ n ih=>
  intro v7 v8 r h σ hσ S hS;refine ev hS ?_;rw[JB] at h;refine AB (As ?_);obtain⟨h9,h⟩|⟨h9,h⟩:=ic h
  ·obtain⟨x10,h10,h⟩:=ob h;obtain⟨x11,h11,h⟩:=ob h;obtain⟨r12,h12,h⟩:=ob h;refine sg ?_;refine AF (Ab Gy h12) ?_;obtain⟨h13,h⟩|⟨h13,h⟩:=ic h
   ·obtain⟨x14,h14,h⟩:=ob h;obtain⟨x15,h15,h⟩:=ob h;have h15n:=Am h15;obtain⟨r16,h16,h⟩:=ob h;refine sg ?_;refine D6 (Ab Wb h16) ?_;refine sg ?_;refine Bc (es:=Y X1.row ([(⟨a1,x10,(x14.A==x15),x11,(IntKind.i64.wrap (x11+r16))⟩:X1)]:P X1)) ?_;obtain⟨h17,h⟩:=B2 h;refine sg ?_;exact ih h sq kr
   ·refine sg ?_;cases h;exact t0
  ·refine sg ?_;cases h;exact t0
instance A72:Ct 187 (∀{a0} {a1} {a2} {a3} {a4} {a5} {r},OI a0 a1 a2 a3 a4 a5=N r→FC Z 187 [.ag (X3.row a0),.sc (.int .i64 a1),.ag (X4.row a2),.sc (.int .i64 a3),.sc (.sl (Y rI a4)),.sc (.sl (Y rI a5))] [.sc (.o 5 (Y X1.row r))]):=by
 refine⟨fun h=> ?_⟩;unfold OI at h;refine A3 A2 YZ [12] 87 ?_;have s0:= @Aw (Y X1.row ([]:P X1));have k0:= @A9b;exact gc
def B5i:P (P W × AItem):= [([],(O,.load 65 (S 11) T 4)),([],(O,.faddr 66 (S 11) 1)),([1],(O,.load 67 (S 66) L 1)),([2],(O,.bin 68 .leq (S 67) (K 2880))),([0,0],(O,.store (S 8) (S 65) 4)),([3,4,0,1,2,3,4],(O,.mv 9 (S 68)))]
def Z1:Hw:=([(12,[4,8,10,11,46,47,48],[4,8,10,11],[2432])],[])
abbrev Qd(x2 r3 v6:U)(c0_ c1_:V)(c2_ c3_ c5_:V)(bx_:P (W × P AC))(rs_:Rows):St:=⟨[(8,vc (.pb 8 0)),(11,vc (.pb 11 0)),(65,bif c0_ then va [aI x2,aI r3,aI v6,.own 2432] else .undef),(66,bif c1_ then vc (.pb 11 1) else .undef),(67,bif c2_ then vc (aI r3) else .undef),(68,bif c3_ then vc (aB (decide (r3≤(2880:U)))) else .undef),(9,bif c5_ then vc (aB (decide (r3≤(2880:U)))) else .undef)],bx_,rs_⟩
abbrev W0(x2 r3:U)(r4:(P X1))(v6:U):St:=(Qd x2 r3 v6 T T T T T [(8,[aI x2,aI r3,aI v6,.own 2432]),(11,[aI x2,aI r3,aI v6,.own 2432])] [(2432,5,Y X1.row r4)])
def T4:=fun x2 r3 r4 v6 (f:W) (c0:V) (c1:V) (c2:V) (c3:V) (c4:V) (c5:V) c6 c7 c8 c9=>BZ Z B5i (W0 x2 r3 r4 v6) f [c0,c1,c2,c3,c4,c5] (Qd x2 r3 v6 c0 c1 c2 c3 c5 [(8,[aI c6,aI c7,aI c8,(c9)]),(11,[aI x2,aI r3,aI v6,.own 2432])] [(2432,5,Y X1.row r4)])
def aa:Prop:=True
theorem A9c{x2 r3 r4 v6}(H:aa):∀(f:W) (b1 b2:V) (b3 b5:V),T4 x2 r3 r4 v6 f T b1 b2 b3 T b5 x2 r3 v6 (.own 2432):=by
 unfold T4 Qd;intro f
 induction f with
 | zero=>
  intro b1 b2 b3 b5 h;obtain rfl:b1=T:=zD.1 h b1 (by simp);obtain rfl:b2=T:=zD.1 h b2 (by simp);obtain rfl:b3=T:=zD.1 h b3 (by simp);obtain rfl:b5=T:=zD.1 h b5 (by simp);rfl
 | succ f ih=>
  intros;refine Ag ⟨?_,?_,?_,?_,?_,?_,⟨⟩⟩<;>try exact gi
theorem A9d{x2 r3 r4 v6}(H:aa):∀(f:W) (b0 b1:V) (b2 b3:V),T4 x2 r3 r4 v6 f b0 b1 b2 b3 L L (0:U) (0:U) (0:U) .nil:=by
 unfold T4 Qd;intro f
 induction f with
 | zero=>intros; intro h; simp at h
 | succ f ih=>
  intros;refine Ag ⟨?_,?_,?_,?_,?_,?_,⟨⟩⟩<;>try exact gi
  ·intro h0 hw;obtain rfl:=hq hw 0 rfl rfl;refine np ?_;try simp only[A7,A8,A4,C,E,F,G,I,J]
   exact A9c H ..
def lO:=fun a2 (a0:X6) (x1:X4) x2 r3 r4 (k_:U→U→Q (X0 × V))=>∀{v5 v6} {zr},k_ v5 v6=N zr→Kh Z 152 Z1 12 [4,8,10,11,46,47,48] [4,8,10,11] [2432] ⟨[pB 4,pB 8,pB 10,pB 11,pL 46 rI a2,pI 47 (a2.length:U),pI 48 v5],[(4,([aI a0.Forecast.Tide.Mean,aM zA a0.Forecast.Tide.Parts,aM zB a0.Forecast.Surges,aM X8.row a0.Chart.Points,aM X2.row a0.Chart.Segments,aM X4.row a0.Fleet,aI a0.Regime.Gap,aB a0.Regime.NoMeet]++dm a0.Crew.row)),(8,[aI (0:U),aI (0:U),aI (0:U),.nil]),(10,(dm x1.row)),(11,[aI x2,aI r3,aI v6,.own 2432])],[(2432,5,Y X1.row r4)]⟩ (A5 [.c 8 T 4,9] [.ag [.v (.int .i64 zr.1.Start),.v (.int .i64 zr.1.Arrival),.v (.int .i64 zr.1.Cost),.o 5 (Y X1.row zr.1.Passages)],.sc (.v (.bool zr.2))])
theorem A9e{a2 a0 x1 x2 r3 r4}{n:W}:lO a2 a0 x1 x2 r3 r4 (Hu a2 a0 x1 x2 r3 r4 n):=by
 induction n with
 | zero=>intro _ _ r h; cases h
 | succ n ih=>
  intro v5 v6 r h σ hσ S hS;refine ev hS ?_;rw[Hu] at h;refine AB (As ?_);obtain⟨h7,h⟩|⟨h7,h⟩:=ic h
  ·obtain⟨x8,h8,h⟩:=ob h;obtain⟨x9,h9,h⟩:=ob h;obtain⟨r10,h10,h⟩:=ob h;refine sg ?_;refine D6 (Ab Wb h10) ?_;refine sg ?_;exact ih h sq kr
  ·refine sg ?_;refine Em (ks:= [8,11]) (bs:= [8,11]) (rs:= [2432]) (τ:=(W0 x2 r3 r4 v6)) X (A9d ⟨⟩ _ L L L L) ?_;simp only[W0,Qd,A7];refine sg ?_;cases h;try simp only[Q5,C,E,F,G,I,J]
   trivial
instance A8d:Ct 152 (∀{a0} {a1} {a2} {a3} {r},P4 a0 a1 a2 a3=N r→FC Z 152 [.ag (X6.row a0),.ag (zE a1),.sc (.sl (Y rI a2)),.sc (.sl (Y rI a3))] [.ag [.v (.int .i64 r.1.Start),.v (.int .i64 r.1.Arrival),.v (.int .i64 r.1.Cost),.o 5 (Y X1.row r.1.Passages)],.sc (.v (.bool r.2))]):=by
 refine⟨fun{a0} {a1} {a2} {a3} {r} h=> ?_⟩;unfold P4 at h;refine A3 A2 Z1 [.c 8 T 4,9] 69 ?_;intro S hS;refine ev hS ?_;obtain⟨x1,h1,h⟩:=ob h;obtain⟨x2,h2,h⟩:=ob h;obtain⟨r3,h3,h⟩:=ob h;refine sg ?_;refine D6 (Ab A7v h3) ?_;obtain⟨r4,h4,h⟩:=ob h;refine sg ?_;refine D6 (Ab A72 h4) ?_;refine sg ?_;refine U6 (m:= .box 11 [aI (0:U),aI (0:U),aI (0:U),.nil]) X X (Su X X) ?_;refine sg ?_;exact A9e h sq kr
def Ud:Hw:=([(32,[2,3,5,7,8,9,10,11],[2,3,7],[2816,3200,3264]),(56,[2,3,5,7,8,9,10,11],[2,3,7],[2816,3200,3264])],[(54,2,(O,.frz 5315))])
def kf:=fun(r3:(P U) × V) v8 (a0:X6) (a1:Xc) (x5:X4) r6 r7 (k_:(P X0)→Q (P X0))=>∀{v17} {zr},k_ v17=N zr→Kh Z 109 Ud 56 [2,3,5,7,8,9,10,11] [2,3,7] [2816,3200,3264] ⟨[pB 2,pB 3,pL 5 rI r3.1,pB 7,pW 8 2816,pW 9 3200,pW 10 3264,pI 11 v8],[(2,([aI a0.Forecast.Tide.Mean,aM zA a0.Forecast.Tide.Parts,aM zB a0.Forecast.Surges,aM X8.row a0.Chart.Points,aM X2.row a0.Chart.Segments,aM X4.row a0.Fleet,aI a0.Regime.Gap,aB a0.Regime.NoMeet]++dm a0.Crew.row)),(3,(dm a1.row)),(7,(dm x5.row))],[(2816,1,Y (rL X5.row) r6),(3200,1,Y rI r7),(3264,4,Y X0.row v17)]⟩ (A5 [4] [.sc (.o 4 (Y X0.row zr))])
def WQ:=fun(r3:(P U) × V) (a0:X6) (a1:Xc) (x5:X4) r6 r7 (k_:U→(P X0)→Q (P X0))=>∀{v8 v9} {zr},k_ v8 v9=N zr→Kh Z 109 Ud 32 [2,3,5,7,8,9,10,11] [2,3,7] [2816,3200,3264] ⟨[pB 2,pB 3,pL 5 rI r3.1,pB 7,pW 8 2816,pW 9 3200,pW 10 3264,pI 11 v8],[(2,([aI a0.Forecast.Tide.Mean,aM zA a0.Forecast.Tide.Parts,aM zB a0.Forecast.Surges,aM X8.row a0.Chart.Points,aM X2.row a0.Chart.Segments,aM X4.row a0.Fleet,aI a0.Regime.Gap,aB a0.Regime.NoMeet]++dm a0.Crew.row)),(3,(dm a1.row)),(7,(dm x5.row))],[(2816,1,Y (rL X5.row) r6),(3200,1,Y rI r7),(3264,4,Y X0.row v9)]⟩ (A5 [4] [.sc (.o 4 (Y X0.row zr))])
theorem Wg{r3 v8 a0 a1 x5 r6 r7}{Si}(vQ:WQ r3 a0 a1 x5 r6 r7 Si):kf r3 v8 a0 a1 x5 r6 r7 (JA r3 v8 a0 a1 x5 r6 r7 Si):=by
 intro v17 r h σ hσ;unfold JA at h;have k0:= @vQ;exact gc
theorem A9f{r3 a0 a1 x5 r6 r7}{n:W}:WQ r3 a0 a1 x5 r6 r7 (FY r3 a0 a1 x5 r6 r7 n):=by
 induction n with
 | zero=>intro _ _ r h; cases h
 | succ n ih=>
  intro v8 v9 r h σ hσ S hS;refine ev hS ?_;rw[FY] at h;refine AB (As ?_);obtain⟨h10,h⟩|⟨h10,h⟩:=ic h
  ·obtain⟨h11,h⟩|⟨h11,h⟩:=ic h
   ·obtain⟨r12,h12,h⟩:=ob h;refine sg ?_;refine AT (Ab A79 h12) X (BD X ⟨AN,X,⟨⟩⟩) X (uf X) ?_;obtain⟨h13,h⟩|⟨h13,h⟩:=ic h
    ·obtain⟨r14,h14,h⟩:=ob h;refine sg ?_;refine AT (Ab A8d h14) X (BD X ⟨X,X,X,AN,X,⟨⟩⟩) X (uf X) ?_;refine sg ?_;obtain⟨h15,h⟩|⟨h15,h⟩:=ic h
     ·refine sg ?_;refine Bc (es:=Y X0.row ([r14.1]:P X0)) ?_;obtain⟨h16,h⟩:=B2 h;refine sg ?_;exact Wg ih h sq kr
     ·refine sg ?_;exact Wg ih h sq kr
    ·refine sg ?_;exact Wg ih h sq kr
   ·refine sg ?_;cases h;exact t0
  ·refine sg ?_;cases h;exact t0
instance C0c:Ct 109 (∀{a0} {a1} {r},OG a0 a1=N r→FC Z 109 [.ag (X6.row a0),.ag (zE a1)] [.sc (.o 4 (Y X0.row r))]):=by
 refine⟨fun h=> ?_⟩;unfold OG at h;refine A3 A2 Ud [4] 92 ?_;have s0:= @Aw (Y X0.row ([]:P X0));have k0:= @A9f;exact gc
def Z2:Hw:=([(6,[2,7,8,9],[2],[])],[])
def jv:=fun a1 (a0:X1) (k_:U→Q V)=>∀{v1} {zr},k_ v1=N zr→Kh Z 153 Z2 6 [2,7,8,9] [2] [] ⟨[pB 2,pL 7 X7.row a1,pI 8 (a1.length:U),pI 9 v1],[(2,(dm a0.row))],[]⟩ (A5 [4] [.sc (.v (.bool zr))])
theorem A9g{a1 a0}{n:W}:jv a1 a0 (H9 a1 a0 n):=by
 induction n with
 | zero=>intro _ r h; cases h
 | succ n ih=>
  intro v1 r h σ hσ;rw[H9] at h;exact gc
instance B94:Ct 153 (∀{a0} {a1} {r},Rt a0 a1=N r→FC Z 153 [.ag (X1.row a0),.sc (.sl (Y X7.row a1))] [.sc (.v (.bool r))]):=by
 refine⟨fun h=> ?_⟩;unfold Rt at h;refine A3 A2 Z2 [4] 32 ?_;have k0:= @A9g;exact gc
def Z3:Hw:=([(6,[1,8,9,10],[],[])],[])
def ku:=fun a1 (a0:X0) (k_:U→Q V)=>∀{v1} {zr},k_ v1=N zr→Kh Z 110 Z3 6 [1,8,9,10] [] [] ⟨[pL 1 X7.row a1,pL 8 X1.row a0.Passages,pI 9 (a0.Passages.length:U),pI 10 v1],[],[]⟩ (A5 [4] [.sc (.v (.bool zr))])
theorem A9i{a1 a0}{n:W}:ku a1 a0 (JH a1 a0 n):=by
 induction n with
 | zero=>intro _ r h; cases h
 | succ n ih=>
  intro v1 r h σ hσ;rw[JH] at h;exact gc
instance A74:Ct 110 (∀{a0} {a1} {r},Rw a0 a1=N r→FC Z 110 [.ag (X0.row a0),.sc (.sl (Y X7.row a1))] [.sc (.v (.bool r))]):=by
 refine⟨fun h=> ?_⟩;unfold Rw at h;refine A3 A2 Z3 [4] 18 ?_;have k0:= @A9i;exact gc
def Z4:Hw:=([(16,[2,7,24,25,26],[],[1344,1536])],[])
def ke:=fun a2 r5 (k_:U→(P X0)→Q (P X0))=>∀{v6 v7} {zr},k_ v6 v7=N zr→Kh Z 66 Z4 16 [2,7,24,25,26] [] [1344,1536] ⟨[pL 2 X7.row a2,pW 7 1344,pW 24 1536,pI 25 (r5.length:U),pI 26 v6],[],[(1344,4,Y X0.row v7),(1536,4,Y X0.row r5)]⟩ (A5 [6] [.sc (.o 4 (Y X0.row zr))])
theorem A9j{a2 r5}{n:W}:ke a2 r5 (Eg a2 r5 n):=by
 induction n with
 | zero=>intro _ _ r h; cases h
 | succ n ih=>
  intro v6 v7 r h σ hσ S hS;refine ev hS ?_;rw[Eg] at h;refine AB (As ?_);obtain⟨h8,h⟩|⟨h8,h⟩:=ic h
  ·obtain⟨x9,h9,h⟩:=ob h;have h9n:=Am h9;obtain⟨r10,h10,h⟩:=ob h;refine sg ?_;refine AF (Ab A74 h10) ?_;obtain⟨h11,h⟩|⟨h11,h⟩:=ic h
   ·refine sg ?_;exact ih h sq kr
   ·refine sg ?_;refine Bc (es:=Y X0.row ([x9]:P X0)) ?_;obtain⟨h12,h⟩:=B2 h;refine sg ?_;exact ih h sq kr
  ·refine sg ?_;cases h;exact t0
instance C0b:Ct 66 (∀{a0} {a1} {a2} {r},FX a0 a1 a2=N r→FC Z 66 [.ag (X6.row a0),.ag (zE a1),.sc (.sl (Y X7.row a2))] [.sc (.o 4 (Y X0.row r))]):=by
 refine⟨fun h=> ?_⟩;unfold FX at h;refine A3 A2 Z4 [6] 40 ?_;have s0:= @Aw (Y X0.row ([]:P X0));have k0:= @A9j;exact gc
def Z5:Hw:=([(8,[2,3,7,11,12,13],[3],[640])],[(19,5,(O,.frz 1344))])
def lU:=fun a2 a1 (a0:X6) (k_:U→(P (P X0))→Q (P (P X0)))=>∀{v1 v2} {zr},k_ v1 v2=N zr→Kh Z 27 Z5 8 [2,3,7,11,12,13] [3] [640] ⟨[pL 2 X7.row a2,pB 3,pW 7 640,pL 11 zE a1,pI 12 (a1.length:U),pI 13 v1],[(3,([aI a0.Forecast.Tide.Mean,aM zA a0.Forecast.Tide.Parts,aM zB a0.Forecast.Surges,aM X8.row a0.Chart.Points,aM X2.row a0.Chart.Segments,aM X4.row a0.Fleet,aI a0.Regime.Gap,aB a0.Regime.NoMeet]++dm a0.Crew.row))],[(640,1,Y (rL X0.row) v2)]⟩ (A5 [6] [.sc (.o 1 (Y (rL X0.row) zr))])
theorem A9k{a2 a1 a0}{n:W}:lU a2 a1 a0 (JT a2 a1 a0 n):=by
 induction n with
 | zero=>intro _ _ r h; cases h
 | succ n ih=>
  intro v1 v2 r h σ hσ;rw[JT] at h;have s0:=fun(r5:(P X0))=> @Aw (Y (rL X0.row) ([r5]:P (P X0)))
  exact gc
instance C1a:Ct 27 (∀{a0} {a1} {a2} {r},RF a0 a1 a2=N r→FC Z 27 [.ag (X6.row a0),.sc (.sl (Y zE a1)),.sc (.sl (Y X7.row a2))] [.sc (.o 1 (Y (rL X0.row) r))]):=by
 refine⟨fun h=> ?_⟩;unfold RF at h;refine A3 A2 Z5 [6] 26 ?_;have s0:= @Aw (Y (rL X0.row) ([]:P (P X0)));have k0:= @A9k;exact gc
instance C0d:Ct 188 (∀{a0} {a1} {r},LJ a0 a1=N r→FC Z 188 [.ag (X1.row a0),.ag (X1.row a1)] [.sc (.v (.bool r))]):=by
 refine⟨fun h=> ?_⟩;unfold LJ at h;refine A3 A2 h0 [4] 16 ?_;exact gc
def Z6:Hw:=([(14,[2,7,8],[],[])],[])
def lH:=fun a2 (k_:U→U→Q V)=>∀{v3 v4} {zr},k_ v3 v4=N zr→Kh Z 189 Z6 14 [2,7,8] [] [] ⟨[pI 2 a2,pI 7 v3,pI 8 v4],[],[]⟩ (A5 [6] [.sc (.v (.bool zr))])
theorem A9l{a2}:lH a2 (P1 a2):=by
 intro v3 v4 r h σ hσ;unfold P1 at h;exact gc
instance C04:Ct 189 (∀{a0} {a1} {a2} {r},LQ a0 a1 a2=N r→FC Z 189 [.sc (.int .i64 a0),.sc (.int .i64 a1),.sc (.int .i64 a2)] [.sc (.v (.bool r))]):=by
 refine⟨fun h=> ?_⟩;unfold LQ at h;refine A3 A2 Z6 [6] 28 ?_;have k0:= @A9l;exact gc
instance B9w:Ct 154 (∀{a0} {a1} {a2} {a3} {r},Ow a0 a1 a2 a3=N r→FC Z 154 [.ag (X3.row a0),.ag (Xj.row a1),.ag (X1.row a2),.ag (X1.row a3)] [.sc (.v (.int .i64 r))]):=by
 refine⟨fun h=> ?_⟩;unfold Ow at h;refine A3 A2 h0 [8] 108 ?_;exact gc
def Ue:Hw:=([(6,[3,4,5,13,14,15],[4,5],[]),(20,[3,4,5,10,13,14,15,19,20,21],[4,5,10],[])],[])
def ji:=fun a3 a2 v1 (a0:X3) (a1:Xj) (x3:X1) (k_:U→Q V)=>∀{v4} {zr},k_ v4=N zr→Kh Z 111 Ue 20 [3,4,5,10,13,14,15,19,20,21] [4,5,10] [] ⟨[pL 3 X1.row a3,pB 4,pB 5,pB 10,pL 13 X1.row a2,pI 14 (a2.length:U),pI 15 v1,pL 19 X1.row a3,pI 20 (a3.length:U),pI 21 v4],[(4,[aM X8.row a0.Points,aM X2.row a0.Segments]),(5,(dm a1.row)),(10,(dm x3.row))],[]⟩ (A5 [8] [.sc (.v (.bool zr))])
def WP:=fun a3 a2 (a0:X3) (a1:Xj) (k_:U→Q V)=>∀{v1} {zr},k_ v1=N zr→Kh Z 111 Ue 6 [3,4,5,13,14,15] [4,5] [] ⟨[pL 3 X1.row a3,pB 4,pB 5,pL 13 X1.row a2,pI 14 (a2.length:U),pI 15 v1],[(4,[aM X8.row a0.Points,aM X2.row a0.Segments]),(5,(dm a1.row))],[]⟩ (A5 [8] [.sc (.v (.bool zr))])
theorem A9m{a3 a2 v1 a0 a1 x3}{PE}(vP:WP a3 a2 a0 a1 PE){n:W}:ji a3 a2 v1 a0 a1 x3 (Jp a3 a2 v1 a0 a1 x3 PE n):=by
 induction n with
 | zero=>intro _ r h; cases h
 | succ n ih=>
  intro v4 r h σ hσ;rw[Jp] at h;have k0:= @vP;exact gc
theorem A9n{a3 a2 a0 a1}{n:W}:WP a3 a2 a0 a1 (FW a3 a2 a0 a1 n):=by
 induction n with
 | zero=>intro _ r h; cases h
 | succ n ih=>
  intro v1 r h σ hσ;rw[FW] at h;have k0:= @A9m;exact gc
instance B9u:Ct 111 (∀{a0} {a1} {a2} {a3} {r},Ou a0 a1 a2 a3=N r→FC Z 111 [.ag (X3.row a0),.ag (Xj.row a1),.sc (.sl (Y X1.row a2)),.sc (.sl (Y X1.row a3))] [.sc (.v (.bool r))]):=by
 refine⟨fun h=> ?_⟩;unfold Ou at h;refine A3 A2 Ue [8] 33 ?_;have k0:= @A9n;exact gc
def Pg:Hw:=([(8,[1,2,5,18,19,20],[2],[1088]),(25,[1,2,5,7,8,18,19,20,25,26,27],[2],[1088,1536]),(42,[1,2,5,7,8,10,11,18,19,20,25,26,27,32,33,34],[2],[1088,1536,1984]),(59,[1,2,5,7,8,10,11,13,14,18,19,20,25,26,27,32,33,34,39,40,41],[2,13],[1088,1536,1984,2432])],[(72,2,(O,.frz 2432)),(74,2,(O,.frz 1984)),(76,2,(O,.frz 1536))])
def lQ:=fun a1 x4 x8 v1 v5 v9 (a0:X6) (x12:X0) v2 v6 v10 (k_:U→(P V)→Q (P (P (P (P V)))))=>∀{v13 v14} {zr},k_ v13 v14=N zr→Kh Z 67 Pg 59 [1,2,5,7,8,10,11,13,14,18,19,20,25,26,27,32,33,34,39,40,41] [2,13] [1088,1536,1984,2432] ⟨[pL 1 (rL X0.row) a1,pB 2,pW 5 1088,pL 7 X0.row x4,pW 8 1536,pL 10 X0.row x8,pW 11 1984,pB 13,pW 14 2432,pL 18 (rL X0.row) a1,pI 19 (a1.length:U),pI 20 v1,pL 25 (rL X0.row) a1,pI 26 (a1.length:U),pI 27 v5,pL 32 X0.row x4,pI 33 (x4.length:U),pI 34 v9,pL 39 X0.row x8,pI 40 (x8.length:U),pI 41 v13],[(2,([aI a0.Forecast.Tide.Mean,aM zA a0.Forecast.Tide.Parts,aM zB a0.Forecast.Surges,aM X8.row a0.Chart.Points,aM X2.row a0.Chart.Segments,aM X4.row a0.Fleet,aI a0.Regime.Gap,aB a0.Regime.NoMeet]++dm a0.Crew.row)),(13,(dm x12.row))],[(1088,1,Y (rL (rL (rL rB))) v2),(1536,1,Y (rL (rL rB)) v6),(1984,1,Y (rL rB) v10),(2432,1,Y rB v14)]⟩ (A5 [4] [.sc (.o 1 (Y (rL (rL (rL rB))) zr))])
def Xu:=fun a1 x4 x8 v1 v5 (a0:X6) v2 v6 (k_:U→(P (P V))→Q (P (P (P (P V)))))=>∀{v9 v10} {zr},k_ v9 v10=N zr→Kh Z 67 Pg 42 [1,2,5,7,8,10,11,18,19,20,25,26,27,32,33,34] [2] [1088,1536,1984] ⟨[pL 1 (rL X0.row) a1,pB 2,pW 5 1088,pL 7 X0.row x4,pW 8 1536,pL 10 X0.row x8,pW 11 1984,pL 18 (rL X0.row) a1,pI 19 (a1.length:U),pI 20 v1,pL 25 (rL X0.row) a1,pI 26 (a1.length:U),pI 27 v5,pL 32 X0.row x4,pI 33 (x4.length:U),pI 34 v9],[(2,([aI a0.Forecast.Tide.Mean,aM zA a0.Forecast.Tide.Parts,aM zB a0.Forecast.Surges,aM X8.row a0.Chart.Points,aM X2.row a0.Chart.Segments,aM X4.row a0.Fleet,aI a0.Regime.Gap,aB a0.Regime.NoMeet]++dm a0.Crew.row))],[(1088,1,Y (rL (rL (rL rB))) v2),(1536,1,Y (rL (rL rB)) v6),(1984,1,Y (rL rB) v10)]⟩ (A5 [4] [.sc (.o 1 (Y (rL (rL (rL rB))) zr))])
def Xt:=fun a1 x4 v1 (a0:X6) v2 (k_:U→(P (P (P V)))→Q (P (P (P (P V)))))=>∀{v5 v6} {zr},k_ v5 v6=N zr→Kh Z 67 Pg 25 [1,2,5,7,8,18,19,20,25,26,27] [2] [1088,1536] ⟨[pL 1 (rL X0.row) a1,pB 2,pW 5 1088,pL 7 X0.row x4,pW 8 1536,pL 18 (rL X0.row) a1,pI 19 (a1.length:U),pI 20 v1,pL 25 (rL X0.row) a1,pI 26 (a1.length:U),pI 27 v5],[(2,([aI a0.Forecast.Tide.Mean,aM zA a0.Forecast.Tide.Parts,aM zB a0.Forecast.Surges,aM X8.row a0.Chart.Points,aM X2.row a0.Chart.Segments,aM X4.row a0.Fleet,aI a0.Regime.Gap,aB a0.Regime.NoMeet]++dm a0.Crew.row))],[(1088,1,Y (rL (rL (rL rB))) v2),(1536,1,Y (rL (rL rB)) v6)]⟩ (A5 [4] [.sc (.o 1 (Y (rL (rL (rL rB))) zr))])
def WZ:=fun a1 (a0:X6) (k_:U→(P (P (P (P V))))→Q (P (P (P (P V)))))=>∀{v1 v2} {zr},k_ v1 v2=N zr→Kh Z 67 Pg 8 [1,2,5,18,19,20] [2] [1088] ⟨[pL 1 (rL X0.row) a1,pB 2,pW 5 1088,pL 18 (rL X0.row) a1,pI 19 (a1.length:U),pI 20 v1],[(2,([aI a0.Forecast.Tide.Mean,aM zA a0.Forecast.Tide.Parts,aM zB a0.Forecast.Surges,aM X8.row a0.Chart.Points,aM X2.row a0.Chart.Segments,aM X4.row a0.Fleet,aI a0.Regime.Gap,aB a0.Regime.NoMeet]++dm a0.Crew.row))],[(1088,1,Y (rL (rL (rL rB))) v2)]⟩ (A5 [4] [.sc (.o 1 (Y (rL (rL (rL rB))) zr))])
theorem A9o{a1 x4 x8 v1 v5 v9 a0 x12 v2 v6 v10}{PK}(vZ:Xu a1 x4 x8 v1 v5 a0 v2 v6 PK){n:W}:lQ a1 x4 x8 v1 v5 v9 a0 x12 v2 v6 v10 (JS a1 x4 x8 v1 v5 v9 a0 x12 v2 v6 v10 PK n):=by
 induction n with
 | zero=>intro _ _ r h; cases h
 | succ n ih=>
  intro v13 v14 r h σ hσ;rw[JS] at h;have s0:=fun(r17:V)=> @Aw (Y rB ([r17]:P V))
  have s1:= @Aw (Y (rL rB) ([v14]:P (P V)));have k0:= @vZ;exact gc
theorem A9p{a1 x4 x8 v1 v5 a0 v2 v6}{PJ}(vY:Xt a1 x4 v1 a0 v2 PJ){n:W}:Xu a1 x4 x8 v1 v5 a0 v2 v6 (G7 a1 x4 x8 v1 v5 a0 v2 v6 PJ n):=by
 induction n with
 | zero=>intro _ _ r h; cases h
 | succ n ih=>
  intro v9 v10 r h σ hσ;rw[G7] at h;have s0:= @Aw (Y rB ([]:P V));have s1:= @Aw (Y (rL (rL rB)) ([v10]:P (P (P V))));have k0:= @A9o; have k1:= @vY;exact gc
theorem A9q{a1 x4 v1 a0 v2}{PI}(vX:WZ a1 a0 PI){n:W}:Xt a1 x4 v1 a0 v2 (Ek a1 x4 v1 a0 v2 PI n):=by
 induction n with
 | zero=>intro _ _ r h; cases h
 | succ n ih=>
  intro v5 v6 r h σ hσ;rw[Ek] at h;have s0:= @Aw (Y (rL rB) ([]:P (P V)));have s1:= @Aw (Y (rL (rL (rL rB))) ([v6]:P (P (P (P V)))));have k0:= @A9p; have k1:= @vX;exact gc
theorem A9r{a1 a0}{n:W}:WZ a1 a0 (Do a1 a0 n):=by
 induction n with
 | zero=>intro _ _ r h; cases h
 | succ n ih=>
  intro v1 v2 r h σ hσ;rw[Do] at h;have s0:= @Aw (Y (rL (rL rB)) ([]:P (P (P V))));have k0:= @A9q;exact gc
instance A8e:Ct 67 (∀{a0} {a1} {r},P6 a0 a1=N r→FC Z 67 [.ag (X6.row a0),.sc (.sl (Y (rL X0.row) a1))] [.sc (.o 1 (Y (rL (rL (rL rB))) r))]):=by
 refine⟨fun h=> ?_⟩;unfold P6 at h;refine A3 A2 Pg [4] 74 ?_;have s0:= @Aw (Y (rL (rL (rL rB))) ([]:P (P (P (P V)))));have k0:= @A9r;exact gc
def Uf:Hw:=([(8,[0,3,6,7,8],[],[]),(21,[0,3,4,6,7,8,24],[],[])],[])
def jh:=fun a0 v1 v2 (k_:V→Q U)=>∀{v7} {zr},k_ v7=N zr→Kh Z 68 Uf 21 [0,3,4,6,7,8,24] [] [] ⟨[pL 0 X0.row a0,pI 3 v1,pI 4 v2,pL 6 X0.row a0,pI 7 (a0.length:U),pI 8 v2,(24,vc (aB v7))],[],[]⟩ (A5 [2] [.sc (.v (.int .i64 zr))])
def WO:=fun a0 (k_:U→U→Q U)=>∀{v1 v2} {zr},k_ v1 v2=N zr→Kh Z 68 Uf 8 [0,3,6,7,8] [] [] ⟨[pL 0 X0.row a0,pI 3 v1,pL 6 X0.row a0,pI 7 (a0.length:U),pI 8 v2],[],[]⟩ (A5 [2] [.sc (.v (.int .i64 zr))])
theorem fL{a0 v1 v2}{PD}(vO:WO a0 PD):jh a0 v1 v2 (Ot a0 v1 v2 PD):=by
 intro v7 r h σ hσ;unfold Ot at h;have k0:= @vO;exact gc
theorem A9s{a0}{n:W}:WO a0 (FV a0 n):=by
 induction n with
 | zero=>intro _ _ r h; cases h
 | succ n ih=>
  intro v1 v2 r h σ hσ S hS;refine ev hS ?_;rw[FV] at h;refine AB (As ?_);obtain⟨h3,h⟩|⟨h3,h⟩:=ic h
  ·obtain⟨x4,h4,h⟩:=ob h;refine sg ?_;obtain⟨h5,h⟩|⟨h5,h⟩:=ic h
   ·refine sg ?_;exact fL ih h sq kr
   ·obtain⟨x6,h6,h⟩:=ob h;refine sg ?_;exact fL ih h sq kr
  ·refine sg ?_;cases h;exact t0
instance A7y:Ct 68 (∀{a0} {r},Rq a0=N r→FC Z 68 [.sc (.sl (Y X0.row a0))] [.sc (.v (.int .i64 r))]):=by
 refine⟨fun h=> ?_⟩;unfold Rq at h;refine A3 A2 Uf [2] 28 ?_;have k0:= @A9s;exact gc
def Z8:Hw:=([(8,[3,7,8,9],[],[384])],[(19,5,(O,.frz 896))])
def je:=fun a0 (k_:U→(P (P X1))→Q (P (P X1)))=>∀{v1 v2} {zr},k_ v1 v2=N zr→Kh Z 113 Z8 8 [3,7,8,9] [] [384] ⟨[pW 3 384,pL 7 X0.row a0,pI 8 (a0.length:U),pI 9 v1],[],[(384,1,Y (rL X1.row) v2)]⟩ (A5 [2] [.sc (.o 1 (Y (rL X1.row) zr))])
theorem A9t{a0}{n:W}:je a0 (Jm a0 n):=by
 induction n with
 | zero=>intro _ _ r h; cases h
 | succ n ih=>
  intro v1 v2 r h σ hσ;rw[Jm] at h;have s0:= @Aw (Y X1.row ([]:P X1));have s1:=fun(x4:X0)=> @Aw (Y (rL X1.row) ([x4.Passages]:P (P X1)))
  exact gc
instance A7w:Ct 113 (∀{a0} {r},Lz a0=N r→FC Z 113 [.sc (.sl (Y X0.row a0))] [.sc (.o 1 (Y (rL X1.row) r))]):=by
 refine⟨fun h=> ?_⟩;unfold Lz at h;refine A3 A2 Z8 [2] 22 ?_;have s0:= @Aw (Y (rL X1.row) ([]:P (P X1)));have k0:= @A9t;exact gc
instance C0f:Ct 211 (∀{a0} {a1} {a2} {r},LK a0 a1 a2=N r→FC Z 211 [.ag (X3.row a0),.sc (.sl (Y X4.row a1)),.ag (X1.row a2)] [.sc (.v (.bool r))]):=by
 refine⟨fun h=> ?_⟩;unfold LK at h;refine A3 A2 h0 [6] 60 ?_;exact gc
instance fD:Ct 212 (∀{a0} {a1} {r},G4 a0 a1=N r→FC Z 212 [.ag (X3.row a0),.ag (X1.row a1)] [.sc (.v (.int .i64 r.1)),.sc (.v (.int .i64 r.2))]):=by
 refine⟨fun h=> ?_⟩;unfold G4 at h;refine A3 A2 h0 [4,5] 23 ?_;exact gc
def Ug:Hw:=([(8,[1,3,8,15,16,17],[3],[896]),(33,[1,3,8,10,11,12,13,15,16,17],[3,10],[896])],[])
def lN:=fun a1 (r7:U × U) a2 v1 (a0:X3) (x4:X1) (k_:U→(P Xb)→Q ((P Xb) × V))=>∀{v8 v9} {zr},k_ v8 v9=N zr→Kh Z 190 Ug 33 [1,3,8,10,11,12,13,15,16,17] [3,10] [896] ⟨[pL 1 X4.row a1,pB 3,pW 8 896,pB 10,pI 11 r7.1,pI 12 r7.2,pI 13 v8,pL 15 X1.row a2,pI 16 (a2.length:U),pI 17 v1],[(3,[aM X8.row a0.Points,aM X2.row a0.Segments]),(10,(dm x4.row))],[(896,4,Y zC v9)]⟩ (A5 [6,7] [.sc (.o 4 (Y zC zr.1)),.sc (.v (.bool zr.2))])
def WY:=fun a1 a2 (a0:X3) (k_:U→(P Xb)→Q ((P Xb) × V))=>∀{v1 v2} {zr},k_ v1 v2=N zr→Kh Z 190 Ug 8 [1,3,8,15,16,17] [3] [896] ⟨[pL 1 X4.row a1,pB 3,pW 8 896,pL 15 X1.row a2,pI 16 (a2.length:U),pI 17 v1],[(3,[aM X8.row a0.Points,aM X2.row a0.Segments])],[(896,4,Y zC v2)]⟩ (A5 [6,7] [.sc (.o 4 (Y zC zr.1)),.sc (.v (.bool zr.2))])
theorem A9v{a1 r7 a2 v1 a0 x4}{PH}(vW:WY a1 a2 a0 PH){n:W}:lN a1 r7 a2 v1 a0 x4 (Ht a1 r7 a2 v1 a0 x4 PH n):=by
 induction n with
 | zero=>intro _ _ r h; cases h
 | succ n ih=>
  intro v8 v9 r h σ hσ;rw[Ht] at h;have s0:= @Aw (Y zC ([(⟨x4.Start,x4.End,r7.1,r7.2⟩:Xb)]:P Xb));have k0:= @vW;exact gc
theorem A9w{a1 a2 a0}{n:W}:WY a1 a2 a0 (G6 a1 a2 a0 n):=by
 induction n with
 | zero=>intro _ _ r h; cases h
 | succ n ih=>
  intro v1 v2 r h σ hσ;rw[G6] at h;have k0:= @A9v;exact gc
instance C08:Ct 190 (∀{a0} {a1} {a2} {r},RD a0 a1 a2=N r→FC Z 190 [.ag (X3.row a0),.sc (.sl (Y X4.row a1)),.sc (.sl (Y X1.row a2))] [.sc (.o 4 (Y zC r.1)),.sc (.v (.bool r.2))]):=by
 refine⟨fun h=> ?_⟩;unfold RD at h;refine A3 A2 Ug [6,7] 57 ?_;have s0:= @Aw (Y zC ([]:P Xb));have k0:= @A9w;exact gc
instance C06:Ct 235 (∀{a0} {r},JQ a0=N r→FC Z 235 [.ag (zC a0)] [.sc (.v (.bool r))]):=by
 refine⟨fun h=> ?_⟩;unfold JQ at h;refine A3 A2 h0 [2] 28 ?_;exact gc
def Z9:Hw:=([(14,[8,9,10],[],[])],[])
def jo:=fun a0 (k_:U→Q V)=>∀{v2} {zr},k_ v2=N zr→Kh Z 213 Z9 14 [8,9,10] [] [] ⟨[pL 8 zC a0,pI 9 (a0.length:U),pI 10 v2],[],[]⟩ (A5 [2] [.sc (.v (.bool zr))])
theorem A9x{a0}{n:W}:jo a0 (Ju a0 n):=by
 induction n with
 | zero=>intro _ r h; cases h
 | succ n ih=>
  intro v2 r h σ hσ;rw[Ju] at h;exact gc
instance B9y:Ct 213 (∀{a0} {r},Oy a0=N r→FC Z 213 [.sc (.sl (Y zC a0))] [.sc (.v (.bool r))]):=by
 refine⟨fun h=> ?_⟩;unfold Oy at h;refine A3 A2 Z9 [2] 18 ?_;have k0:= @A9x;exact gc
def Za:Hw:=([(5,[0,1,6,7,25],[6,7],[])],[])
def jr:=fun a0 a1 (a2:Xb) (a3:Xb) (k_:V→Q (U × V))=>∀{v6} {zr},k_ v6=N zr→Kh Z 250 Za 5 [0,1,6,7,25] [6,7] [] ⟨[pI 0 a0,pL 1 rI a1,pB 6,pB 7,(25,vc (aB v6))],[(6,(dm a2.row)),(7,(dm a3.row))],[]⟩ (A5 [8,9] [.sc (.v (.int .i64 zr.1)),.sc (.v (.bool zr.2))])
theorem A9y{a0 a1 a2 a3}:jr a0 a1 a2 a3 (LF a0 a1 a2 a3):=by
 intro v6 r h σ hσ;unfold LF at h;exact gc
instance B91:Ct 250 (∀{a0} {a1} {a2} {a3} {r},Rr a0 a1 a2 a3=N r→FC Z 250 [.sc (.int .i64 a0),.sc (.sl (Y rI a1)),.ag (zC a2),.ag (zC a3)] [.sc (.v (.int .i64 r.1)),.sc (.v (.bool r.2))]):=by
 refine⟨fun h=> ?_⟩;unfold Rr at h;refine A3 A2 Za [8,9] 37 ?_;have k0:= @A9y;exact gc
instance B9t:Ct 236 (∀{a0} {a1} {a2} {a3} {r},Ly a0 a1 a2 a3=N r→FC Z 236 [.sc (.int .i64 a0),.sc (.sl (Y rI a1)),.ag (zC a2),.ag (zC a3)] [.sc (.v (.bool r))]):=by
 refine⟨fun h=> ?_⟩;unfold Ly at h;refine A3 A2 h0 [8] 37 ?_;exact gc
def Uh:Hw:=([(8,[0,1,2,7,14,15,16],[],[832]),(25,[0,1,2,7,9,10,14,15,16,21,22,23],[9],[832,1280])],[(38,2,(O,.frz 1280))])
def lI:=fun a0 a1 a2 v1 (x4:Xb) v2 (k_:U→(P V)→Q (P (P V)))=>∀{v5 v6} {zr},k_ v5 v6=N zr→Kh Z 214 Uh 25 [0,1,2,7,9,10,14,15,16,21,22,23] [9] [832,1280] ⟨[pI 0 a0,pL 1 rI a1,pL 2 zC a2,pW 7 832,pB 9,pW 10 1280,pL 14 zC a2,pI 15 (a2.length:U),pI 16 v1,pL 21 zC a2,pI 22 (a2.length:U),pI 23 v5],[(9,(dm x4.row))],[(832,1,Y (rL rB) v2),(1280,1,Y rB v6)]⟩ (A5 [6] [.sc (.o 1 (Y (rL rB) zr))])
def WX:=fun a0 a1 a2 (k_:U→(P (P V))→Q (P (P V)))=>∀{v1 v2} {zr},k_ v1 v2=N zr→Kh Z 214 Uh 8 [0,1,2,7,14,15,16] [] [832] ⟨[pI 0 a0,pL 1 rI a1,pL 2 zC a2,pW 7 832,pL 14 zC a2,pI 15 (a2.length:U),pI 16 v1],[],[(832,1,Y (rL rB) v2)]⟩ (A5 [6] [.sc (.o 1 (Y (rL rB) zr))])
theorem A9z{a0 a1 a2 v1 x4 v2}{Ma}(vV:WX a0 a1 a2 Ma){n:W}:lI a0 a1 a2 v1 x4 v2 (Hm a0 a1 a2 v1 x4 v2 Ma n):=by
 induction n with
 | zero=>intro _ _ r h; cases h
 | succ n ih=>
  intro v5 v6 r h σ hσ;rw[Hm] at h;have s0:= @Aw (Y rB ([T]:P V));have s1:=fun(r12:V)=> @Aw (Y rB ([r12]:P V))
  have s2:= @Aw (Y (rL rB) ([v6]:P (P V)));have k0:= @vV;exact gc
theorem A90{a0 a1 a2}{n:W}:WX a0 a1 a2 (G5 a0 a1 a2 n):=by
 induction n with
 | zero=>intro _ _ r h; cases h
 | succ n ih=>
  intro v1 v2 r h σ hσ;rw[G5] at h;have s0:= @Aw (Y rB ([]:P V));have k0:= @A9z;exact gc
instance C05:Ct 214 (∀{a0} {a1} {a2} {r},P2 a0 a1 a2=N r→FC Z 214 [.sc (.int .i64 a0),.sc (.sl (Y rI a1)),.sc (.sl (Y zC a2))] [.sc (.o 1 (Y (rL rB) r))]):=by
 refine⟨fun h=> ?_⟩;unfold P2 at h;refine A3 A2 Uh [6] 49 ?_;have s0:= @Aw (Y (rL rB) ([]:P (P V)));have k0:= @A90;exact gc
def Ph:Hw:=([(16,[0,1,2,8,23,24,25],[],[]),(33,[0,1,2,8,11],[],[]),(48,[0,1,2,8,11,12,44,45,46],[],[]),(80,[0,1,2,8,11],[],[])],[(72,8,(O,.frz 4480))])
def lL:=fun a0 a1 a2 v2 v6 (k_:Q ((P U) × V))=>∀{zr},k_=N zr→Kh Z 215 Ph 80 [0,1,2,8,11] [] [] ⟨[pL 0 (rL rB) a0,pL 1 rI a1,pI 2 a2,pI 8 v2,pI 11 v6],[],[]⟩ (A5 [6,7] [.sc (.v (.sl (Y rI zr.1))),.sc (.v (.bool zr.2))])
def lK:=fun a0 a1 a2 v2 v6 (k_:V→U→Q ((P U) × V))=>∀{v9 v10} {zr},k_ v9 v10=N zr→Kh Z 215 Ph 48 [0,1,2,8,11,12,44,45,46] [] [] ⟨[pL 0 (rL rB) a0,pL 1 rI a1,pI 2 a2,pI 8 v2,pI 11 v6,(12,vc (aB v9)),pL 44 rI a1,pI 45 (a1.length:U),pI 46 v10],[],[]⟩ (A5 [6,7] [.sc (.v (.sl (Y rI zr.1))),.sc (.v (.bool zr.2))])
def Tc:=fun a0 a1 a2 v2 (k_:U→Q ((P U) × V))=>∀{v6} {zr},k_ v6=N zr→Kh Z 215 Ph 33 [0,1,2,8,11] [] [] ⟨[pL 0 (rL rB) a0,pL 1 rI a1,pI 2 a2,pI 8 v2,pI 11 v6],[],[]⟩ (A5 [6,7] [.sc (.v (.sl (Y rI zr.1))),.sc (.v (.bool zr.2))])
def lJ:=fun a0 a1 a2 (k_:U→U→Q ((P U) × V))=>∀{v2 v3} {zr},k_ v2 v3=N zr→Kh Z 215 Ph 16 [0,1,2,8,23,24,25] [] [] ⟨[pL 0 (rL rB) a0,pL 1 rI a1,pI 2 a2,pI 8 v2,pL 23 rI a1,pI 24 (a1.length:U),pI 25 v3],[],[]⟩ (A5 [6,7] [.sc (.v (.sl (Y rI zr.1))),.sc (.v (.bool zr.2))])
theorem A91{rec_:(P (P V))→(P U)→U→Q ((P U) × V)}(h_rec:∀(a0:P (P V)) (a1:P U) (a2:U) zr,rec_ a0 a1 a2=N zr→FC Z 215 [.sc (.sl (Y (rL rB) a0)),.sc (.sl (Y rI a1)),.sc (.int .i64 a2)] [.sc (.v (.sl (Y rI zr.1))),.sc (.v (.bool zr.2))]){a0 a1 a2 v2 v6}{Du}(aY:Tc a0 a1 a2 v2 Du):lL a0 a1 a2 v2 v6 (LR rec_ a0 a1 a2 v2 v6 Du):=by
 intro r h σ hσ;unfold LR at h;have:Ct 215 _:=⟨h_rec⟩;have k0:= @aY;exact gc
theorem A92{rec_:(P (P V))→(P U)→U→Q ((P U) × V)}(h_rec:∀(a0:P (P V)) (a1:P U) (a2:U) zr,rec_ a0 a1 a2=N zr→FC Z 215 [.sc (.sl (Y (rL rB) a0)),.sc (.sl (Y rI a1)),.sc (.int .i64 a2)] [.sc (.v (.sl (Y rI zr.1))),.sc (.v (.bool zr.2))]){a0 a1 a2 v2 v6}{Du}(aY:Tc a0 a1 a2 v2 Du){n:W}:lK a0 a1 a2 v2 v6 (DH rec_ a0 a1 a2 v2 v6 Du n):=by
 induction n with
 | zero=>intro _ _ r h; cases h
 | succ n ih=>
  intro v9 v10 r h σ hσ;rw[DH] at h;have:Ct 215 _:=⟨h_rec⟩;have s0:= @Aw (Y rI ([]:P U));have s1:= @Aw (Y rI ([v6]:P U));have k0:= @A91;exact gc
theorem A93{rec_:(P (P V))→(P U)→U→Q ((P U) × V)}(h_rec:∀(a0:P (P V)) (a1:P U) (a2:U) zr,rec_ a0 a1 a2=N zr→FC Z 215 [.sc (.sl (Y (rL rB) a0)),.sc (.sl (Y rI a1)),.sc (.int .i64 a2)] [.sc (.v (.sl (Y rI zr.1))),.sc (.v (.bool zr.2))]){a0 a1 a2 v2}{n:W}:Tc a0 a1 a2 v2 (Ej rec_ a0 a1 a2 v2 n):=by
 induction n with
 | zero=>intro _ r h; cases h
 | succ n ih=>
  intro v6 r h σ hσ;rw[Ej] at h;have:Ct 215 _:=⟨h_rec⟩;have k0:= @A92;exact gc
theorem A94{rec_:(P (P V))→(P U)→U→Q ((P U) × V)}(h_rec:∀(a0:P (P V)) (a1:P U) (a2:U) zr,rec_ a0 a1 a2=N zr→FC Z 215 [.sc (.sl (Y (rL rB) a0)),.sc (.sl (Y rI a1)),.sc (.int .i64 a2)] [.sc (.v (.sl (Y rI zr.1))),.sc (.v (.bool zr.2))]){a0 a1 a2}{n:W}:lJ a0 a1 a2 (Hn rec_ a0 a1 a2 n):=by
 induction n with
 | zero=>intro _ _ r h; cases h
 | succ n ih=>
  intro v2 v3 r h σ hσ;rw[Hn] at h;have:Ct 215 _:=⟨h_rec⟩;have k0:= @A93;exact gc
theorem A8b(rec_:(P (P V))→(P U)→U→Q ((P U) × V))(a0:P (P V))(a1:P U)(a2:U)(r:(P U) × V)(h_rec:∀(a0:P (P V)) (a1:P U) (a2:U) zr,rec_ a0 a1 a2=N zr→FC Z 215 [.sc (.sl (Y (rL rB) a0)),.sc (.sl (Y rI a1)),.sc (.int .i64 a2)] [.sc (.v (.sl (Y rI zr.1))),.sc (.v (.bool zr.2))])(h:P3 rec_ a0 a1 a2=N r):FC Z 215 [.sc (.sl (Y (rL rB) a0)),.sc (.sl (Y rI a1)),.sc (.int .i64 a2)] [.sc (.v (.sl (Y rI r.1))),.sc (.v (.bool r.2))]:=by
 unfold P3 at h;refine A3 A2 Ph [6,7] 82 ?_;have:Ct 215 _:=⟨h_rec⟩;have k0:= @A94;exact gc
theorem A8c:∀(n:W) (a0:P (P V)) (a1:P U) (a2:U) (r:(P U) × V),Cr n a0 a1 a2=N r→FC Z 215 [.sc (.sl (Y (rL rB) a0)),.sc (.sl (Y rI a1)),.sc (.int .i64 a2)] [.sc (.v (.sl (Y rI r.1))),.sc (.v (.bool r.2))]:=by
 intro n
 induction n with
 | zero=>intro _ _ _ r h; cases h
 | succ n ih=>intro a0 a1 a2 r h; rw[Cr] at h; exact A8b (Cr n) a0 a1 a2 r ih h
theorem A8a{a0}{a1}{a2}{r}(h:RB a0 a1 a2=N r):FC Z 215 [.sc (.sl (Y (rL rB) a0)),.sc (.sl (Y rI a1)),.sc (.int .i64 a2)] [.sc (.v (.sl (Y rI r.1))),.sc (.v (.bool r.2))]:=A8c bigN a0 a1 a2 r h
def Ui:Hw:=([(5,[0,1,2,21],[],[]),(16,[2,9,10],[],[])],[(11,4,(O,.frz 1600)),(26,3,(O,.frz 2176))])
def ka:=fun a2 r6 (k_:U→Q ((P U) × U × V))=>∀{v7} {zr},k_ v7=N zr→Kh Z 191 Ui 16 [2,9,10] [] [] ⟨[pL 2 zC a2,pL 9 (rL rB) r6,pI 10 v7],[],[]⟩ (A5 [6,7,8] [.sc (.v (.sl (Y rI zr.1))),.sc (.v (.int .i64 zr.2.1)),.sc (.v (.bool zr.2.2))])
def jz:=fun a0 a1 a2 (k_:V→Q ((P U) × U × V))=>∀{v4} {zr},k_ v4=N zr→Kh Z 191 Ui 5 [0,1,2,21] [] [] ⟨[pI 0 a0,pL 1 rI a1,pL 2 zC a2,(21,vc (aB v4))],[],[]⟩ (A5 [6,7,8] [.sc (.v (.sl (Y rI zr.1))),.sc (.v (.int .i64 zr.2.1)),.sc (.v (.bool zr.2.2))])
theorem A95{a2 r6}{n:W}:ka a2 r6 (Jy a2 r6 n):=by
 induction n with
 | zero=>intro _ r h; cases h
 | succ n ih=>
  intro v7 r h σ hσ S hS;refine ev hS ?_;rw[Jy] at h;refine AB (As ?_);obtain⟨h8,h⟩|⟨h8,h⟩:=ic h
  ·refine sg ?_;refine Bc (es:=Y rI ([]:P U)) ?_;obtain⟨r9,h9,h⟩:=ob h;refine sg ?_;refine AF (A8a h9) ?_;obtain⟨h10,h⟩|⟨h10,h⟩:=ic h
   ·refine sg ?_;cases h;trivial
   ·refine sg ?_;exact ih h sq kr
  ·refine sg ?_;cases h;trivial
theorem A96{a0 a1 a2}:jz a0 a1 a2 (OD a0 a1 a2):=by
 intro v4 r h σ hσ;unfold OD at h;have k0:= @A95;exact gc
instance B97:Ct 191 (∀{a0} {a1} {a2} {r},Jx a0 a1 a2=N r→FC Z 191 [.sc (.int .i64 a0),.sc (.sl (Y rI a1)),.sc (.sl (Y zC a2))] [.sc (.v (.sl (Y rI r.1))),.sc (.v (.int .i64 r.2.1)),.sc (.v (.bool r.2.2))]):=by
 refine⟨fun h=> ?_⟩;unfold Jx at h;refine A3 A2 Ui [6,7,8] 42 ?_;have k0:= @A96;exact gc
def ux:Hw:=([],[(13,3,(O,.frz 1152))])
instance A75:Ct 155 (∀{a0} {a1} {a2} {a3} {r},LL a0 a1 a2 a3=N r→FC Z 155 [.ag (Xo.row a0),.ag (X3.row a1),.sc (.sl (Y X4.row a2)),.sc (.sl (Y X1.row a3))] [.sc (.v (.int .i64 r))]):=by
 refine⟨fun h=> ?_⟩;unfold LL at h;refine A3 A2 ux [8] 39 ?_;exact gc
def Zc:Hw:=([(14,[1,2,14,15,16],[2],[])],[])
def jw:=fun a1 (a0:X3) (k_:U→Q V)=>∀{v3} {zr},k_ v3=N zr→Kh Z 216 Zc 14 [1,2,14,15,16] [2] [] ⟨[pL 1 X1.row a1,pB 2,pL 14 X1.row a1,pI 15 (a1.length:U),pI 16 v3],[(2,[aM X8.row a0.Points,aM X2.row a0.Segments])],[]⟩ (A5 [4] [.sc (.v (.bool zr))])
theorem A98{a1 a0}{n:W}:jw a1 a0 (Ha a1 a0 n):=by
 induction n with
 | zero=>intro _ r h; cases h
 | succ n ih=>
  intro v3 r h σ hσ S hS;refine ev hS ?_;rw[Ha] at h;refine AB (As ?_);obtain⟨h4,h⟩|⟨h4,h⟩:=ic h
  ·obtain⟨x5,h5,h⟩:=ob h;refine sg ?_;obtain⟨x6,h6,h⟩:=ob h;obtain⟨h7,h⟩|⟨h7,h⟩:=ic h
   ·refine sg ?_;refine Pe (by first | rfl | kernel_rfl) X ?_;refine sg ?_;cases h;exact t0
   ·obtain⟨r9,h9,h⟩:=ob h;refine sg ?_;refine Pf (by first | rfl | kernel_rfl) ?_;refine AF (Ab Gy h9) ?_;refine sg ?_;obtain⟨h10,h⟩|⟨h10,h⟩:=ic h
    ·obtain⟨h11,h⟩|⟨h11,h⟩:=ic h
     ·refine sg ?_;exact ih h sq kr
     ·obtain⟨r12,h12,h⟩:=ob h;refine sg ?_;refine AF (Ab fD h12) ?_;obtain⟨x13,h13,h⟩:=ob h;obtain⟨r14,h14,h⟩:=ob h;refine sg ?_;refine AF (Ab fD h14) ?_;refine sg ?_;obtain⟨h15,h⟩|⟨h15,h⟩:=ic h
      ·refine sg ?_;cases h;exact t0
      ·obtain⟨h16,h⟩|⟨h16,h⟩:=ic h
       ·refine sg ?_;cases h;exact t0
       ·refine sg ?_;exact ih h sq kr
    ·refine sg ?_;cases h;exact t0
  ·refine sg ?_;cases h;exact t0
instance B95:Ct 216 (∀{a0} {a1} {r},OA a0 a1=N r→FC Z 216 [.ag (X3.row a0),.sc (.sl (Y X1.row a1))] [.sc (.v (.bool r))]):=by
 refine⟨fun h=> ?_⟩;unfold OA at h;refine A3 A2 Zc [4] 71 ?_;have k0:= @A98;exact gc
def Uj:Hw:=([(5,[1,2,3,6,23],[3,6],[]),(14,[1,2,3,6,25,26,27],[3,6],[])],[])
def ki:=fun a1 a2 (a0:X3) (k_:U→Q (Xb × V))=>∀{v5} {zr},k_ v5=N zr→Kh Z 192 Uj 14 [1,2,3,6,25,26,27] [3,6] [] ⟨[pL 1 X4.row a1,pL 2 X1.row a2,pB 3,pB 6,pL 25 X1.row a2,pI 26 (a2.length:U),pI 27 v5],[(3,[aM X8.row a0.Points,aM X2.row a0.Segments]),(6,[aI (0:U),aI (0:U),aI (0:U),aI (0:U)])],[]⟩ (A5 [.c 6 T 4,7] [.ag [.v (.int .i64 zr.1.From),.v (.int .i64 zr.1.To),.v (.int .i64 zr.1.A),.v (.int .i64 zr.1.B)],.sc (.v (.bool zr.2))])
def kh:=fun a1 a2 (a0:X3) (k_:V→Q (Xb × V))=>∀{v3} {zr},k_ v3=N zr→Kh Z 192 Uj 5 [1,2,3,6,23] [3,6] [] ⟨[pL 1 X4.row a1,pL 2 X1.row a2,pB 3,pB 6,(23,vc (aB v3))],[(3,[aM X8.row a0.Points,aM X2.row a0.Segments]),(6,[aI (0:U),aI (0:U),aI (0:U),aI (0:U)])],[]⟩ (A5 [.c 6 T 4,7] [.ag [.v (.int .i64 zr.1.From),.v (.int .i64 zr.1.To),.v (.int .i64 zr.1.A),.v (.int .i64 zr.1.B)],.sc (.v (.bool zr.2))])
theorem A99{a1 a2 a0}{n:W}:ki a1 a2 a0 (JC a1 a2 a0 n):=by
 induction n with
 | zero=>intro _ r h; cases h
 | succ n ih=>
  intro v5 r h σ hσ;rw[JC] at h;exact gc
theorem B0a{a1 a2 a0}:kh a1 a2 a0 (OK a1 a2 a0):=by
 intro v3 r h σ hσ;unfold OK at h;have k0:= @A99;exact gc
instance C0g:Ct 192 (∀{a0} {a1} {a2} {r},OJ a0 a1 a2=N r→FC Z 192 [.ag (X3.row a0),.sc (.sl (Y X4.row a1)),.sc (.sl (Y X1.row a2))] [.ag [.v (.int .i64 r.1.From),.v (.int .i64 r.1.To),.v (.int .i64 r.1.A),.v (.int .i64 r.1.B)],.sc (.v (.bool r.2))]):=by
 refine⟨fun h=> ?_⟩;unfold OJ at h;refine A3 A2 Uj [.c 6 T 4,7] 67 ?_;have k0:= @B0a;exact gc
def Zd:Hw:=([(16,[2,4,5,9,21,22,23],[4,5],[1280])],[(46,5,(O,.frz 1280))])
def kj:=fun a2 a3 (a0:Xo) (a1:X3) (k_:U→(P Xb)→Q U)=>∀{v3 v4} {zr},k_ v3 v4=N zr→Kh Z 156 Zd 16 [2,4,5,9,21,22,23] [4,5] [1280] ⟨[pL 2 X4.row a2,pB 4,pB 5,pW 9 1280,pL 21 (rL X1.row) a3,pI 22 (a3.length:U),pI 23 v3],[(4,(dm a0.row)),(5,[aM X8.row a1.Points,aM X2.row a1.Segments])],[(1280,4,Y zC v4)]⟩ (A5 [8] [.sc (.v (.int .i64 zr))])
theorem B0b{a2 a3 a0 a1}{n:W}:kj a2 a3 a0 a1 (Hc a2 a3 a0 a1 n):=by
 induction n with
 | zero=>intro _ _ r h; cases h
 | succ n ih=>
  intro v3 v4 r h σ hσ;rw[Hc] at h;have s0:=fun(r9:Xb × V)=> @Aw (Y zC ([r9.1]:P Xb))
  exact gc
instance A73:Ct 156 (∀{a0} {a1} {a2} {a3} {r},OL a0 a1 a2 a3=N r→FC Z 156 [.ag (Xo.row a0),.ag (X3.row a1),.sc (.sl (Y X4.row a2)),.sc (.sl (Y (rL X1.row) a3))] [.sc (.v (.int .i64 r))]):=by
 refine⟨fun h=> ?_⟩;unfold OL at h;refine A3 A2 Zd [8] 57 ?_;have s0:= @Aw (Y zC ([]:P Xb));have k0:= @B0b;exact gc
def Ze:Hw:=([(8,[2,3,4,5,9,13,14,15],[4,5],[768])],[])
def jm:=fun a2 a3 (a0:Xo) (a1:X3) (k_:U→(P X1)→Q V)=>∀{v1 v2} {zr},k_ v1 v2=N zr→Kh Z 112 Ze 8 [2,3,4,5,9,13,14,15] [4,5] [768] ⟨[pL 2 X4.row a2,pL 3 (rL X1.row) a3,pB 4,pB 5,pW 9 768,pL 13 (rL X1.row) a3,pI 14 (a3.length:U),pI 15 v1],[(4,(dm a0.row)),(5,[aM X8.row a1.Points,aM X2.row a1.Segments])],[(768,5,Y X1.row v2)]⟩ (A5 [8] [.sc (.v (.bool zr))])
theorem B0c{a2 a3 a0 a1}{n:W}:jm a2 a3 a0 a1 (Jt a2 a3 a0 a1 n):=by
 induction n with
 | zero=>intro _ _ r h; cases h
 | succ n ih=>
  intro v1 v2 r h σ hσ S hS;refine ev hS ?_;rw[Jt] at h;refine AB (As ?_);obtain⟨h3,h⟩|⟨h3,h⟩:=ic h
  ·obtain⟨x4,h4,h⟩:=ob h;obtain⟨h5,h⟩:=B2 h;refine sg ?_;exact ih h sq kr
  ·obtain⟨r6,h6,h⟩:=ob h;refine sg ?_;refine U5 (Ab A75 h6) (by first | rfl | kernel_rfl) (B1 X) X (uf X) ?_;obtain⟨r7,h7,h⟩:=ob h;refine sg ?_;refine AF (Ab Gy h7) ?_;refine sg ?_;obtain⟨h8,h⟩|⟨h8,h⟩:=ic h
   ·obtain⟨r9,h9,h⟩:=ob h;refine sg ?_;refine D6 (Ab A73 h9) ?_;obtain⟨r10,h10,h⟩:=ob h;refine sg ?_;refine Pf (by first | rfl | kernel_rfl) ?_;refine AF (Ab Gy h10) ?_;refine sg ?_;cases h;exact t0
   ·refine sg ?_;refine Pe (by first | rfl | kernel_rfl) X ?_;refine sg ?_;cases h;exact t0
instance A70:Ct 112 (∀{a0} {a1} {a2} {a3} {r},Ox a0 a1 a2 a3=N r→FC Z 112 [.ag (Xo.row a0),.ag (X3.row a1),.sc (.sl (Y X4.row a2)),.sc (.sl (Y (rL X1.row) a3))] [.sc (.v (.bool r))]):=by
 refine⟨fun h=> ?_⟩;unfold Ox at h;refine A3 A2 Ze [8] 41 ?_;have s0:= @Aw (Y X1.row ([]:P X1));have k0:= @B0c;exact gc
def B5j:P (P W × AItem):= [([],(O,.mv 135 (S 0))),([],(O,.bslice 136 1 [.int .i64 0] 0 [])),([],(O,.mv 137 (S 1))),([1,2],(O,.app 138 1 8 (S 136) (S 137))),([],(O,.mv 139 (S 10))),([4],(O,.bslice 140 1 [.int .i64 0] 1 [(0,(S 139))])),([3,5,3],(O,.app 141 1 8 (S 138) (S 140))),([],(O,.mv 142 (S 2))),([],(O,.faddr 143 (S 11) 2)),([8],(O,.load 144 (S 143) L 1)),([7,9],(O,.bin 145 .add (S 142) (S 144))),([0,6,10,6],(O,.call 146 69 [(S 135),(S 141),(S 145)]))]
def M0:Hw:=([(8,[0,1,2,6],[99999999999],[90000]),(18,[0,1,2,7,45,46,47],[99999999999],[90000,2816]),(46,[0,1,2,6,103,104,105],[99999999999],[90000]),(63,[0,1,2,6,10,11,12,103,104,105,110,111,112],[99999999999,11],[90000])],[(33,0,(O,.frz 2816))])
abbrev EA(a1:P U)(a2 v18:U)(x17:P X0)(x38:X0)(wo1_ wo3_ wo6_:AV)(c0_ c1_:V)(c2_ c3_:V)(c4_ c5_:V)(c6_ c7_:V)(c8_ c9_:V)(c10_ c11_:V)(bx_:P (W × P AC))(rs_:Rows):St:=⟨[(0,vc (.pb 99999999999 0)),(1,vc (aL (Y rI a1))),(2,vc (aI a2)),(6,vc (aI (a1.length:U))),(10,vc (aI v18)),(11,vc (.pb 11 0)),(103,vc (aL (Y X0.row x17))),(104,vc (aI (x17.length:U))),(105,vc (aI v18)),(135,bif c0_ then vc (.pb 99999999999 0) else .undef),(136,bif c1_ then wo1_ else .undef),(137,bif c2_ then vc (aL (Y rI a1)) else .undef),(138,bif c3_ then wo3_ else .undef),(139,bif c4_ then vc (aI v18) else .undef),(140,bif c5_ then vc (.own 8960) else .undef),(141,bif c6_ then wo6_ else .undef),(142,bif c7_ then vc (aI a2) else .undef),(143,bif c8_ then vc (.pb 11 2) else .undef),(144,bif c9_ then vc (aI x38.Cost) else .undef),(145,bif c10_ then vc (aI (IntKind.i64.wrap (a2+x38.Cost))) else .undef),(146,bif c11_ then .tup [] else .undef)],bx_,rs_⟩
abbrev W1(a1:P U)(a2 v18:U)(x17:P X0)(x38:X0)(r51:Xf):St:=(EA a1 a2 v18 x17 x38 (vc (.undef)) (vc (.undef)) (vc (aL (Y rI (a1++([v18]:P U))))) T T T T T T T T T T T T [(99999999999,([aI r51.h.Forecast.Tide.Mean,aL (Y zA r51.h.Forecast.Tide.Parts),aL (Y zB r51.h.Forecast.Surges),aL (Y X8.row r51.h.Chart.Points),aL (Y X2.row r51.h.Chart.Segments),aL (Y X4.row r51.h.Fleet),aI r51.h.Regime.Gap,aB r51.h.Regime.NoMeet]++dm r51.h.Crew.row++ [aL (Y (rL X0.row) r51.lists),aL (Y (rL (rL (rL rB))) r51.clash),aL (Y rI r51.rest),.own 90000,aI r51.cost,aB r51.found])),(11,(dm x38.row))] [(90000,1,Y rI r51.best),(8960,1,Y rI ([v18]:P U))])
def CT:=fun(a1:P U) a2 v18 (x17:P X0) (x38:X0) r51 (f:W) (c0:V) (c1:V) (c2:V) (c3:V) (c4:V) (c5:V) (c6:V) (c7:V) (c8:V) (c9:V) (c10:V) (c11:V) c12 c13 c14 c15 c16=>BZ Z B5j (W1 a1 a2 v18 x17 x38 r51) f [c0,c1,c2,c3,c4,c5,c6,c7,c8,c9,c10,c11] (EA a1 a2 v18 x17 x38 (vc ((c12))) (vc ((c13))) (vc ((c14))) c0 c1 c2 c3 c4 c5 c6 c7 c8 c9 c10 c11 [(99999999999,c15),(11,(dm x38.row))] c16)
def HB:=fun(rec_:Xf→(P U)→U→Q Xf) (a1:P U) a2 v18 v19 v20 v21 v22 v23 v24 v25 v26 v27 v28 v29 v30 v31 v32 v33 v34 v35 (x38:X0) v36 r51=>(∀(a0:Xf) (a1:P U) (a2:U) zr,rec_ a0 a1 a2=N zr→FCz Z 69 [.p,.d (.sc (.sl (Y rI a1))),.d (.sc (.int .i64 a2))] (BX a0) (BY a0) (BX zr) (BY zr) [])∧((Ad ([]:P U).length a1.length 8)=T)∧((Ad a1.length ([v18]:P U).length 8)=T)∧(rec_ (⟨(⟨(⟨(⟨v19,v20⟩:Xn),v21⟩:Xe),(⟨v22,v23⟩:X3),v24,(⟨v25,v26⟩:Xj),(⟨v27,v28,v29,v30⟩:Xo)⟩:X6),v31,v32,v33,v36,v34,v35⟩:Xf) (a1++([v18]:P U)) (IntKind.i64.wrap (a2+x38.Cost))=N r51)
theorem B0d{rec_ a1 a2 v18 x17 v19 v20 v21 v22 v23 v24 v25 v26 v27 v28 v29 v30 v31 v32 v33 v34 v35 x38 v36 r51}(H:HB rec_ a1 a2 v18 v19 v20 v21 v22 v23 v24 v25 v26 v27 v28 v29 v30 v31 v32 v33 v34 v35 x38 v36 r51):∀(f:W) (b7 b8 b9:V),CT a1 a2 v18 x17 x38 r51 f T T T T T T T b7 b8 b9 T T .undef .undef (aL (Y rI (a1++([v18]:P U)))) ([aI r51.h.Forecast.Tide.Mean,aL (Y zA r51.h.Forecast.Tide.Parts),aL (Y zB r51.h.Forecast.Surges),aL (Y X8.row r51.h.Chart.Points),aL (Y X2.row r51.h.Chart.Segments),aL (Y X4.row r51.h.Fleet),aI r51.h.Regime.Gap,aB r51.h.Regime.NoMeet]++dm r51.h.Crew.row++ [aL (Y (rL X0.row) r51.lists),aL (Y (rL (rL (rL rB))) r51.clash),aL (Y rI r51.rest),.own 90000,aI r51.cost,aB r51.found]) [(90000,1,Y rI r51.best),(8960,1,Y rI ([v18]:P U))]:=by
 obtain⟨h_rec,h49,h50,h51⟩:=id H;unfold CT EA;intro f
 induction f with
 | zero=>
  intro b7 b8 b9 h;obtain rfl:b7=T:=zD.1 h b7 (by simp);obtain rfl:b8=T:=zD.1 h b8 (by simp);obtain rfl:b9=T:=zD.1 h b9 (by simp);rfl
 | succ f ih=>
  intros;refine Ag ⟨?_,?_,?_,?_,?_,?_,?_,?_,?_,?_,?_,?_,⟨⟩⟩<;>try exact gi
theorem B0e{rec_ a1 a2 v18 x17 v19 v20 v21 v22 v23 v24 v25 v26 v27 v28 v29 v30 v31 v32 v33 v34 v35 x38 v36 r51}(H:HB rec_ a1 a2 v18 v19 v20 v21 v22 v23 v24 v25 v26 v27 v28 v29 v30 v31 v32 v33 v34 v35 x38 v36 r51):∀(f:W) (b0 b7:V) (b8 b9 b10:V),CT a1 a2 v18 x17 x38 r51 f b0 T T T T T T b7 b8 b9 b10 L .undef .undef (.own 8704) [aI v19,aL (Y zA v20),aL (Y zB v21),aL (Y X8.row v22),aL (Y X2.row v23),aL (Y X4.row v24),aI v25,aB v26,aI v27,aI v28,aI v29,aL (Y rI v30),aL (Y (rL X0.row) v31),aL (Y (rL (rL (rL rB))) v32),aL (Y rI v33),.own 90000,aI v34,aB v35] [(90000,1,Y rI v36),(8704,1,Y rI (a1++([v18]:P U))),(8960,1,Y rI ([v18]:P U))]:=by
 obtain⟨h_rec,hg49,hg50,hr51⟩:=id H;unfold CT EA;intro f
 induction f with
 | zero=>intros; intro h; simp at h
 | succ f ih=>
  intros;refine Ag ⟨?_,?_,?_,?_,?_,?_,?_,?_,?_,?_,?_,?_,⟨⟩⟩<;>try exact gi
  ·intro h0 hw;obtain rfl:=hq hw 0 rfl rfl;obtain rfl:=hq hw 10 rfl rfl;refine⟨[(O,.frz 8704)],[],X,X,?_⟩;try simp only[A7,A8,List.nil_append,List.cons_append,A4,C,E,F,G,I,J]
   refine El ?_;try simp only[A4,C,E,F,G,I,J]
   refine HA (h_rec _ _ _ _ hr51) 99999999999 [90000] rfl X X X (by decide) X X X ?_;try simp only[A4,C,E,F,G,I,J]
   exact B0d H ..
theorem fM{rec_ a1 a2 v18 x17 v19 v20 v21 v22 v23 v24 v25 v26 v27 v28 v29 v30 v31 v32 v33 v34 v35 x38 v36 r51}(H:HB rec_ a1 a2 v18 v19 v20 v21 v22 v23 v24 v25 v26 v27 v28 v29 v30 v31 v32 v33 v34 v35 x38 v36 r51):∀(f:W) (b0 b7:V) (b8 b9 b10:V),CT a1 a2 v18 x17 x38 r51 f b0 T T T T T L b7 b8 b9 b10 L .undef (.own 8704) (.own 8704) [aI v19,aL (Y zA v20),aL (Y zB v21),aL (Y X8.row v22),aL (Y X2.row v23),aL (Y X4.row v24),aI v25,aB v26,aI v27,aI v28,aI v29,aL (Y rI v30),aL (Y (rL X0.row) v31),aL (Y (rL (rL (rL rB))) v32),aL (Y rI v33),.own 90000,aI v34,aB v35] [(90000,1,Y rI v36),(8704,1,Y rI a1),(8960,1,Y rI ([v18]:P U))]:=by
 obtain⟨h_rec,hg49,hg50,hr51⟩:=id H;unfold CT EA;intro f
 induction f with
 | zero=>intros; intro h; simp at h
 | succ f ih=>
  intros;refine Ag ⟨?_,?_,?_,?_,?_,?_,?_,?_,?_,?_,?_,?_,⟨⟩⟩<;>try exact gi
  ·intro h0 hw;refine np ?_;try simp only[hg50,A7,A8,A4,C,E,F,G,I,J]
   exact B0e H ..
theorem B0f{rec_ a1 a2 v18 x17 v19 v20 v21 v22 v23 v24 v25 v26 v27 v28 v29 v30 v31 v32 v33 v34 v35 x38 v36 r51}(H:HB rec_ a1 a2 v18 v19 v20 v21 v22 v23 v24 v25 v26 v27 v28 v29 v30 v31 v32 v33 v34 v35 x38 v36 r51):∀(f:W) (b0 b4:V) (b7 b8:V) (b9 b10:V),CT a1 a2 v18 x17 x38 r51 f b0 T T T b4 L L b7 b8 b9 b10 L .undef (.own 8704) (.own 8704) [aI v19,aL (Y zA v20),aL (Y zB v21),aL (Y X8.row v22),aL (Y X2.row v23),aL (Y X4.row v24),aI v25,aB v26,aI v27,aI v28,aI v29,aL (Y rI v30),aL (Y (rL X0.row) v31),aL (Y (rL (rL (rL rB))) v32),aL (Y rI v33),.own 90000,aI v34,aB v35] [(90000,1,Y rI v36),(8704,1,Y rI a1)]:=by
 obtain⟨h_rec,hg49,hg50,hr51⟩:=id H;unfold CT EA;intro f
 induction f with
 | zero=>intros; intro h; simp at h
 | succ f ih=>
  intros;refine Ag ⟨?_,?_,?_,?_,?_,?_,?_,?_,?_,?_,?_,?_,⟨⟩⟩<;>try exact gi
  ·intro h0 hw;obtain rfl:=hq hw 4 rfl rfl;refine np ?_;try simp only[A7,A8,A4,C,E,F,G,I,J]
   refine Au (Y rI ([v18]:P U)) ?_;try simp only[A4,C,E,F,G,I,J]
   exact fM H ..
theorem fN{rec_ a1 a2 v18 x17 v19 v20 v21 v22 v23 v24 v25 v26 v27 v28 v29 v30 v31 v32 v33 v34 v35 x38 v36 r51}(H:HB rec_ a1 a2 v18 v19 v20 v21 v22 v23 v24 v25 v26 v27 v28 v29 v30 v31 v32 v33 v34 v35 x38 v36 r51):∀(f:W) (b0 b2:V) (b7 b8:V) (b9 b10:V),CT a1 a2 v18 x17 x38 r51 f b0 T b2 L T T L b7 b8 b9 b10 L (.own 8704) (.own 8704) (.own 8704) [aI v19,aL (Y zA v20),aL (Y zB v21),aL (Y X8.row v22),aL (Y X2.row v23),aL (Y X4.row v24),aI v25,aB v26,aI v27,aI v28,aI v29,aL (Y rI v30),aL (Y (rL X0.row) v31),aL (Y (rL (rL (rL rB))) v32),aL (Y rI v33),.own 90000,aI v34,aB v35] [(90000,1,Y rI v36),(8704,1,Y rI ([]:P U)),(8960,1,Y rI ([v18]:P U))]:=by
 obtain⟨h_rec,hg49,hg50,hr51⟩:=id H;unfold CT EA;intro f
 induction f with
 | zero=>intros; intro h; simp at h
 | succ f ih=>
  intros;refine Ag ⟨?_,?_,?_,?_,?_,?_,?_,?_,?_,?_,?_,?_,⟨⟩⟩<;>try exact gi
  ·intro h0 hw;obtain rfl:=hq hw 2 rfl rfl;refine np ?_;try simp only[hg49,A7,A8,A4,C,E,F,G,I,J]
   exact fM H ..
theorem B0g{rec_ a1 a2 v18 x17 v19 v20 v21 v22 v23 v24 v25 v26 v27 v28 v29 v30 v31 v32 v33 v34 v35 x38 v36 r51}(H:HB rec_ a1 a2 v18 v19 v20 v21 v22 v23 v24 v25 v26 v27 v28 v29 v30 v31 v32 v33 v34 v35 x38 v36 r51):∀(f:W) (b0 b2:V) (b4 b7:V) (b8 b9 b10:V),CT a1 a2 v18 x17 x38 r51 f b0 T b2 L b4 L L b7 b8 b9 b10 L (.own 8704) (.own 8704) (.own 8704) [aI v19,aL (Y zA v20),aL (Y zB v21),aL (Y X8.row v22),aL (Y X2.row v23),aL (Y X4.row v24),aI v25,aB v26,aI v27,aI v28,aI v29,aL (Y rI v30),aL (Y (rL X0.row) v31),aL (Y (rL (rL (rL rB))) v32),aL (Y rI v33),.own 90000,aI v34,aB v35] [(90000,1,Y rI v36),(8704,1,Y rI ([]:P U))]:=by
 obtain⟨h_rec,hg49,hg50,hr51⟩:=id H;unfold CT EA;intro f
 induction f with
 | zero=>intros; intro h; simp at h
 | succ f ih=>
  intros;refine Ag ⟨?_,?_,?_,?_,?_,?_,?_,?_,?_,?_,?_,?_,⟨⟩⟩<;>try exact gi
  ·intro h0 hw;obtain rfl:=hq hw 2 rfl rfl;refine np ?_;try simp only[hg49,A7,A8,A4,C,E,F,G,I,J]
   exact B0f H ..
  ·intro h0 hw;obtain rfl:=hq hw 4 rfl rfl;refine np ?_;try simp only[A7,A8,A4,C,E,F,G,I,J]
   refine Au (Y rI ([v18]:P U)) ?_;try simp only[A4,C,E,F,G,I,J]
   exact fN H ..
theorem B0h{rec_ a1 a2 v18 x17 v19 v20 v21 v22 v23 v24 v25 v26 v27 v28 v29 v30 v31 v32 v33 v34 v35 x38 v36 r51}(H:HB rec_ a1 a2 v18 v19 v20 v21 v22 v23 v24 v25 v26 v27 v28 v29 v30 v31 v32 v33 v34 v35 x38 v36 r51):∀(f:W) (b0 b2:V) (b7 b8:V) (b9 b10:V),CT a1 a2 v18 x17 x38 r51 f b0 L b2 L T T L b7 b8 b9 b10 L (.own 8704) (.own 8704) (.own 8704) [aI v19,aL (Y zA v20),aL (Y zB v21),aL (Y X8.row v22),aL (Y X2.row v23),aL (Y X4.row v24),aI v25,aB v26,aI v27,aI v28,aI v29,aL (Y rI v30),aL (Y (rL X0.row) v31),aL (Y (rL (rL (rL rB))) v32),aL (Y rI v33),.own 90000,aI v34,aB v35] [(90000,1,Y rI v36),(8960,1,Y rI ([v18]:P U))]:=by
 obtain⟨h_rec,hg49,hg50,hr51⟩:=id H;unfold CT EA;intro f
 induction f with
 | zero=>intros; intro h; simp at h
 | succ f ih=>
  intros;refine Ag ⟨?_,?_,?_,?_,?_,?_,?_,?_,?_,?_,?_,?_,⟨⟩⟩<;>try exact gi
  ·intro h0 hw;refine kp [0,1,2,6,10,11,103,104,105,135,136,137,138,139,140,141,142,143,144,145,146] [99999999999,11] [90000,8704,8960] ?_;try simp only[A7,A8,List.nil_append,List.cons_append,A4,C,E,F,G,I,J]
   refine Au (Y rI ([]:P U)) ?_;try simp only[A4,C,E,F,G,I,J]
   exact fN H ..
theorem B0i{rec_ a1 a2 v18 x17 v19 v20 v21 v22 v23 v24 v25 v26 v27 v28 v29 v30 v31 v32 v33 v34 v35 x38 v36 r51}(H:HB rec_ a1 a2 v18 v19 v20 v21 v22 v23 v24 v25 v26 v27 v28 v29 v30 v31 v32 v33 v34 v35 x38 v36 r51):∀(f:W) (b0 b2:V) (b4 b7:V) (b8 b9 b10:V),CT a1 a2 v18 x17 x38 r51 f b0 L b2 L b4 L L b7 b8 b9 b10 L (.own 8704) (.own 8704) (.own 8704) [aI v19,aL (Y zA v20),aL (Y zB v21),aL (Y X8.row v22),aL (Y X2.row v23),aL (Y X4.row v24),aI v25,aB v26,aI v27,aI v28,aI v29,aL (Y rI v30),aL (Y (rL X0.row) v31),aL (Y (rL (rL (rL rB))) v32),aL (Y rI v33),.own 90000,aI v34,aB v35] [(90000,1,Y rI v36)]:=by
 obtain⟨h_rec,hg49,hg50,hr51⟩:=id H;unfold CT EA;intro f
 induction f with
 | zero=>intros; intro h; simp at h
 | succ f ih=>
  intros;refine Ag ⟨?_,?_,?_,?_,?_,?_,?_,?_,?_,?_,?_,?_,⟨⟩⟩<;>try exact gi
  ·intro h0 hw;refine np ?_;try simp only[A7,A8,A4,C,E,F,G,I,J]
   refine Au (Y rI ([]:P U)) ?_;try simp only[A4,C,E,F,G,I,J]
   exact B0g H ..
  ·intro h0 hw;obtain rfl:=hq hw 4 rfl rfl;refine np ?_;try simp only[A7,A8,A4,C,E,F,G,I,J]
   refine Au (Y rI ([v18]:P U)) ?_;try simp only[A4,C,E,F,G,I,J]
   exact B0h H ..
def lS:=fun a1 a2 (a0:Xf) v4 (k_:U→(P X0)→Q Xf)=>∀{v6 v7} {zr},k_ v6 v7=N zr→Kh Z 69 M0 18 [0,1,2,7,45,46,47] [99999999999] [90000,2816] ⟨[(0,vc (.pb 99999999999 0)),pL 1 rI a1,pI 2 a2,pW 7 2816,pL 45 rI a1,pI 46 (a1.length:U),pI 47 v6],[(99999999999,([aI a0.h.Forecast.Tide.Mean,aM zA a0.h.Forecast.Tide.Parts,aM zB a0.h.Forecast.Surges,aM X8.row a0.h.Chart.Points,aM X2.row a0.h.Chart.Segments,aM X4.row a0.h.Fleet,aI a0.h.Regime.Gap,aB a0.h.Regime.NoMeet]++dm a0.h.Crew.row++ [aM (rL X0.row) a0.lists,aL (Y (rL (rL (rL rB))) a0.clash),aM rI a0.rest,.own 90000,aI a0.cost,aB v4]))],[(90000,1,Y rI a0.best),(2816,4,Y X0.row v7)]⟩ (Dj [] [] (BX zr) (BY zr))
def lT:=fun a1 a2 v18 x17 v19 v20 v21 v22 v23 v24 v25 v26 v27 v28 v29 v30 v31 v32 v33 v34 v35 (x38:X0) v36 (k_:V→U→Q Xf)=>∀{v39 v40} {zr},k_ v39 v40=N zr→Kh Z 69 M0 63 [0,1,2,6,10,11,12,103,104,105,110,111,112] [99999999999,11] [90000] ⟨[(0,vc (.pb 99999999999 0)),pL 1 rI a1,pI 2 a2,pI 6 (a1.length:U),pI 10 v18,pB 11,(12,vc (aB v39)),pL 103 X0.row x17,pI 104 (x17.length:U),pI 105 v18,pL 110 rI a1,pI 111 (a1.length:U),pI 112 v40],[(99999999999,[aI v19,aM zA v20,aM zB v21,aM X8.row v22,aM X2.row v23,aM X4.row v24,aI v25,aB v26,aI v27,aI v28,aI v29,aM rI v30,aM (rL X0.row) v31,aL (Y (rL (rL (rL rB))) v32),aM rI v33,.own 90000,aI v34,aB v35]),(11,(dm x38.row))],[(90000,1,Y rI v36)]⟩ (Dj [] [] (BX zr) (BY zr))
def Xv:=fun a1 a2 x17 (k_:U→U→(P Xd)→(P Xa)→(P X8)→(P X2)→(P X4)→U→V→U→U→U→(P U)→(P (P X0))→(P (P (P (P V))))→(P U)→U→V→(P U)→Q Xf)=>∀{v18 v19 v20 v21 v22 v23 v24 v25 v26 v27 v28 v29 v30 v31 v32 v33 v34 v35 v36} {zr},k_ v18 v19 v20 v21 v22 v23 v24 v25 v26 v27 v28 v29 v30 v31 v32 v33 v34 v35 v36=N zr→Kh Z 69 M0 46 [0,1,2,6,103,104,105] [99999999999] [90000] ⟨[(0,vc (.pb 99999999999 0)),pL 1 rI a1,pI 2 a2,pI 6 (a1.length:U),pL 103 X0.row x17,pI 104 (x17.length:U),pI 105 v18],[(99999999999,[aI v19,aM zA v20,aM zB v21,aM X8.row v22,aM X2.row v23,aM X4.row v24,aI v25,aB v26,aI v27,aI v28,aI v29,aM rI v30,aM (rL X0.row) v31,aL (Y (rL (rL (rL rB))) v32),aM rI v33,.own 90000,aI v34,aB v35])],[(90000,1,Y rI v36)]⟩ (Dj [] [] (BX zr) (BY zr))
def lR:=fun a1 a2 (a0:Xf) (k_:V→Q Xf)=>∀{v4} {zr},k_ v4=N zr→Kh Z 69 M0 8 [0,1,2,6] [99999999999] [90000] ⟨[(0,vc (.pb 99999999999 0)),pL 1 rI a1,pI 2 a2,pI 6 (a1.length:U)],[(99999999999,([aI a0.h.Forecast.Tide.Mean,aM zA a0.h.Forecast.Tide.Parts,aM zB a0.h.Forecast.Surges,aM X8.row a0.h.Chart.Points,aM X2.row a0.h.Chart.Segments,aM X4.row a0.h.Fleet,aI a0.h.Regime.Gap,aB a0.h.Regime.NoMeet]++dm a0.h.Crew.row++ [aM (rL X0.row) a0.lists,aL (Y (rL (rL (rL rB))) a0.clash),aM rI a0.rest,.own 90000,aI a0.cost,aB v4]))],[(90000,1,Y rI a0.best)]⟩ (Dj [] [] (BX zr) (BY zr))
theorem B0j{rec_:Xf→(P U)→U→Q Xf}(h_rec:∀(a0:Xf) (a1:P U) (a2:U) zr,rec_ a0 a1 a2=N zr→FCz Z 69 [.p,.d (.sc (.sl (Y rI a1))),.d (.sc (.int .i64 a2))] (BX a0) (BY a0) (BX zr) (BY zr) []){a1 a2 a0 v4}{n:W}:lS a1 a2 a0 v4 (Dp rec_ a1 a2 a0 v4 n):=by
 induction n with
 | zero=>intro _ _ r h; cases h
 | succ n ih=>
  intro v6 v7 r h σ hσ S hS;refine ev hS ?_;rw[Dp] at h;refine AB (As ?_);obtain⟨h8,h⟩|⟨h8,h⟩:=ic h
  ·obtain⟨x9,h9,h⟩:=ob h;obtain⟨x10,h10,h⟩:=ob h;obtain⟨x11,h11,h⟩:=ob h;refine sg ?_;refine Bc (es:=Y X0.row ([x11]:P X0)) ?_;obtain⟨h12,h⟩:=B2 h;refine sg ?_;exact ih h sq kr
  ·obtain⟨r13,h13,h⟩:=ob h;refine sg ?_;refine D6 (Ab A7w h13) ?_;obtain⟨r14,h14,h⟩:=ob h;refine sg ?_;refine AT (Ab A70 h14) X (B1 X) X (uf X) ?_;refine sg ?_;obtain⟨h15,h⟩|⟨h15,h⟩:=ic h
   ·refine sg ?_;refine Bc (es:=Y rI ([]:P U)) ?_;obtain⟨h16,h⟩:=B2 h;refine sg ?_;cases h;exact⟨trivial,[5440],by decide,by decide,X,X⟩
   ·refine sg ?_;cases h;exact⟨trivial,[90000],by decide,by decide,X,X⟩
theorem B0k{rec_:Xf→(P U)→U→Q Xf}(h_rec:∀(a0:Xf) (a1:P U) (a2:U) zr,rec_ a0 a1 a2=N zr→FCz Z 69 [.p,.d (.sc (.sl (Y rI a1))),.d (.sc (.int .i64 a2))] (BX a0) (BY a0) (BX zr) (BY zr) []){a1 a2 v18 x17 v19 v20 v21 v22 v23 v24 v25 v26 v27 v28 v29 v30 v31 v32 v33 v34 v35 x38 v36}{K1}(aZ:Xv a1 a2 x17 K1){n:W}:lT a1 a2 v18 x17 v19 v20 v21 v22 v23 v24 v25 v26 v27 v28 v29 v30 v31 v32 v33 v34 v35 x38 v36 (DI rec_ a1 a2 v18 x17 v19 v20 v21 v22 v23 v24 v25 v26 v27 v28 v29 v30 v31 v32 v33 v34 v35 x38 v36 K1 n):=by
 induction n with
 | zero=>intro _ _ r h; cases h
 | succ n ih=>
  intro v39 v40 r h σ hσ S hS;refine ev hS ?_;rw[DI] at h;refine AB (As ?_);obtain⟨h41,h⟩|⟨h41,h⟩:=ic h
  ·obtain⟨x42,h42,h⟩:=ob h;obtain⟨x43,h43,h⟩:=ob h;obtain⟨x44,h44,h⟩:=ob h;obtain⟨x45,h45,h⟩:=ob h;obtain⟨x46,h46,h⟩:=ob h;obtain⟨h47,h⟩|⟨h47,h⟩:=ic h
   ·refine sg ?_;exact ih h sq kr
   ·refine sg ?_;exact ih h sq kr
  ·obtain⟨h48,h⟩|⟨h48,h⟩:=ic h
   ·refine sg ?_;obtain⟨h49,h⟩:=B2 h;obtain⟨h50,h⟩:=B2 h;obtain⟨r51,h51,h⟩:=ob h;refine Em (ks:= [0,1,2,6,10,11,103,104,105]) (bs:= [99999999999,11]) (rs:= [90000]) (τ:=(W1 a1 a2 v18 x17 x38 r51)) X (B0i ⟨h_rec,h49,h50,h51⟩ _ L L L L L L L) ?_;simp only[W1,EA,A7];refine sg ?_;exact aZ h sq kr
   ·refine sg ?_;exact aZ h sq kr
theorem B0l{rec_:Xf→(P U)→U→Q Xf}(h_rec:∀(a0:Xf) (a1:P U) (a2:U) zr,rec_ a0 a1 a2=N zr→FCz Z 69 [.p,.d (.sc (.sl (Y rI a1))),.d (.sc (.int .i64 a2))] (BX a0) (BY a0) (BX zr) (BY zr) []){a1 a2 x17}{n:W}:Xv a1 a2 x17 (ET rec_ a1 a2 x17 n):=by
 induction n with
 | zero=>intro _ _ _ _ _ _ _ _ _ _ _ _ _ _ _ _ _ _ _ r h; cases h
 | succ n ih=>
  intro v18 v19 v20 v21 v22 v23 v24 v25 v26 v27 v28 v29 v30 v31 v32 v33 v34 v35 v36 r h σ hσ S hS;refine ev hS ?_;rw[ET] at h;refine AB (As ?_);obtain⟨h37,h⟩|⟨h37,h⟩:=ic h
  ·obtain⟨x38,h38,h⟩:=ob h;refine sg ?_;exact B0k h_rec ih h sq kr
  ·refine sg ?_;cases h;exact⟨trivial,[90000],by decide,by decide,X,X⟩
theorem fO{rec_:Xf→(P U)→U→Q Xf}(h_rec:∀(a0:Xf) (a1:P U) (a2:U) zr,rec_ a0 a1 a2=N zr→FCz Z 69 [.p,.d (.sc (.sl (Y rI a1))),.d (.sc (.int .i64 a2))] (BX a0) (BY a0) (BX zr) (BY zr) []){a1 a2 a0}:lR a1 a2 a0 (Hv rec_ a1 a2 a0):=by
 intro v4 r h σ hσ;unfold Hv at h;have s0:= @Aw (Y X0.row ([]:P X0));have k0:= @B0j; have k1:= @B0l;exact gc
theorem qk:AE Z 69=N ((Bp Z 69 M0).strip,[],148):=by kernel_rfl
theorem A8g(rec_:Xf→(P U)→U→Q Xf)(a0:Xf)(a1:P U)(a2:U)(r:Xf)(h_rec:∀(a0:Xf) (a1:P U) (a2:U) zr,rec_ a0 a1 a2=N zr→FCz Z 69 [.p,.d (.sc (.sl (Y rI a1))),.d (.sc (.int .i64 a2))] (BX a0) (BY a0) (BX zr) (BY zr) [])(h:RE rec_ a0 a1 a2=N r):FCz Z 69 [.p,.d (.sc (.sl (Y rI a1))),.d (.sc (.int .i64 a2))] (BX a0) (BY a0) (BX r) (BY r) []:=by
 unfold RE at h;refine Qs (σ:=⟨[(0,vc (.pb 99999999999 0)),(1,vc (aL (Y rI a1))),(2,vc (aI a2))],[(99999999999,[aI a0.h.Forecast.Tide.Mean,aL (Y zA a0.h.Forecast.Tide.Parts),aL (Y zB a0.h.Forecast.Surges),aL (Y X8.row a0.h.Chart.Points),aL (Y X2.row a0.h.Chart.Segments),aL (Y X4.row a0.h.Fleet),aI a0.h.Regime.Gap,aB a0.h.Regime.NoMeet,aI a0.h.Crew.Tugs,aI a0.h.Crew.Pilots,aI a0.h.Crew.Rest,aL (Y rI a0.h.Crew.Moves),aL (Y (rL X0.row) a0.lists),aL (Y (rL (rL (rL rB))) a0.clash),aL (Y rI a0.rest),.own 90000,aI a0.cost,aB a0.found])],[(90000,1,Y rI a0.best)]⟩) A2 qk X X X X ?_;refine Bt M0 ?_;intro S hS;refine ev hS ?_;refine sg ?_;obtain⟨h1,h⟩|⟨h1,h⟩:=ic h
 ·obtain⟨x2,h2,h⟩:=ob h;obtain⟨h3,h⟩|⟨h3,h⟩:=ic h
  ·refine sg ?_;cases h;exact⟨trivial,[90000],by decide,by decide,X,X⟩
  ·refine sg ?_;exact fO h_rec h sq kr
 ·refine sg ?_;exact fO h_rec h sq kr
theorem A8h:∀(n:W) (a0:Xf) (a1:P U) (a2:U) (r:Xf),BU n a0 a1 a2=N r→FCz Z 69 [.p,.d (.sc (.sl (Y rI a1))),.d (.sc (.int .i64 a2))] (BX a0) (BY a0) (BX r) (BY r) []:=by
 intro n
 induction n with
 | zero=>intro _ _ _ r h; cases h
 | succ n ih=>intro a0 a1 a2 r h; rw[BU] at h; exact A8g (BU n) a0 a1 a2 r ih h
theorem A8f{a0}{a1}{a2}{r}(h:TY a0 a1 a2=N r):FCz Z 69 [.p,.d (.sc (.sl (Y rI a1))),.d (.sc (.int .i64 a2))] (BX a0) (BY a0) (BX r) (BY r) []:=A8h bigN a0 a1 a2 r h
def Zg:Hw:=([(8,[1,4,5,6,7,8],[20],[896,1152,149440])],[(6,0,(O,.ownb 20 15 149440 1)),(30,2,(O,.frz 896)),(30,3,(O,.frz 1152)),(30,4,(O,.frz 3776))])
def lP:=fun a1 (a0:X6) r1 (k_:U→(P U)→Q ((P U) × U × V))=>∀{v3 v4} {zr},k_ v3 v4=N zr→Kh Z 28 Zg 8 [1,4,5,6,7,8] [20] [896,1152,149440] ⟨[pL 1 (rL X0.row) a1,(4,vc (.nil)),pI 5 (0:U),(6,vc (aB L)),(7,vc (.pb 20 0)),pI 8 v3],[(20,([aI a0.Forecast.Tide.Mean,aM zA a0.Forecast.Tide.Parts,aM zB a0.Forecast.Surges,aM X8.row a0.Chart.Points,aM X2.row a0.Chart.Segments,aM X4.row a0.Fleet,aI a0.Regime.Gap,aB a0.Regime.NoMeet]++dm a0.Crew.row++ [aM (rL X0.row) a1,.own 896,.own 1152,.own 149440,aI (0:U),aB L]))],[(896,1,Y (rL (rL (rL rB))) r1),(1152,1,Y rI v4),(149440,1,Y rI ([]:P U))]⟩ (A5 [4,5,6] [.sc (.o 1 (Y rI zr.1)),.sc (.v (.int .i64 zr.2.1)),.sc (.v (.bool zr.2.2))])
theorem B0n{a1 a0 r1}{n:W}:lP a1 a0 r1 (JR a1 a0 r1 n):=by
 induction n with
 | zero=>intro _ _ r h; cases h
 | succ n ih=>
  intro v3 v4 r h σ hσ S hS;refine ev hS ?_;rw[JR] at h;refine AB (As ?_);obtain⟨h5,h⟩|⟨h5,h⟩:=ic h
  ·obtain⟨x6,h6,h⟩:=ob h;obtain⟨r7,h7,h⟩:=ob h;refine sg ?_;refine AF (Ab A7y h7) ?_;obtain⟨h8,h⟩|⟨h8,h⟩:=ic h
   ·refine sg ?_;cases h;trivial
   ·obtain⟨x9,h9,h⟩:=ob h;have h9n:=Am h9;obtain⟨x10,h10,h⟩:=ob h;obtain⟨x11,h11,h⟩:=ob h;have h11n:=Am h11;refine sg ?_;refine AK (row:=rI) (y:=(IntKind.i64.wrap (x9+x10.Cost))) X X h11n X X (by rfl) ?_;refine sg ?_;exact ih h sq kr
  ·refine sg ?_;refine Bc (es:=Y rI ([]:P U)) ?_;refine sg ?_;refine RL ?_;obtain⟨r12,h12,h⟩:=ob h;refine sg ?_;refine HA (A8f h12) 20 [149440] rfl X X X (by decide) X X X ?_;obtain⟨h13,h⟩|⟨h13,h⟩:=ic h
   ·refine sg ?_;cases h;trivial
   ·refine sg ?_;cases h;trivial
instance C09:Ct 28 (∀{a0} {a1} {r},P5 a0 a1=N r→FC Z 28 [.ag (X6.row a0),.sc (.sl (Y (rL X0.row) a1))] [.sc (.o 1 (Y rI r.1)),.sc (.v (.int .i64 r.2.1)),.sc (.v (.bool r.2.2))]):=by
 refine⟨fun{a0} {a1} {r} h=> ?_⟩;unfold P5 at h;refine A3 A2 Zg [4,5,6] 74 ?_;intro S hS;refine ev hS ?_;obtain⟨r1,h1,h⟩:=ob h;refine sg ?_;refine D6 (Ab A8e h1) ?_;obtain⟨n2,hn2,h⟩:=ob h;refine sg ?_;refine U6 (m:= .row 18 1 (Y rI (List.replicate n2 (0:U)))) (bY X X hn2 X (SE X)) X (V6 X) ?_;refine sg ?_;refine G9 (cs':= [aI a0.Forecast.Tide.Mean,aL (Y zA a0.Forecast.Tide.Parts),aL (Y zB a0.Forecast.Surges),aL (Y X8.row a0.Chart.Points),aL (Y X2.row a0.Chart.Segments),aL (Y X4.row a0.Fleet),aI a0.Regime.Gap,aB a0.Regime.NoMeet,aI a0.Crew.Tugs,aI a0.Crew.Pilots,aI a0.Crew.Rest,aL (Y rI a0.Crew.Moves),aL (Y (rL X0.row) a1),.own 896,.own 1152,.own 149440,aI (0:U),aB L]) X X X X ?_;refine sg ?_;exact B0n h sq kr
def Uk:Hw:=([(5,[1,2,3,25],[3],[]),(28,[8,12,40,41,42],[],[1856,2496,2112])],[])
def jk:=fun(r7:(P U) × U × V) r6 (k_:U→(P X0)→Q ((P X0) × V))=>∀{v9 v10} {zr},k_ v9 v10=N zr→Kh Z 7 Uk 28 [8,12,40,41,42] [] [1856,2496,2112] ⟨[pW 8 1856,pW 12 2496,pW 40 2112,pI 41 (r7.1.length:U),pI 42 v9],[],[(1856,1,Y (rL X0.row) r6),(2496,4,Y X0.row v10),(2112,1,Y rI r7.1)]⟩ (A5 [6,7] [.sc (.o 4 (Y X0.row zr.1)),.sc (.v (.bool zr.2))])
def jj:=fun a1 a2 (a0:X6) (k_:V→Q ((P X0) × V))=>∀{v4} {zr},k_ v4=N zr→Kh Z 7 Uk 5 [1,2,3,25] [3] [] ⟨[pL 1 zE a1,pL 2 X7.row a2,pB 3,(25,vc (aB v4))],[(3,([aI a0.Forecast.Tide.Mean,aM zA a0.Forecast.Tide.Parts,aM zB a0.Forecast.Surges,aM X8.row a0.Chart.Points,aM X2.row a0.Chart.Segments,aM X4.row a0.Fleet,aI a0.Regime.Gap,aB a0.Regime.NoMeet]++dm a0.Crew.row))],[]⟩ (A5 [6,7] [.sc (.o 4 (Y X0.row zr.1)),.sc (.v (.bool zr.2))])
theorem B0o{r7 r6}{n:W}:jk r7 r6 (Jq r7 r6 n):=by
 induction n with
 | zero=>intro _ _ r h; cases h
 | succ n ih=>
  intro v9 v10 r h σ hσ S hS;refine ev hS ?_;rw[Jq] at h;refine AB (As ?_);obtain⟨h11,h⟩|⟨h11,h⟩:=ic h
  ·obtain⟨x12,h12,h⟩:=ob h;have h12n:=Am h12;obtain⟨x13,h13,h⟩:=ob h;have h13n:=Am h13;obtain⟨x14,h14,h⟩:=ob h;refine sg ?_;refine Bc (es:=Y X0.row ([x14]:P X0)) ?_;obtain⟨h15,h⟩:=B2 h;refine sg ?_;exact ih h sq kr
  ·refine sg ?_;cases h;trivial
theorem B0p{a1 a2 a0}:jj a1 a2 a0 (Ov a1 a2 a0):=by
 intro v4 r h σ hσ;unfold Ov at h;have s0:= @Aw (Y X0.row ([]:P X0));have k0:= @B0o;exact gc
theorem A7z{a0}{a1}{a2}{r}(h:H7 a0 a1 a2=N r):FC Z 7 [.ag (X6.row a0),.sc (.sl (Y zE a1)),.sc (.sl (Y X7.row a2))] [.sc (.o 4 (Y X0.row r.1)),.sc (.v (.bool r.2))]:=by
 unfold H7 at h;refine A3 A2 Uk [6,7] 59 ?_;have k0:= @B0p;exact gc
instance B78:Ct 123 (∀{a0} {a1} {a2} {r},BT a0 a1 a2=N r→FC Z 123 [.sc (.int .i64 a0),.sc (.int .i64 a1),.sc (.int .i64 a2)] [.sc (.v (.bool r))]):=by
 refine⟨fun h=> ?_⟩;unfold BT at h;refine A3 A2 h0 [6] 15 ?_;exact gc
instance B70:Ct 217 (∀{a0} {r},L6 a0=N r→FC Z 217 [.sc (.int .i64 a0)] [.sc (.v (.bool r))]):=by
 refine⟨fun h=> ?_⟩;unfold L6 at h;refine A3 A2 h0 [2] 10 ?_;exact gc
instance B7c:Ct 193 (∀{a0} {r},Nd a0=N r→FC Z 193 [.ag (zA a0)] [.sc (.v (.bool r))]):=by
 refine⟨fun h=> ?_⟩;unfold Nd at h;refine A3 A2 h0 [2] 19 ?_;exact gc
def Zh:Hw:=([(14,[16,17,18],[],[])],[])
def iE:=fun(a0:Xn) (k_:U→Q V)=>∀{v4} {zr},k_ v4=N zr→Kh Z 158 Zh 14 [16,17,18] [] [] ⟨[pL 16 zA a0.Parts,pI 17 (a0.Parts.length:U),pI 18 v4],[],[]⟩ (A5 [2] [.sc (.v (.bool zr))])
theorem B0q{a0}{n:W}:iE a0 (IB a0 n):=by
 induction n with
 | zero=>intro _ r h; cases h
 | succ n ih=>
  intro v4 r h σ hσ;rw[IB] at h;exact gc
instance B7r:Ct 158 (∀{a0} {r},Np a0=N r→FC Z 158 [.ag (Xn.row a0)] [.sc (.v (.bool r))]):=by
 refine⟨fun h=> ?_⟩;unfold Np at h;refine A3 A2 Zh [2] 26 ?_;have k0:= @B0q;exact gc
instance A6u:Ct 122 (∀{a0} {r},D7 a0=N r→FC Z 122 [.sc (.int .i64 a0)] [.sc (.v (.bool r))]):=by
 refine⟨fun h=> ?_⟩;unfold D7 at h;refine A3 A2 h0 [2] 5 ?_;exact gc
instance B7q:Ct 159 (∀{a0} {r},Nn a0=N r→FC Z 159 [.ag (zB a0)] [.sc (.v (.bool r))]):=by
 refine⟨fun h=> ?_⟩;unfold Nn at h;refine A3 A2 h0 [2] 23 ?_;exact gc
def Zi:Hw:=([(14,[1,25,26,27],[1],[])],[])
def gw:=fun(a0:Xe) (k_:U→Q V)=>∀{v7} {zr},k_ v7=N zr→Kh Z 118 Zi 14 [1,25,26,27] [1] [] ⟨[pB 1,pL 25 zB a0.Surges,pI 26 (a0.Surges.length:U),pI 27 v7],[(1,[aI a0.Tide.Mean,aM zA a0.Tide.Parts,aM zB a0.Surges])],[]⟩ (A5 [2] [.sc (.v (.bool zr))])
theorem B0r{a0}{n:W}:gw a0 (GP a0 n):=by
 induction n with
 | zero=>intro _ r h; cases h
 | succ n ih=>
  intro v7 r h σ hσ;rw[GP] at h;exact gc
instance A6g:Ct 118 (∀{a0} {r},GO a0=N r→FC Z 118 [.ag (Xe.row a0)] [.sc (.v (.bool r))]):=by
 refine⟨fun h=> ?_⟩;unfold GO at h;refine A3 A2 Zi [2] 52 ?_;have k0:= @B0r;exact gc
def RN:Hw:=([(14,[0,3],[],[]),(25,[0,3,4],[],[]),(32,[0,3],[],[])],[])
def hH:=fun a0 v3 (k_:Q V)=>∀{zr},k_=N zr→Kh Z 124 RN 32 [0,3] [] [] ⟨[(0,vc (aS a0)),pI 3 v3],[],[]⟩ (A5 [2] [.sc (.v (.bool zr))])
def hD:=fun a0 v3 (k_:V→Q V)=>∀{v7} {zr},k_ v7=N zr→Kh Z 124 RN 25 [0,3,4] [] [] ⟨[(0,vc (aS a0)),pI 3 v3,(4,vc (aB v7))],[],[]⟩ (A5 [2] [.sc (.v (.bool zr))])
def T8:=fun a0 (k_:U→Q V)=>∀{v3} {zr},k_ v3=N zr→Kh Z 124 RN 14 [0,3] [] [] ⟨[(0,vc (aS a0)),pI 3 v3],[],[]⟩ (A5 [2] [.sc (.v (.bool zr))])
theorem B0s{a0 v3}{EY}(aT:T8 a0 EY):hH a0 v3 (N7 a0 v3 EY):=by
 intro r h σ hσ;unfold N7 at h;have k0:= @aT;exact gc
theorem B0t{a0 v3}{EY}(aT:T8 a0 EY):hD a0 v3 (N6 a0 v3 EY):=by
 intro v7 r h σ hσ;unfold N6 at h;have k0:= @B0s;exact gc
theorem B0u{a0}{n:W}:T8 a0 (GQ a0 n):=by
 induction n with
 | zero=>intro _ r h; cases h
 | succ n ih=>
  intro v3 r h σ hσ;rw[GQ] at h;have k0:= @B0t;exact gc
instance B65:Ct 124 (∀{a0} {r},KU a0=N r→FC Z 124 [.sc (.str a0)] [.sc (.v (.bool r))]):=by
 refine⟨fun h=> ?_⟩;unfold KU at h;refine A3 A2 RN [2] 43 ?_;have k0:= @B0u;exact gc
def Zk:Hw:=([(6,[1,8,9,10],[],[])],[])
def iA:=fun a1 (a0:X3) (k_:U→Q U)=>∀{v1} {zr},k_ v1=N zr→Kh Z 125 Zk 6 [1,8,9,10] [] [] ⟨[(1,vc (aS a1)),pL 8 X8.row a0.Points,pI 9 (a0.Points.length:U),pI 10 v1],[],[]⟩ (A5 [4] [.sc (.v (.int .i64 zr))])
theorem B0v{a1 a0}{n:W}:iA a1 a0 (Iy a1 a0 n):=by
 induction n with
 | zero=>intro _ r h; cases h
 | succ n ih=>
  intro v1 r h σ hσ;rw[Iy] at h;exact gc
instance B7g:Ct 125 (∀{a0} {a1} {r},Nh a0 a1=N r→FC Z 125 [.ag (X3.row a0),.sc (.str a1)] [.sc (.v (.int .i64 r))]):=by
 refine⟨fun h=> ?_⟩;unfold Nh at h;refine A3 A2 Zk [4] 21 ?_;have k0:= @B0v;exact gc
instance SU:Ct 79 (∀{a0} {a1} {r},Bv a0 a1=N r→FC Z 79 [.sc (.int .i64 a0),.sc (.int .i64 a1)] [.sc (.v (.bool r))]):=by
 refine⟨fun h=> ?_⟩;unfold Bv at h;refine A3 A2 h0 [4] 12 ?_;exact gc
instance B7j:Ct 126 (∀{a0} {a1} {a2} {r},Nj a0 a1 a2=N r→FC Z 126 [.ag (X2.row a0),.sc (.int .i64 a1),.sc (.int .i64 a2)] [.sc (.v (.bool r))]):=by
 refine⟨fun h=> ?_⟩;unfold Nj at h;refine A3 A2 h0 [6] 29 ?_;exact gc
end Go.Vi
