/-
Walks. No condition.
-/
import Derived.Test.YtfoohbeloilepaaGreatDNf
import Derived.Test.YtfoohbeloilepaaGreatChecked
import Derived.Test.YtfoohbeloilepaaGreatDVi41
import Derived.KernelRfl
import Derived.Test.YtfoohbeloilepaaGreatDWDivertedCallsa
namespace Go.Vi
open Go.Proofs
set_option linter.all false
set_option maxRecDepth 4000
set_option maxHeartbeats 2000000
open Nat renaming reduceBEq → C, reduceMul → E, reduceAdd → F, reduceDiv → G, le_of_ble_eq_true → uf
open Int renaming reduceBEq → H
attribute [local irreducible] go Bb Hj
open List renaming map → Y, map_nil → I, all_eq_true → zD, all_cons → zE, all_nil → zF
open Tryz renaming prog → Z
open Xd renaming row → zA
open Xa renaming row → zB
open Xc renaming row → zC
open Xb renaming row → zG
open IntKind renaming wrap → zH
open Bool renaming true → T, false → L
open Option renaming some → N, none → O
open _root_ renaming List → P, Option → Q, Int → U, Bool → V, Nat → W, rfl → X
def U7:Hw:=([(8,[3,7,8,9],[],[384]),(27,[3,4,7,8,9,30],[],[384])],[])
def iZ:=fun v1 a0 v2 (k_:V→Q (P X6))=>∀{v8} {zr},k_ v8=N zr→Kh Z 263 U7 27 [3,4,7,8,9,30] [] [384] ⟨[pW 3 384,pI 4 v1,pL 7 rB a0,pI 8 (a0.length:U),pI 9 v1,(30,vc (aB v8))],[],[(384,2,Y X6.row v2)]⟩ (A8 [2] [.sc (.o 2 (Y X6.row zr))])
def VW:=fun a0 (k_:U→(P X6)→Q (P X6))=>∀{v1 v2} {zr},k_ v1 v2=N zr→Kh Z 263 U7 8 [3,7,8,9] [] [384] ⟨[pW 3 384,pL 7 rB a0,pI 8 (a0.length:U),pI 9 v1],[],[(384,2,Y X6.row v2)]⟩ (A8 [2] [.sc (.o 2 (Y X6.row zr))])
theorem eF{v1 a0 v2}{Pd}(tR:VW a0 Pd):iZ v1 a0 v2 (Ji v1 a0 v2 Pd):=by
 intro v8 r h σ hσ;unfold Ji at h;have s0:= @Al (Y X6.row ([(⟨v1,v1⟩:X6)]:P X6));have s1:=fun(x10:X6)=> @Eo _ X6.row ((⟨x10.From,v1⟩:X6))
 have k0:= @tR;exact gc
theorem B23{a0}{n:W}:VW a0 (EH a0 n):=by
 induction n with
 | zero=>intro _ _ r h; cases h
 | succ n ih=>
  intro v1 v2 r h σ hσ S hS;refine ev hS ?_;rw[EH] at h;refine AE (Ax ?_);obtain⟨h3,h⟩|⟨h3,h⟩:=ic h
  ·obtain⟨x4,h4,h⟩:=ob h;obtain⟨h5,h⟩|⟨h5,h⟩:=ic h
   ·obtain⟨h6,h⟩|⟨h6,h⟩:=ic h
    ·obtain⟨x7,h7,h⟩:=ob h;have h7n:=Au h7;try simp only[hσ,h3,h4,h5,h6,h7,h7n,C,E,F,G,H,J]
     refine eF ih h ?_ (by kernel_rfl);try simp only[h3,h4,h5,h6,h7,h7n,C,E,F,G,H,J,pL,aM,I]
    ·try simp only[hσ,h3,h4,h5,h6,C,E,F,G,H,J]
     refine eF ih h ?_ (by kernel_rfl);try simp only[h3,h4,h5,h6,C,E,F,G,H,J,pL,aM,I]
   ·try simp only[hσ,h3,h4,h5,C,E,F,G,H,J]
    refine ih h ?_ (by kernel_rfl);try simp only[h3,h4,h5,C,E,F,G,H,J,pL,aM,I]
  ·try simp only[hσ,h3,C,E,F,G,H,J]
   cases h;exact t0
instance B8j:Ct 263 (∀{a0} {r},Oq a0=N r→FC Z 263 [.sc (.sl (Y rB a0))] [.sc (.o 2 (Y X6.row r))]):=by
 refine⟨fun h=> ?_⟩;unfold Oq at h;refine A5 A4 U7 [2] 46 ?_;have s0:= @Al (Y X6.row ([]:P X6));have k0:= @B23;exact gc
def U8:Hw:=([(8,[1,2,3,7,8],[3],[704]),(27,[1,2,3,7,8,10],[3],[704])],[])
def iY:=fun a1 v2 (a0:Xe) v3 (k_:V→U→Q (P X6))=>∀{v7 v8} {zr},k_ v7 v8=N zr→Kh Z 240 U8 27 [1,2,3,7,8,10] [3] [704] ⟨[pI 1 a1,(2,vc (aB v7)),pB 3,pW 7 704,pI 8 v2,pI 10 v8],[(3,[aI a0.Tide.Mean,aM zA a0.Tide.Parts,aM zB a0.Surges])],[(704,1,Y rB v3)]⟩ (A8 [6] [.sc (.o 2 (Y X6.row zr))])
def VU:=fun a1 (a0:Xe) (k_:V→U→(P V)→Q (P X6))=>∀{v1 v2 v3} {zr},k_ v1 v2 v3=N zr→Kh Z 240 U8 8 [1,2,3,7,8] [3] [704] ⟨[pI 1 a1,(2,vc (aB v1)),pB 3,pW 7 704,pI 8 v2],[(3,[aI a0.Tide.Mean,aM zA a0.Tide.Parts,aM zB a0.Surges])],[(704,1,Y rB v3)]⟩ (A8 [6] [.sc (.o 2 (Y X6.row zr))])
theorem A6k{a1 v2 a0 v3}{RZ}(tQ:VU a1 a0 RZ):iY a1 v2 a0 v3 (Oo a1 v2 a0 v3 RZ):=by
 intro v7 v8 r h σ hσ;unfold Oo at h;have s0:=fun(r9:U)=> @Al (Y rB ([(decide (a1≤(zH .i64 (r9+v8))))]:P V))
 have k0:= @tQ;exact gc
theorem A6l{a1 a0}{n:W}:VU a1 a0 (GS a1 a0 n):=by
 induction n with
 | zero=>intro _ _ _ r h; cases h
 | succ n ih=>
  intro v1 v2 v3 r h σ hσ;rw[GS] at h;have k0:= @A6k;exact gc
instance B8i:Ct 240 (∀{a0} {a1} {a2} {r},On a0 a1 a2=N r→FC Z 240 [.ag (Xe.row a0),.sc (.int .i64 a1),.sc (.bool a2)] [.sc (.o 2 (Y X6.row r))]):=by
 refine⟨fun h=> ?_⟩;unfold On at h;refine A5 A4 U8 [6] 37 ?_;have s0:= @Al (Y rB ([]:P V));have k0:= @A6l;exact gc
instance Vd:Ct 196 (∀{a0} {a1} {r},FN a0 a1=N r→FC Z 196 [.ag (X2.row a0),.ag (X4.row a1)] [.sc (.v (.int .i64 r))]):=by
 refine⟨fun h=> ?_⟩;unfold FN at h;refine A5 A4 h0 [4] 12 ?_;exact gc
instance B7s:Ct 242 (∀{a0} {a1} {a2} {r},Lg a0 a1 a2=N r→FC Z 242 [.ag (X1.row a0),.sc (.int .i64 a1),.ag (X4.row a2)] [.sc (.v (.int .i64 r))]):=by
 refine⟨fun h=> ?_⟩;unfold Lg at h;refine A5 A4 h0 [6] 31 ?_;exact gc
def XW:Hw:=([(6,[0,5,6,7],[],[])],[])
def iV:=fun a0 (k_:U→Q V)=>∀{v1} {zr},k_ v1=N zr→Kh Z 220 XW 6 [0,5,6,7] [] [] ⟨[pL 0 X6.row a0,pL 5 X6.row a0,pI 6 (a0.length:U),pI 7 v1],[],[]⟩ (A8 [2] [.sc (.v (.bool zr))])
theorem A6m{a0}{n:W}:iV a0 (FL a0 n):=by
 induction n with
 | zero=>intro _ r h; cases h
 | succ n ih=>
  intro v1 r h σ hσ;rw[FL] at h;exact gc
instance B8f:Ct 220 (∀{a0} {r},Ll a0=N r→FC Z 220 [.sc (.sl (Y X6.row a0))] [.sc (.v (.bool r))]):=by
 refine⟨fun h=> ?_⟩;unfold Ll at h;refine A5 A4 XW [2] 41 ?_;have k0:= @A6m;exact gc
def XX:Hw:=([(16,[1,5,17,18,19],[],[1024])],[])
def iR:=fun a1 a0 (k_:U→(P X6)→Q (P X6))=>∀{v5 v6} {zr},k_ v5 v6=N zr→Kh Z 239 XX 16 [1,5,17,18,19] [] [1024] ⟨[pI 1 a1,pW 5 1024,pL 17 X6.row a0,pI 18 (a0.length:U),pI 19 v5],[],[(1024,2,Y X6.row v6)]⟩ (A8 [4] [.sc (.o 2 (Y X6.row zr))])
theorem A6n{a1 a0}{n:W}:iR a1 a0 (FJ a1 a0 n):=by
 induction n with
 | zero=>intro _ _ r h; cases h
 | succ n ih=>
  intro v5 v6 r h σ hσ;rw[FJ] at h;have s0:=fun(x8:X6)=> @Al (Y X6.row ([(⟨x8.From,(zH .i64 (x8.To - a1))⟩:X6)]:P X6))
  exact gc
instance B78:Ct 239 (∀{a0} {a1} {r},QZ a0 a1=N r→FC Z 239 [.sc (.sl (Y X6.row a0)),.sc (.int .i64 a1)] [.sc (.o 2 (Y X6.row r))]):=by
 refine⟨fun h=> ?_⟩;unfold QZ at h;refine A5 A4 XX [4] 42 ?_;have s0:= @Al (Y X6.row ([]:P X6));have k0:= @A6n;exact gc
instance B8n:Ct 218 (∀{a0} {a1} {a2} {a3} {a4} {r},R7 a0 a1 a2 a3 a4=N r→FC Z 218 [.ag (Xe.row a0),.ag (X1.row a1),.sc (.int .i64 a2),.ag (X4.row a3),.sc (.bool a4)] [.sc (.o 2 (Y X6.row r))]):=by
 refine⟨fun h=> ?_⟩;unfold R7 at h;refine A5 A4 h0 [10] 33 ?_;exact gc
instance B8a:Ct 192 (∀{a0} {a1} {a2} {a3} {r},Oh a0 a1 a2 a3=N r→FC Z 192 [.ag (Xe.row a0),.ag (X1.row a1),.sc (.int .i64 a2),.ag (X4.row a3)] [.sc (.o 2 (Y X6.row r))]):=by
 refine⟨fun h=> ?_⟩;unfold Oh at h;refine A5 A4 h0 [8] 14 ?_;exact gc
def XY:Hw:=([(8,[4,5,6,9,13,14,15],[4,5,6],[768])],[(19,6,(O,.frz 1536))])
def ik:=fun a3 (a0:Xe) (a1:X1) (a2:X4) (k_:U→(P (P X6))→Q (P (P X6)))=>∀{v1 v2} {zr},k_ v1 v2=N zr→Kh Z 167 XY 8 [4,5,6,9,13,14,15] [4,5,6] [768] ⟨[pB 4,pB 5,pB 6,pW 9 768,pL 13 rI a3,pI 14 (a3.length:U),pI 15 v1],[(4,[aI a0.Tide.Mean,aM zA a0.Tide.Parts,aM zB a0.Surges]),(5,[aM X7.row a1.Points,aM X2.row a1.Segments]),(6,(dm a2.row))],[(768,1,Y (rL X6.row) v2)]⟩ (A8 [8] [.sc (.o 1 (Y (rL X6.row) zr))])
theorem A6o{a3 a0 a1 a2}{n:W}:ik a3 a0 a1 a2 (GX a3 a0 a1 a2 n):=by
 induction n with
 | zero=>intro _ _ r h; cases h
 | succ n ih=>
  intro v1 v2 r h σ hσ;rw[GX] at h;have s0:=fun(r5:(P X6))=> @Al (Y (rL X6.row) ([r5]:P (P X6)))
  exact gc
instance B8p:Ct 167 (∀{a0} {a1} {a2} {a3} {r},R8 a0 a1 a2 a3=N r→FC Z 167 [.ag (Xe.row a0),.ag (X1.row a1),.ag (X4.row a2),.sc (.sl (Y rI a3))] [.sc (.o 1 (Y (rL X6.row) r))]):=by
 refine⟨fun h=> ?_⟩;unfold R8 at h;refine A5 A4 XY [8] 29 ?_;have s0:= @Al (Y (rL X6.row) ([]:P (P X6)));have k0:= @A6o;exact gc
def TC:Hw:=([(8,[3,8,14,15,16],[3],[832]),(32,[3,8,11,14,15,16,45],[3],[832])],[])
def ig:=fun r9 a2 v1 (a0:X1) v2 (k_:V→Q ((P U) × V))=>∀{v12} {zr},k_ v12=N zr→Kh Z 194 TC 32 [3,8,11,14,15,16,45] [3] [832] ⟨[pB 3,pW 8 832,pI 11 r9,pL 14 rI a2,pI 15 (a2.length:U),pI 16 v1,(45,vc (aB v12))],[(3,[aM X7.row a0.Points,aM X2.row a0.Segments])],[(832,1,Y rI v2)]⟩ (A8 [6,7] [.sc (.o 1 (Y rI zr.1)),.sc (.v (.bool zr.2))])
def VX:=fun a2 (a0:X1) (k_:U→(P U)→Q ((P U) × V))=>∀{v1 v2} {zr},k_ v1 v2=N zr→Kh Z 194 TC 8 [3,8,14,15,16] [3] [832] ⟨[pB 3,pW 8 832,pL 14 rI a2,pI 15 (a2.length:U),pI 16 v1],[(3,[aM X7.row a0.Points,aM X2.row a0.Segments])],[(832,1,Y rI v2)]⟩ (A8 [6,7] [.sc (.o 1 (Y rI zr.1)),.sc (.v (.bool zr.2))])
theorem dN{r9 a2 v1 a0 v2}{S0}(tS:VX a2 a0 S0):ig r9 a2 v1 a0 v2 (GU r9 a2 v1 a0 v2 S0):=by
 intro v12 r h σ hσ;unfold GU at h;have s0:= @Al (Y rI ([r9]:P U));have k0:= @tS;exact gc
theorem A6q{a2 a0}{n:W}:VX a2 a0 (Eb a2 a0 n):=by
 induction n with
 | zero=>intro _ _ r h; cases h
 | succ n ih=>
  intro v1 v2 r h σ hσ S hS;refine ev hS ?_;rw[Eb] at h;refine AE (Ax ?_);obtain⟨h3,h⟩|⟨h3,h⟩:=ic h
  ·obtain⟨x4,h4,h⟩:=ob h;obtain⟨r5,h5,h⟩:=ob h;try simp only[hσ,h3,h4,C,E,F,G,H,J]
   refine AA (Ae SE h5) ?_;obtain⟨h6,h⟩|⟨h6,h⟩:=ic h
   ·try simp only[h3,h4,h6,C,E,F,G,H,J]
    refine Ay ?_;obtain⟨x7,h7,h⟩:=ob h;obtain⟨x8,h8,h⟩:=ob h;have h8n:=Au h8;obtain⟨r9,h9,h⟩:=ob h;try simp only[h3,h4,h6,h7,h8,h8n,C,E,F,G,H,J]
    refine Cc (Ae dI h9) ?_;obtain⟨h10,h⟩|⟨h10,h⟩:=ic h
    ·try simp only[h3,h4,h6,h7,h8,h8n,h10,C,E,F,G,H,J]
     refine dN ih h ?_ (by kernel_rfl);try simp only[h3,h4,h6,h7,h8,h8n,h10,C,E,F,G,H,J,pL,aM,I]
    ·obtain⟨r11,h11,h⟩:=ob h;try simp only[h3,h4,h6,h7,h8,h8n,h10,C,E,F,G,H,J]
     refine BO (Ae dH h11) X (BD X) X (uf X) ?_;try simp only[h3,h4,h6,h7,h8,h8n,h10,C,E,F,G,H,J]
     refine dN ih h ?_ (by kernel_rfl);try simp only[h3,h4,h6,h7,h8,h8n,h10,C,E,F,G,H,J,pL,aM,I]
   ·try simp only[h3,h4,h6,C,E,F,G,H,J]
    cases h;trivial
  ·try simp only[hσ,h3,C,E,F,G,H,J]
   cases h;trivial
instance B8l:Ct 194 (∀{a0} {a1} {a2} {r},GT a0 a1 a2=N r→FC Z 194 [.ag (X1.row a0),.sc (.int .i64 a1),.sc (.sl (Y rI a2))] [.sc (.o 1 (Y rI r.1)),.sc (.v (.bool r.2))]):=by
 refine⟨fun{a0} {a1} {a2} {r} h=> ?_⟩;unfold GT at h;refine A5 A4 TC [6,7] 52 ?_;have s0:= @Al (Y rI ([a1]:P U));have k0:= @A6q;exact gc
instance B73:Ct 193 (∀{a0} {a1} {a2} {r},EG a0 a1 a2=N r→FC Z 193 [.ag (X1.row a0),.sc (.int .i64 a1),.sc (.sl (Y rI a2))] [.sc (.v (.bool r))]):=by
 refine⟨fun h=> ?_⟩;unfold EG at h;refine A5 A4 h0 [6] 29 ?_;exact gc
instance B74:Ct 168 (∀{a0} {a1} {a2} {r},FI a0 a1 a2=N r→FC Z 168 [.ag (X1.row a0),.sc (.int .i64 a1),.sc (.sl (Y rI a2))] [.sc (.o 1 (Y rI r))]):=by
 refine⟨fun h=> ?_⟩;unfold FI at h;refine A5 A4 h0 [6] 22 ?_;exact gc
def XZ:Hw:=([(6,[1,7,8,9],[],[])],[])
def hZ:=fun a1 a0 (k_:U→Q V)=>∀{v1} {zr},k_ v1=N zr→Kh Z 195 XZ 6 [1,7,8,9] [] [] ⟨[pI 1 a1,pL 7 X6.row a0,pI 8 (a0.length:U),pI 9 v1],[],[]⟩ (A8 [4] [.sc (.v (.bool zr))])
theorem A6r{a1 a0}{n:W}:hZ a1 a0 (J3 a1 a0 n):=by
 induction n with
 | zero=>intro _ r h; cases h
 | succ n ih=>
  intro v1 r h σ hσ;rw[J3] at h;exact gc
instance B7m:Ct 195 (∀{a0} {a1} {r},O0 a0 a1=N r→FC Z 195 [.sc (.sl (Y X6.row a0)),.sc (.int .i64 a1)] [.sc (.v (.bool r))]):=by
 refine⟨fun h=> ?_⟩;unfold O0 at h;refine A5 A4 XZ [4] 20 ?_;have k0:= @A6r;exact gc
def Y0:Hw:=([(14,[1,10,11,12],[],[])],[])
def iG:=fun a1 a0 (k_:U→Q U)=>∀{v3} {zr},k_ v3=N zr→Kh Z 197 Y0 14 [1,10,11,12] [] [] ⟨[pI 1 a1,pL 10 X6.row a0,pI 11 (a0.length:U),pI 12 v3],[],[]⟩ (A8 [4] [.sc (.v (.int .i64 zr))])
theorem A6s{a1 a0}{n:W}:iG a1 a0 (J6 a1 a0 n):=by
 induction n with
 | zero=>intro _ r h; cases h
 | succ n ih=>
  intro v3 r h σ hσ;rw[J6] at h;exact gc
instance A5p:Ct 197 (∀{a0} {a1} {r},O6 a0 a1=N r→FC Z 197 [.sc (.sl (Y X6.row a0)),.sc (.int .i64 a1)] [.sc (.v (.int .i64 r))]):=by
 refine⟨fun h=> ?_⟩;unfold O6 at h;refine A5 A4 Y0 [4] 25 ?_;have k0:= @A6s;exact gc
def TD:Hw:=([(16,[2,3,4,6,7,14,15],[6,7],[1600]),(32,[2,3,4,6,7,14,15,17,73],[6,7],[1600])],[])
def ij:=fun a2 a3 a4 v4 r12 (a0:X1) (a1:X4) v5 (k_:V→Q ((P U) × V))=>∀{v17} {zr},k_ v17=N zr→Kh Z 169 TD 32 [2,3,4,6,7,14,15,17,73] [6,7] [1600] ⟨[pL 2 rI a2,pL 3 rI a3,pL 4 (rL X6.row) a4,pB 6,pB 7,pW 14 1600,pI 15 v4,pI 17 r12,(73,vc (aB v17))],[(6,[aM X7.row a0.Points,aM X2.row a0.Segments]),(7,(dm a1.row))],[(1600,1,Y rI v5)]⟩ (A8 [12,13] [.sc (.o 1 (Y rI zr.1)),.sc (.v (.bool zr.2))])
def VZ:=fun a2 a3 a4 (a0:X1) (a1:X4) (k_:U→(P U)→Q ((P U) × V))=>∀{v4 v5} {zr},k_ v4 v5=N zr→Kh Z 169 TD 16 [2,3,4,6,7,14,15] [6,7] [1600] ⟨[pL 2 rI a2,pL 3 rI a3,pL 4 (rL X6.row) a4,pB 6,pB 7,pW 14 1600,pI 15 v4],[(6,[aM X7.row a0.Points,aM X2.row a0.Segments]),(7,(dm a1.row))],[(1600,1,Y rI v5)]⟩ (A8 [12,13] [.sc (.o 1 (Y rI zr.1)),.sc (.v (.bool zr.2))])
theorem Vh{a2 a3 a4 v4 r12 a0 a1 v5}{S3}(tT:VZ a2 a3 a4 a0 a1 S3):ij a2 a3 a4 v4 r12 a0 a1 v5 (Jn a2 a3 a4 v4 r12 a0 a1 v5 S3):=by
 intro v17 r h σ hσ;unfold Jn at h;have s0:= @Al (Y rI ([r12]:P U));have k0:= @tT;exact gc
theorem A6t{a2 a3 a4 a0 a1}{n:W}:VZ a2 a3 a4 a0 a1 (EI a2 a3 a4 a0 a1 n):=by
 induction n with
 | zero=>intro _ _ r h; cases h
 | succ n ih=>
  intro v4 v5 r h σ hσ S hS;refine ev hS ?_;rw[EI] at h;refine AE (Ax ?_);obtain⟨h6,h⟩|⟨h6,h⟩:=ic h
  ·try simp only[hσ,h6,C,E,F,G,H,J]
   refine Ay ?_;obtain⟨x7,h7,h⟩:=ob h;have h7n:=Au h7;obtain⟨x8,h8,h⟩:=ob h;obtain⟨x9,h9,h⟩:=ob h;obtain⟨r10,h10,h⟩:=ob h;try simp only[h6,h7,h7n,h8,h9,C,E,F,G,H,J]
   refine Cc (Ae Vd h10) ?_;obtain⟨x11,h11,h⟩:=ob h;obtain⟨r12,h12,h⟩:=ob h;try simp only[h6,h7,h7n,h8,h9,h11,C,E,F,G,H,J]
   refine AA (Ae A5p h12) ?_;try simp only[h6,h7,h7n,h8,h9,h11,C,E,F,G,H,J]
   refine Ay ?_;obtain⟨h13,h⟩|⟨h13,h⟩:=ic h
   ·try simp only[h6,h7,h7n,h8,h9,h11,h13,C,E,F,G,H,J]
    refine Vh ih h ?_ (by kernel_rfl);try simp only[h6,h7,h7n,h8,h9,h11,h13,C,E,F,G,H,J,pL,aM,I]
   ·obtain⟨h14,h⟩|⟨h14,h⟩:=ic h
    ·obtain⟨x15,h15,h⟩:=ob h;obtain⟨x16,h16,h⟩:=ob h;try simp only[h6,h7,h7n,h8,h9,h11,h13,h14,h15,h16,C,E,F,G,H,J]
     refine Vh ih h ?_ (by kernel_rfl);try simp only[h6,h7,h7n,h8,h9,h11,h13,h14,h15,h16,C,E,F,G,H,J,pL,aM,I]
    ·try simp only[h6,h7,h7n,h8,h9,h11,h13,h14,C,E,F,G,H,J]
     refine Vh ih h ?_ (by kernel_rfl);try simp only[h6,h7,h7n,h8,h9,h11,h13,h14,C,E,F,G,H,J,pL,aM,I]
  ·try simp only[hσ,h6,C,E,F,G,H,J]
   cases h;trivial
instance A5v:Ct 169 (∀{a0} {a1} {a2} {a3} {a4} {a5} {r},Lo a0 a1 a2 a3 a4 a5=N r→FC Z 169 [.ag (X1.row a0),.ag (X4.row a1),.sc (.sl (Y rI a2)),.sc (.sl (Y rI a3)),.sc (.sl (Y (rL X6.row) a4)),.sc (.int .i64 a5)] [.sc (.o 1 (Y rI r.1)),.sc (.v (.bool r.2))]):=by
 refine⟨fun{a0} {a1} {a2} {a3} {a4} {a5} {r} h=> ?_⟩;unfold Lo at h;refine A5 A4 TD [12,13] 79 ?_;have s0:= @Al (Y rI ([a5]:P U));have k0:= @A6t;exact gc
instance A5j:Ct 198 (∀{a0} {a1} {a2} {a3} {r},NT a0 a1 a2 a3=N r→FC Z 198 [.ag (X1.row a0),.ag (X4.row a1),.sc (.sl (Y rI a2)),.sc (.sl (Y rI a3))] [.sc (.v (.int .i64 r))]):=by
 refine⟨fun h=> ?_⟩;unfold NT at h;refine A5 A4 h0 [8] 54 ?_;exact gc
def Y1:Hw:=([(18,[1,5,6,8,13,14,39,40,41],[6,8],[2176,2432])],[])
def iJ:=fun a1 a5 a4 (a0:X1) (a2:X4) r6 (k_:U→(P X3)→Q (P X3))=>∀{v7 v8} {zr},k_ v7 v8=N zr→Kh Z 199 Y1 18 [1,5,6,8,13,14,39,40,41] [6,8] [2176,2432] ⟨[pI 1 a1,pL 5 rI a5,pB 6,pB 8,pW 13 2176,pW 14 2432,pL 39 rI a4,pI 40 (a4.length:U),pI 41 v7],[(6,[aM X7.row a0.Points,aM X2.row a0.Segments]),(8,(dm a2.row))],[(2176,5,Y X3.row v8),(2432,1,Y rI r6)]⟩ (A8 [12] [.sc (.o 5 (Y X3.row zr))])
theorem A6u{a1 a5 a4 a0 a2 r6}{n:W}:iJ a1 a5 a4 a0 a2 r6 (J8 a1 a5 a4 a0 a2 r6 n):=by
 induction n with
 | zero=>intro _ _ r h; cases h
 | succ n ih=>
  intro v7 v8 r h σ hσ S hS;refine ev hS ?_;rw[J8] at h;refine AE (Ax ?_);obtain⟨h9,h⟩|⟨h9,h⟩:=ic h
  ·obtain⟨x10,h10,h⟩:=ob h;obtain⟨x11,h11,h⟩:=ob h;obtain⟨r12,h12,h⟩:=ob h;try simp only[hσ,h9,h10,h11,C,E,F,G,H,J]
   refine AA (Ae SE h12) ?_;obtain⟨h13,h⟩|⟨h13,h⟩:=ic h
   ·try simp only[h9,h10,h11,h13,C,E,F,G,H,J]
    refine Ay ?_;obtain⟨x14,h14,h⟩:=ob h;obtain⟨x15,h15,h⟩:=ob h;have h15n:=Au h15;obtain⟨r16,h16,h⟩:=ob h;try simp only[h9,h10,h11,h13,h14,h15,h15n,C,E,F,G,H,J]
    refine Cc (Ae Vd h16) ?_;try simp only[h9,h10,h11,h13,h14,h15,h15n,C,E,F,G,H,J]
    refine Bf (es:=Y X3.row ([(⟨a1,x10,(x14.A==x15),x11,(zH .i64 (x11+r16))⟩:X3)]:P X3)) ?_;obtain⟨h17,h⟩:=B3 h;try simp only[h9,h10,h11,h13,h14,h15,h15n,h17,C,E,F,G,H,J]
    refine Ay ?_;try simp only[h9,h10,h11,h13,h14,h15,h15n,h17,C,E,F,G,H,J]
    refine ih h ?_ (by kernel_rfl);try simp only[h9,h10,h11,h13,h14,h15,h15n,h17,C,E,F,G,H,J,pL,aM,I]
   ·try simp only[h9,h10,h11,h13,C,E,F,G,H,J]
    cases h;exact t0
  ·try simp only[hσ,h9,C,E,F,G,H,J]
   cases h;exact t0
instance A5q:Ct 199 (∀{a0} {a1} {a2} {a3} {a4} {a5} {r},Oa a0 a1 a2 a3 a4 a5=N r→FC Z 199 [.ag (X1.row a0),.sc (.int .i64 a1),.ag (X4.row a2),.sc (.int .i64 a3),.sc (.sl (Y rI a4)),.sc (.sl (Y rI a5))] [.sc (.o 5 (Y X3.row r))]):=by
 refine⟨fun h=> ?_⟩;unfold Oa at h;refine A5 A4 Y1 [12] 87 ?_;have s0:= @Al (Y X3.row ([]:P X3));have k0:= @A6u;exact gc
def eI:P (P W × AItem):= [([],(O,.load 65 (S 11) T 4)),([],(O,.faddr 66 (S 11) 1)),([1],(O,.load 67 (S 66) L 1)),([2],(O,.bin 68 .leq (S 67) (K 2880))),([0,0],(O,.store (S 8) (S 65) 4)),([3,4,0,1,2,3,4],(O,.mv 9 (S 68)))]
def Y3:Hw:=([(12,[4,8,10,11,46,47,48],[4,8,10,11],[2432])],[])
abbrev JQ(x2 r3 v6:U)(c0_ c1_:V)(c2_ c3_ c5_:V)(bx_:P (W × P AC))(rs_:Rows):St:=⟨[(8,vc (.pb 8 0)),(11,vc (.pb 11 0)),(65,bif c0_ then va [aI x2,aI r3,aI v6,.own 2432] else .undef),(66,bif c1_ then vc (.pb 11 1) else .undef),(67,bif c2_ then vc (aI r3) else .undef),(68,bif c3_ then vc (aB (decide (r3≤(2880:U)))) else .undef),(9,bif c5_ then vc (aB (decide (r3≤(2880:U)))) else .undef)],bx_,rs_⟩
abbrev Sy(x2 r3:U)(r4:(P X3))(v6:U):St:=(JQ x2 r3 v6 T T T T T [(8,[aI x2,aI r3,aI v6,.own 2432]),(11,[aI x2,aI r3,aI v6,.own 2432])] [(2432,5,Y X3.row r4)])
theorem A6v(x2 r3 r4 v6):∀(f:W) (b1 b2:V) (b3 b5:V),Ad Z eI (Sy x2 r3 r4 v6) f [T,b1,b2,b3,T,b5] (JQ x2 r3 v6 T b1 b2 b3 b5 [(8,[aI x2,aI r3,aI v6,.own 2432]),(11,[aI x2,aI r3,aI v6,.own 2432])] [(2432,5,Y X3.row r4)]):=by
 intro f
 induction f with
 | zero=>
  intro b1 b2 b3 b5 h;obtain rfl:b1=T:=zD.1 h b1 (by simp);obtain rfl:b2=T:=zD.1 h b2 (by simp);obtain rfl:b3=T:=zD.1 h b3 (by simp);obtain rfl:b5=T:=zD.1 h b5 (by simp);rfl
 | succ f ih=>
  intro b1 b2 b3 b5;refine Ai ⟨?_,?_,?_,?_,?_,?_,⟨⟩⟩<;>try first | (intro h; cases h; done) | (intro h0 hw; obtain rfl:=hz h0 rfl; (try obtain rfl:=hq hw 1 rfl rfl); (try obtain rfl:=hq hw 2 rfl rfl); (try obtain rfl:=hq hw 3 rfl rfl); refine np ?_; simp only[JQ,A6,A7,A2,C,E,F,G,H,J]; exact ih _ _ _ _)
theorem A6w(x2 r3 r4 v6):∀(f:W) (b0 b1:V) (b2 b3:V),Ad Z eI (Sy x2 r3 r4 v6) f [b0,b1,b2,b3,L,L] (JQ x2 r3 v6 b0 b1 b2 b3 L [(8,[aI (0:U),aI (0:U),aI (0:U),.nil]),(11,[aI x2,aI r3,aI v6,.own 2432])] [(2432,5,Y X3.row r4)]):=by
 intro f
 induction f with
 | zero=>intro b0 b1 b2 b3 h; simp at h
 | succ f ih=>
  intro b0 b1 b2 b3;refine Ai ⟨?_,?_,?_,?_,?_,?_,⟨⟩⟩<;>try first | (intro _ hw; simp at hw; done) | (intro h0 hw; obtain rfl:=hz h0 rfl; (try obtain rfl:=hq hw 1 rfl rfl); (try obtain rfl:=hq hw 2 rfl rfl); refine np ?_; simp only[JQ,A6,A7,A2,C,E,F,G,H,J]; exact ih _ _ _ _)
  ·intro h0 hw;obtain rfl:=hq hw 0 rfl rfl;refine np ?_;try simp only[JQ,A6,A7,A2,C,E,F,G,H,J]
   exact A6v x2 r3 r4 v6 _ b1 b2 b3 L
def iw:=fun a2 (a0:X5) (x1:X4) x2 r3 r4 (k_:U→U→Q (X0 × V))=>∀{v5 v6} {zr},k_ v5 v6=N zr→Kh Z 170 Y3 12 [4,8,10,11,46,47,48] [4,8,10,11] [2432] ⟨[pB 4,pB 8,pB 10,pB 11,pL 46 rI a2,pI 47 (a2.length:U),pI 48 v5],[(4,([aI a0.Forecast.Tide.Mean,aM zA a0.Forecast.Tide.Parts,aM zB a0.Forecast.Surges,aM X7.row a0.Chart.Points,aM X2.row a0.Chart.Segments,aM X4.row a0.Fleet,aI a0.Regime.Gap,aB a0.Regime.NoMeet]++dm a0.Crew.row)),(8,[aI (0:U),aI (0:U),aI (0:U),.nil]),(10,(dm x1.row)),(11,[aI x2,aI r3,aI v6,.own 2432])],[(2432,5,Y X3.row r4)]⟩ (A8 [.c 8 T 4,9] [.ag [.v (.int .i64 zr.1.Start),.v (.int .i64 zr.1.Arrival),.v (.int .i64 zr.1.Cost),.o 5 (Y X3.row zr.1.Passages)],.sc (.v (.bool zr.2))])
theorem A6x{a2 a0 x1 x2 r3 r4}{n:W}:iw a2 a0 x1 x2 r3 r4 (H3 a2 a0 x1 x2 r3 r4 n):=by
 induction n with
 | zero=>intro _ _ r h; cases h
 | succ n ih=>
  intro v5 v6 r h σ hσ S hS;refine ev hS ?_;rw[H3] at h;refine AE (Ax ?_);obtain⟨h7,h⟩|⟨h7,h⟩:=ic h
  ·obtain⟨x8,h8,h⟩:=ob h;try simp only[hσ,h7,h8,C,E,F,G,H,J]
   refine Ay ?_;obtain⟨x9,h9,h⟩:=ob h;obtain⟨r10,h10,h⟩:=ob h;try simp only[h7,h8,h9,C,E,F,G,H,J]
   refine Cc (Ae Vd h10) ?_;try simp only[h7,h8,h9,C,E,F,G,H,J]
   refine Ay ?_;try simp only[h7,h8,h9,C,E,F,G,H,J]
   refine ih h ?_ (by kernel_rfl);try simp only[h7,h8,h9,C,E,F,G,H,J,pL,aM,I]
  ·try simp only[hσ,h7,C,E,F,G,H,J]
   refine Ee (ks:= [8,11]) (bs:= [8,11]) (rs:= [2432]) (τ:=(Sy x2 r3 r4 v6)) X (A6w x2 r3 r4 v6 _ L L L L) ?_;simp only[Sy,JQ,A6];try simp only[h7,C,E,F,G,H,J]
   cases h;try simp only[PE,C,E,F,G,H,J]
   trivial
instance A5z:Ct 170 (∀{a0} {a1} {a2} {a3} {r},Oy a0 a1 a2 a3=N r→FC Z 170 [.ag (X5.row a0),.ag (zG a1),.sc (.sl (Y rI a2)),.sc (.sl (Y rI a3))] [.ag [.v (.int .i64 r.1.Start),.v (.int .i64 r.1.Arrival),.v (.int .i64 r.1.Cost),.o 5 (Y X3.row r.1.Passages)],.sc (.v (.bool r.2))]):=by
 refine⟨fun{a0} {a1} {a2} {a3} {r} h=> ?_⟩;unfold Oy at h;refine A5 A4 Y3 [.c 8 T 4,9] 69 ?_;intro S hS;refine ev hS ?_;simp only[C,E,F,G,H,J];try simp only[C,E,F,G,H,J]
 refine Bg ?_;try simp only[C,E,F,G,H,J]
 refine Bg ?_;try simp only[C,E,F,G,H,J]
 refine BM ?_;obtain⟨x1,h1,h⟩:=ob h;try simp only[h1,C,E,F,G,H,J]
 refine BM ?_;try simp only[h1,C,E,F,G,H,J]
 refine Ay ?_;obtain⟨x2,h2,h⟩:=ob h;obtain⟨r3,h3,h⟩:=ob h;try simp only[h1,h2,C,E,F,G,H,J]
 refine Cc (Ae A5j h3) ?_;obtain⟨r4,h4,h⟩:=ob h;try simp only[h1,h2,C,E,F,G,H,J]
 refine Cc (Ae A5q h4) ?_;try simp only[h1,h2,C,E,F,G,H,J]
 refine Tz (m:= .box 11 [aI (0:U),aI (0:U),aI (0:U),.nil]) X X (Sb X X) ?_;try simp only[h1,h2,C,E,F,G,H,J]
 refine Ay ?_;try simp only[h1,h2,C,E,F,G,H,J]
 refine A6x h ?_ (by kernel_rfl);try simp only[h1,h2,C,E,F,G,H,J,pL,aM,I]
def TE:Hw:=([(32,[2,3,5,7,8,9,10,11],[2,3,7],[2816,3200,3264]),(56,[2,3,5,7,8,9,10,11],[2,3,7],[2816,3200,3264])],[(54,2,(O,.frz 5315))])
def iI:=fun(r3:(P U) × V) v8 (a0:X5) (a1:Xb) (x5:X4) r6 r7 (k_:(P X0)→Q (P X0))=>∀{v17} {zr},k_ v17=N zr→Kh Z 135 TE 56 [2,3,5,7,8,9,10,11] [2,3,7] [2816,3200,3264] ⟨[pB 2,pB 3,pL 5 rI r3.1,pB 7,pW 8 2816,pW 9 3200,pW 10 3264,pI 11 v8],[(2,([aI a0.Forecast.Tide.Mean,aM zA a0.Forecast.Tide.Parts,aM zB a0.Forecast.Surges,aM X7.row a0.Chart.Points,aM X2.row a0.Chart.Segments,aM X4.row a0.Fleet,aI a0.Regime.Gap,aB a0.Regime.NoMeet]++dm a0.Crew.row)),(3,(dm a1.row)),(7,(dm x5.row))],[(2816,1,Y (rL X6.row) r6),(3200,1,Y rI r7),(3264,4,Y X0.row v17)]⟩ (A8 [4] [.sc (.o 4 (Y X0.row zr))])
def VT:=fun(r3:(P U) × V) (a0:X5) (a1:Xb) (x5:X4) r6 r7 (k_:U→(P X0)→Q (P X0))=>∀{v8 v9} {zr},k_ v8 v9=N zr→Kh Z 135 TE 32 [2,3,5,7,8,9,10,11] [2,3,7] [2816,3200,3264] ⟨[pB 2,pB 3,pL 5 rI r3.1,pB 7,pW 8 2816,pW 9 3200,pW 10 3264,pI 11 v8],[(2,([aI a0.Forecast.Tide.Mean,aM zA a0.Forecast.Tide.Parts,aM zB a0.Forecast.Surges,aM X7.row a0.Chart.Points,aM X2.row a0.Chart.Segments,aM X4.row a0.Fleet,aI a0.Regime.Gap,aB a0.Regime.NoMeet]++dm a0.Crew.row)),(3,(dm a1.row)),(7,(dm x5.row))],[(2816,1,Y (rL X6.row) r6),(3200,1,Y rI r7),(3264,4,Y X0.row v9)]⟩ (A8 [4] [.sc (.o 4 (Y X0.row zr))])
theorem Vj{r3 v8 a0 a1 x5 r6 r7}{RY}(tP:VT r3 a0 a1 x5 r6 r7 RY):iI r3 v8 a0 a1 x5 r6 r7 (J7 r3 v8 a0 a1 x5 r6 r7 RY):=by
 intro v17 r h σ hσ;unfold J7 at h;have k0:= @tP;exact gc
theorem A6y{r3 a0 a1 x5 r6 r7}{n:W}:VT r3 a0 a1 x5 r6 r7 (FH r3 a0 a1 x5 r6 r7 n):=by
 induction n with
 | zero=>intro _ _ r h; cases h
 | succ n ih=>
  intro v8 v9 r h σ hσ S hS;refine ev hS ?_;rw[FH] at h;refine AE (Ax ?_);obtain⟨h10,h⟩|⟨h10,h⟩:=ic h
  ·obtain⟨h11,h⟩|⟨h11,h⟩:=ic h
   ·obtain⟨r12,h12,h⟩:=ob h;try simp only[hσ,h10,h11,C,E,F,G,H,J]
    refine BO (Ae A5v h12) X (D0 X ⟨D1,X,⟨⟩⟩) X (uf X) ?_;obtain⟨h13,h⟩|⟨h13,h⟩:=ic h
    ·obtain⟨r14,h14,h⟩:=ob h;try simp only[h10,h11,h13,C,E,F,G,H,J]
     refine BO (Ae A5z h14) X (D0 X ⟨X,X,X,D1,X,⟨⟩⟩) X (uf X) ?_;try simp only[h10,h11,h13,C,E,F,G,H,J]
     refine BM ?_;obtain⟨h15,h⟩|⟨h15,h⟩:=ic h
     ·try simp only[h10,h11,h13,h15,C,E,F,G,H,J]
      refine Cj ?_;try simp only[h10,h11,h13,h15,C,E,F,G,H,J]
      refine Bf (es:=Y X0.row ([r14.1]:P X0)) ?_;obtain⟨h16,h⟩:=B3 h;try simp only[h10,h11,h13,h15,h16,C,E,F,G,H,J]
      refine Vj ih h ?_ (by kernel_rfl);try simp only[h10,h11,h13,h15,h16,C,E,F,G,H,J,pL,aM,I]
     ·try simp only[h10,h11,h13,h15,C,E,F,G,H,J]
      refine Vj ih h ?_ (by kernel_rfl);try simp only[h10,h11,h13,h15,C,E,F,G,H,J,pL,aM,I]
    ·try simp only[h10,h11,h13,C,E,F,G,H,J]
     refine Vj ih h ?_ (by kernel_rfl);try simp only[h10,h11,h13,C,E,F,G,H,J,pL,aM,I]
   ·try simp only[hσ,h10,h11,C,E,F,G,H,J]
    cases h;exact t0
  ·try simp only[hσ,h10,C,E,F,G,H,J]
   cases h;exact t0
instance B7v:Ct 135 (∀{a0} {a1} {r},O8 a0 a1=N r→FC Z 135 [.ag (X5.row a0),.ag (zG a1)] [.sc (.o 4 (Y X0.row r))]):=by
 refine⟨fun h=> ?_⟩;unfold O8 at h;refine A5 A4 TE [4] 92 ?_;have s0:= @Al (Y X0.row ([]:P X0));have k0:= @A6y;exact gc
def Y4:Hw:=([(6,[2,7,8,9],[2],[])],[])
def iA:=fun a1 (a0:X3) (k_:U→Q V)=>∀{v1} {zr},k_ v1=N zr→Kh Z 171 Y4 6 [2,7,8,9] [2] [] ⟨[pB 2,pL 7 X9.row a1,pI 8 (a1.length:U),pI 9 v1],[(2,(dm a0.row))],[]⟩ (A8 [4] [.sc (.v (.bool zr))])
theorem A6z{a1 a0}{n:W}:iA a1 a0 (GM a1 a0 n):=by
 induction n with
 | zero=>intro _ r h; cases h
 | succ n ih=>
  intro v1 r h σ hσ;rw[GM] at h;exact gc
instance B7n:Ct 171 (∀{a0} {a1} {r},QX a0 a1=N r→FC Z 171 [.ag (X3.row a0),.sc (.sl (Y X9.row a1))] [.sc (.v (.bool r))]):=by
 refine⟨fun h=> ?_⟩;unfold QX at h;refine A5 A4 Y4 [4] 32 ?_;have k0:= @A6z;exact gc
def Y5:Hw:=([(6,[1,8,9,10],[],[])],[])
def iS:=fun a1 (a0:X0) (k_:U→Q V)=>∀{v1} {zr},k_ v1=N zr→Kh Z 136 Y5 6 [1,8,9,10] [] [] ⟨[pL 1 X9.row a1,pL 8 X3.row a0.Passages,pI 9 (a0.Passages.length:U),pI 10 v1],[],[]⟩ (A8 [4] [.sc (.v (.bool zr))])
theorem A61{a1 a0}{n:W}:iS a1 a0 (Je a1 a0 n):=by
 induction n with
 | zero=>intro _ r h; cases h
 | succ n ih=>
  intro v1 r h σ hσ;rw[Je] at h;exact gc
instance A5r:Ct 136 (∀{a0} {a1} {r},R4 a0 a1=N r→FC Z 136 [.ag (X0.row a0),.sc (.sl (Y X9.row a1))] [.sc (.v (.bool r))]):=by
 refine⟨fun h=> ?_⟩;unfold R4 at h;refine A5 A4 Y5 [4] 18 ?_;have k0:= @A61;exact gc
def Y6:Hw:=([(16,[2,7,24,25,26],[],[1344,1536])],[])
def iH:=fun a2 r5 (k_:U→(P X0)→Q (P X0))=>∀{v6 v7} {zr},k_ v6 v7=N zr→Kh Z 91 Y6 16 [2,7,24,25,26] [] [1344,1536] ⟨[pL 2 X9.row a2,pW 7 1344,pW 24 1536,pI 25 (r5.length:U),pI 26 v6],[],[(1344,4,Y X0.row v7),(1536,4,Y X0.row r5)]⟩ (A8 [6] [.sc (.o 4 (Y X0.row zr))])
theorem A62{a2 r5}{n:W}:iH a2 r5 (GP a2 r5 n):=by
 induction n with
 | zero=>intro _ _ r h; cases h
 | succ n ih=>
  intro v6 v7 r h σ hσ S hS;refine ev hS ?_;rw[GP] at h;refine AE (Ax ?_);obtain⟨h8,h⟩|⟨h8,h⟩:=ic h
  ·obtain⟨x9,h9,h⟩:=ob h;have h9n:=Au h9;try simp only[hσ,h8,h9,h9n,C,E,F,G,H,J]
   refine BM ?_;obtain⟨r10,h10,h⟩:=ob h;try simp only[h8,h9,h9n,C,E,F,G,H,J]
   refine AA (Ae A5r h10) ?_;obtain⟨h11,h⟩|⟨h11,h⟩:=ic h
   ·try simp only[h8,h9,h9n,h11,C,E,F,G,H,J]
    refine ih h ?_ (by kernel_rfl);try simp only[h8,h9,h9n,h11,C,E,F,G,H,J,pL,aM,I]
   ·try simp only[h8,h9,h9n,h11,C,E,F,G,H,J]
    refine Bf (es:=Y X0.row ([x9]:P X0)) ?_;obtain⟨h12,h⟩:=B3 h;try simp only[h8,h9,h9n,h11,h12,C,E,F,G,H,J]
    refine ih h ?_ (by kernel_rfl);try simp only[h8,h9,h9n,h11,h12,C,E,F,G,H,J,pL,aM,I]
  ·try simp only[hσ,h8,C,E,F,G,H,J]
   cases h;exact t0
instance B7u:Ct 91 (∀{a0} {a1} {a2} {r},O7 a0 a1 a2=N r→FC Z 91 [.ag (X5.row a0),.ag (zG a1),.sc (.sl (Y X9.row a2))] [.sc (.o 4 (Y X0.row r))]):=by
 refine⟨fun h=> ?_⟩;unfold O7 at h;refine A5 A4 Y6 [6] 40 ?_;have s0:= @Al (Y X0.row ([]:P X0));have k0:= @A62;exact gc
def Y7:Hw:=([(8,[2,3,7,11,12,13],[3],[640])],[(19,5,(O,.frz 1344))])
def jJ:=fun a2 a1 (a0:X5) (k_:U→(P (P X0))→Q (P (P X0)))=>∀{v1 v2} {zr},k_ v1 v2=N zr→Kh Z 47 Y7 8 [2,3,7,11,12,13] [3] [640] ⟨[pL 2 X9.row a2,pB 3,pW 7 640,pL 11 zG a1,pI 12 (a1.length:U),pI 13 v1],[(3,([aI a0.Forecast.Tide.Mean,aM zA a0.Forecast.Tide.Parts,aM zB a0.Forecast.Surges,aM X7.row a0.Chart.Points,aM X2.row a0.Chart.Segments,aM X4.row a0.Fleet,aI a0.Regime.Gap,aB a0.Regime.NoMeet]++dm a0.Crew.row))],[(640,1,Y (rL X0.row) v2)]⟩ (A8 [6] [.sc (.o 1 (Y (rL X0.row) zr))])
theorem A63{a2 a1 a0}{n:W}:jJ a2 a1 a0 (Jt a2 a1 a0 n):=by
 induction n with
 | zero=>intro _ _ r h; cases h
 | succ n ih=>
  intro v1 v2 r h σ hσ;rw[Jt] at h;have s0:=fun(r5:(P X0))=> @Al (Y (rL X0.row) ([r5]:P (P X0)))
  exact gc
instance B80:Ct 47 (∀{a0} {a1} {a2} {r},Rf a0 a1 a2=N r→FC Z 47 [.ag (X5.row a0),.sc (.sl (Y zG a1)),.sc (.sl (Y X9.row a2))] [.sc (.o 1 (Y (rL X0.row) r))]):=by
 refine⟨fun h=> ?_⟩;unfold Rf at h;refine A5 A4 Y7 [6] 26 ?_;have s0:= @Al (Y (rL X0.row) ([]:P (P X0)));have k0:= @A63;exact gc
def TF:Hw:=([(8,[0,1,5,6],[],[448]),(22,[0,1,5,6],[],[448])],[])
def jD:=fun a0 a1 v1 (k_:(P U)→Q (P U))=>∀{v7} {zr},k_ v7=N zr→Kh Z 49 TF 22 [0,1,5,6] [] [448] ⟨[pI 0 a0,pI 1 a1,pW 5 448,pI 6 v1],[],[(448,1,Y rI v7)]⟩ (A8 [4] [.sc (.o 1 (Y rI zr))])
def W6:=fun a0 a1 (k_:U→(P U)→Q (P U))=>∀{v1 v2} {zr},k_ v1 v2=N zr→Kh Z 49 TF 8 [0,1,5,6] [] [448] ⟨[pI 0 a0,pI 1 a1,pW 5 448,pI 6 v1],[],[(448,1,Y rI v2)]⟩ (A8 [4] [.sc (.o 1 (Y rI zr))])
theorem dO{a0 a1 v1}{S4}(tZ:W6 a0 a1 S4):jD a0 a1 v1 (Re a0 a1 v1 S4):=by
 intro v7 r h σ hσ;unfold Re at h;have k0:= @tZ;exact gc
theorem A64{a0 a1}{n:W}:W6 a0 a1 (OC a0 a1 n):=by
 induction n with
 | zero=>intro _ _ r h; cases h
 | succ n ih=>
  intro v1 v2 r h σ hσ S hS;refine ev hS ?_;rw[OC] at h;refine AE (Ax ?_);obtain⟨h3,h⟩|⟨h3,h⟩:=ic h
  ·obtain⟨h4,h⟩:=Hq h;obtain⟨h5,h⟩|⟨h5,h⟩:=ic h
   ·try simp only[hσ,h3,h4,h5,C,E,F,G,H,J]
    refine Bf (es:=Y rI ([v1]:P U)) ?_;obtain⟨h6,h⟩:=B3 h;try simp only[h3,h4,h5,h6,C,E,F,G,H,J]
    refine dO ih h ?_ (by kernel_rfl);try simp only[h3,h4,h5,h6,C,E,F,G,H,J,pL,aM,I]
   ·try simp only[hσ,h3,h4,h5,C,E,F,G,H,J]
    refine dO ih h ?_ (by kernel_rfl);try simp only[h3,h4,h5,C,E,F,G,H,J,pL,aM,I]
  ·try simp only[hσ,h3,C,E,F,G,H,J]
   cases h;exact t0
instance B8x:Ct 49 (∀{a0} {a1} {r},OB a0 a1=N r→FC Z 49 [.sc (.int .i64 a0),.sc (.int .i64 a1)] [.sc (.o 1 (Y rI r))]):=by
 refine⟨fun h=> ?_⟩;unfold OB at h;refine A5 A4 TF [4] 23 ?_;have s0:= @Al (Y rI ([]:P U));have k0:= @A64;exact gc
instance B7w:Ct 221 (∀{a0} {a1} {r},Li a0 a1=N r→FC Z 221 [.ag (X3.row a0),.ag (X3.row a1)] [.sc (.v (.bool r))]):=by
 refine⟨fun h=> ?_⟩;unfold Li at h;refine A5 A4 h0 [4] 16 ?_;exact gc
def Y8:Hw:=([(14,[2,7,8],[],[])],[])
def il:=fun a2 (k_:U→U→Q V)=>∀{v3 v4} {zr},k_ v3 v4=N zr→Kh Z 222 Y8 14 [2,7,8] [] [] ⟨[pI 2 a2,pI 7 v3,pI 8 v4],[],[]⟩ (A8 [6] [.sc (.v (.bool zr))])
theorem A65{a2}:il a2 (Ov a2):=by
 intro v3 v4 r h σ hσ;unfold Ov at h;exact gc
instance B8q:Ct 222 (∀{a0} {a1} {a2} {r},Lp a0 a1 a2=N r→FC Z 222 [.sc (.int .i64 a0),.sc (.int .i64 a1),.sc (.int .i64 a2)] [.sc (.v (.bool r))]):=by
 refine⟨fun h=> ?_⟩;unfold Lp at h;refine A5 A4 Y8 [6] 28 ?_;have k0:= @A65;exact gc
instance B7f:Ct 200 (∀{a0} {a1} {a2} {a3} {r},NW a0 a1 a2 a3=N r→FC Z 200 [.ag (X1.row a0),.ag (Xi.row a1),.ag (X3.row a2),.ag (X3.row a3)] [.sc (.v (.int .i64 r))]):=by
 refine⟨fun h=> ?_⟩;unfold NW at h;refine A5 A4 h0 [8] 108 ?_;exact gc
def TG:Hw:=([(6,[3,4,5,13,14,15],[4,5],[]),(20,[3,4,5,10,13,14,15,19,20,21],[4,5,10],[])],[])
def gw:=fun a3 a2 v1 (a0:X1) (a1:Xi) (x3:X3) (k_:U→Q V)=>∀{v4} {zr},k_ v4=N zr→Kh Z 172 TG 20 [3,4,5,10,13,14,15,19,20,21] [4,5,10] [] ⟨[pL 3 X3.row a3,pB 4,pB 5,pB 10,pL 13 X3.row a2,pI 14 (a2.length:U),pI 15 v1,pL 19 X3.row a3,pI 20 (a3.length:U),pI 21 v4],[(4,[aM X7.row a0.Points,aM X2.row a0.Segments]),(5,(dm a1.row)),(10,(dm x3.row))],[]⟩ (A8 [8] [.sc (.v (.bool zr))])
def VS:=fun a3 a2 (a0:X1) (a1:Xi) (k_:U→Q V)=>∀{v1} {zr},k_ v1=N zr→Kh Z 172 TG 6 [3,4,5,13,14,15] [4,5] [] ⟨[pL 3 X3.row a3,pB 4,pB 5,pL 13 X3.row a2,pI 14 (a2.length:U),pI 15 v1],[(4,[aM X7.row a0.Points,aM X2.row a0.Segments]),(5,(dm a1.row))],[]⟩ (A8 [8] [.sc (.v (.bool zr))])
theorem A66{a3 a2 v1 a0 a1 x3}{Pc}(tO:VS a3 a2 a0 a1 Pc){n:W}:gw a3 a2 v1 a0 a1 x3 (IW a3 a2 v1 a0 a1 x3 Pc n):=by
 induction n with
 | zero=>intro _ r h; cases h
 | succ n ih=>
  intro v4 r h σ hσ;rw[IW] at h;have k0:= @tO;exact gc
theorem A67{a3 a2 a0 a1}{n:W}:VS a3 a2 a0 a1 (FF a3 a2 a0 a1 n):=by
 induction n with
 | zero=>intro _ r h; cases h
 | succ n ih=>
  intro v1 r h σ hσ;rw[FF] at h;have k0:= @A66;exact gc
instance B7d:Ct 172 (∀{a0} {a1} {a2} {a3} {r},NV a0 a1 a2 a3=N r→FC Z 172 [.ag (X1.row a0),.ag (Xi.row a1),.sc (.sl (Y X3.row a2)),.sc (.sl (Y X3.row a3))] [.sc (.v (.bool r))]):=by
 refine⟨fun h=> ?_⟩;unfold NV at h;refine A5 A4 TG [8] 33 ?_;have k0:= @A67;exact gc
def OM:Hw:=([(8,[1,2,5,18,19,20],[2],[1088]),(25,[1,2,5,7,8,18,19,20,25,26,27],[2],[1088,1536]),(42,[1,2,5,7,8,10,11,18,19,20,25,26,27,32,33,34],[2],[1088,1536,1984]),(59,[1,2,5,7,8,10,11,13,14,18,19,20,25,26,27,32,33,34,39,40,41],[2,13],[1088,1536,1984,2432])],[(72,2,(O,.frz 2432)),(74,2,(O,.frz 1984)),(76,2,(O,.frz 1536))])
def iz:=fun a1 x4 x8 v1 v5 v9 (a0:X5) (x12:X0) v2 v6 v10 (k_:U→(P V)→Q (P (P (P (P V)))))=>∀{v13 v14} {zr},k_ v13 v14=N zr→Kh Z 137 OM 59 [1,2,5,7,8,10,11,13,14,18,19,20,25,26,27,32,33,34,39,40,41] [2,13] [1088,1536,1984,2432] ⟨[pL 1 (rL X0.row) a1,pB 2,pW 5 1088,pL 7 X0.row x4,pW 8 1536,pL 10 X0.row x8,pW 11 1984,pB 13,pW 14 2432,pL 18 (rL X0.row) a1,pI 19 (a1.length:U),pI 20 v1,pL 25 (rL X0.row) a1,pI 26 (a1.length:U),pI 27 v5,pL 32 X0.row x4,pI 33 (x4.length:U),pI 34 v9,pL 39 X0.row x8,pI 40 (x8.length:U),pI 41 v13],[(2,([aI a0.Forecast.Tide.Mean,aM zA a0.Forecast.Tide.Parts,aM zB a0.Forecast.Surges,aM X7.row a0.Chart.Points,aM X2.row a0.Chart.Segments,aM X4.row a0.Fleet,aI a0.Regime.Gap,aB a0.Regime.NoMeet]++dm a0.Crew.row)),(13,(dm x12.row))],[(1088,1,Y (rL (rL (rL rB))) v2),(1536,1,Y (rL (rL rB)) v6),(1984,1,Y (rL rB) v10),(2432,1,Y rB v14)]⟩ (A8 [4] [.sc (.o 1 (Y (rL (rL (rL rB))) zr))])
def W4:=fun a1 x4 x8 v1 v5 (a0:X5) v2 v6 (k_:U→(P (P V))→Q (P (P (P (P V)))))=>∀{v9 v10} {zr},k_ v9 v10=N zr→Kh Z 137 OM 42 [1,2,5,7,8,10,11,18,19,20,25,26,27,32,33,34] [2] [1088,1536,1984] ⟨[pL 1 (rL X0.row) a1,pB 2,pW 5 1088,pL 7 X0.row x4,pW 8 1536,pL 10 X0.row x8,pW 11 1984,pL 18 (rL X0.row) a1,pI 19 (a1.length:U),pI 20 v1,pL 25 (rL X0.row) a1,pI 26 (a1.length:U),pI 27 v5,pL 32 X0.row x4,pI 33 (x4.length:U),pI 34 v9],[(2,([aI a0.Forecast.Tide.Mean,aM zA a0.Forecast.Tide.Parts,aM zB a0.Forecast.Surges,aM X7.row a0.Chart.Points,aM X2.row a0.Chart.Segments,aM X4.row a0.Fleet,aI a0.Regime.Gap,aB a0.Regime.NoMeet]++dm a0.Crew.row))],[(1088,1,Y (rL (rL (rL rB))) v2),(1536,1,Y (rL (rL rB)) v6),(1984,1,Y (rL rB) v10)]⟩ (A8 [4] [.sc (.o 1 (Y (rL (rL (rL rB))) zr))])
def W3:=fun a1 x4 v1 (a0:X5) v2 (k_:U→(P (P (P V)))→Q (P (P (P (P V)))))=>∀{v5 v6} {zr},k_ v5 v6=N zr→Kh Z 137 OM 25 [1,2,5,7,8,18,19,20,25,26,27] [2] [1088,1536] ⟨[pL 1 (rL X0.row) a1,pB 2,pW 5 1088,pL 7 X0.row x4,pW 8 1536,pL 18 (rL X0.row) a1,pI 19 (a1.length:U),pI 20 v1,pL 25 (rL X0.row) a1,pI 26 (a1.length:U),pI 27 v5],[(2,([aI a0.Forecast.Tide.Mean,aM zA a0.Forecast.Tide.Parts,aM zB a0.Forecast.Surges,aM X7.row a0.Chart.Points,aM X2.row a0.Chart.Segments,aM X4.row a0.Fleet,aI a0.Regime.Gap,aB a0.Regime.NoMeet]++dm a0.Crew.row))],[(1088,1,Y (rL (rL (rL rB))) v2),(1536,1,Y (rL (rL rB)) v6)]⟩ (A8 [4] [.sc (.o 1 (Y (rL (rL (rL rB))) zr))])
def W2:=fun a1 (a0:X5) (k_:U→(P (P (P (P V))))→Q (P (P (P (P V)))))=>∀{v1 v2} {zr},k_ v1 v2=N zr→Kh Z 137 OM 8 [1,2,5,18,19,20] [2] [1088] ⟨[pL 1 (rL X0.row) a1,pB 2,pW 5 1088,pL 18 (rL X0.row) a1,pI 19 (a1.length:U),pI 20 v1],[(2,([aI a0.Forecast.Tide.Mean,aM zA a0.Forecast.Tide.Parts,aM zB a0.Forecast.Surges,aM X7.row a0.Chart.Points,aM X2.row a0.Chart.Segments,aM X4.row a0.Fleet,aI a0.Regime.Gap,aB a0.Regime.NoMeet]++dm a0.Crew.row))],[(1088,1,Y (rL (rL (rL rB))) v2)]⟩ (A8 [4] [.sc (.o 1 (Y (rL (rL (rL rB))) zr))])
theorem A68{a1 x4 x8 v1 v5 v9 a0 x12 v2 v6 v10}{Pi}(tY:W4 a1 x4 x8 v1 v5 a0 v2 v6 Pi){n:W}:iz a1 x4 x8 v1 v5 v9 a0 x12 v2 v6 v10 (Jq a1 x4 x8 v1 v5 v9 a0 x12 v2 v6 v10 Pi n):=by
 induction n with
 | zero=>intro _ _ r h; cases h
 | succ n ih=>
  intro v13 v14 r h σ hσ;rw[Jq] at h;have s0:=fun(r17:V)=> @Al (Y rB ([r17]:P V))
  have s1:= @Al (Y (rL rB) ([v14]:P (P V)));have k0:= @tY;exact gc
theorem A69{a1 x4 x8 v1 v5 a0 v2 v6}{Ph}(tX:W3 a1 x4 v1 a0 v2 Ph){n:W}:W4 a1 x4 x8 v1 v5 a0 v2 v6 (FR a1 x4 x8 v1 v5 a0 v2 v6 Ph n):=by
 induction n with
 | zero=>intro _ _ r h; cases h
 | succ n ih=>
  intro v9 v10 r h σ hσ;rw[FR] at h;have s0:= @Al (Y rB ([]:P V));have s1:= @Al (Y (rL (rL rB)) ([v10]:P (P (P V))));have k0:= @A68; have k1:= @tX;exact gc
theorem A7a{a1 x4 v1 a0 v2}{Pg}(tW:W2 a1 a0 Pg){n:W}:W3 a1 x4 v1 a0 v2 (Ed a1 x4 v1 a0 v2 Pg n):=by
 induction n with
 | zero=>intro _ _ r h; cases h
 | succ n ih=>
  intro v5 v6 r h σ hσ;rw[Ed] at h;have s0:= @Al (Y (rL rB) ([]:P (P V)));have s1:= @Al (Y (rL (rL (rL rB))) ([v6]:P (P (P (P V)))));have k0:= @A69; have k1:= @tW;exact gc
theorem A7b{a1 a0}{n:W}:W2 a1 a0 (Do a1 a0 n):=by
 induction n with
 | zero=>intro _ _ r h; cases h
 | succ n ih=>
  intro v1 v2 r h σ hσ;rw[Do] at h;have s0:= @Al (Y (rL (rL rB)) ([]:P (P (P V))));have k0:= @A7a;exact gc
instance A50:Ct 137 (∀{a0} {a1} {r},OA a0 a1=N r→FC Z 137 [.ag (X5.row a0),.sc (.sl (Y (rL X0.row) a1))] [.sc (.o 1 (Y (rL (rL (rL rB))) r))]):=by
 refine⟨fun h=> ?_⟩;unfold OA at h;refine A5 A4 OM [4] 74 ?_;have s0:= @Al (Y (rL (rL (rL rB))) ([]:P (P (P (P V)))));have k0:= @A7b;exact gc
def TH:Hw:=([(8,[0,3,6,7,8],[],[]),(21,[0,3,4,6,7,8,24],[],[])],[])
def gu:=fun a0 v1 v2 (k_:V→Q U)=>∀{v7} {zr},k_ v7=N zr→Kh Z 138 TH 21 [0,3,4,6,7,8,24] [] [] ⟨[pL 0 X0.row a0,pI 3 v1,pI 4 v2,pL 6 X0.row a0,pI 7 (a0.length:U),pI 8 v2,(24,vc (aB v7))],[],[]⟩ (A8 [2] [.sc (.v (.int .i64 zr))])
def VR:=fun a0 (k_:U→U→Q U)=>∀{v1 v2} {zr},k_ v1 v2=N zr→Kh Z 138 TH 8 [0,3,6,7,8] [] [] ⟨[pL 0 X0.row a0,pI 3 v1,pL 6 X0.row a0,pI 7 (a0.length:U),pI 8 v2],[],[]⟩ (A8 [2] [.sc (.v (.int .i64 zr))])
theorem dP{a0 v1 v2}{Pb}(tN:VR a0 Pb):gu a0 v1 v2 (L9 a0 v1 v2 Pb):=by
 intro v7 r h σ hσ;unfold L9 at h;have k0:= @tN;exact gc
theorem A7d{a0}{n:W}:VR a0 (GJ a0 n):=by
 induction n with
 | zero=>intro _ _ r h; cases h
 | succ n ih=>
  intro v1 v2 r h σ hσ S hS;refine ev hS ?_;rw[GJ] at h;refine AE (Ax ?_);obtain⟨h3,h⟩|⟨h3,h⟩:=ic h
  ·obtain⟨x4,h4,h⟩:=ob h;try simp only[hσ,h3,h4,C,E,F,G,H,J]
   refine BM ?_;try simp only[h3,h4,C,E,F,G,H,J]
   refine Ay ?_;obtain⟨h5,h⟩|⟨h5,h⟩:=ic h
   ·try simp only[h3,h4,h5,C,E,F,G,H,J]
    refine dP ih h ?_ (by kernel_rfl);try simp only[h3,h4,h5,C,E,F,G,H,J,pL,aM,I]
   ·obtain⟨x6,h6,h⟩:=ob h;try simp only[h3,h4,h5,h6,C,E,F,G,H,J]
    refine dP ih h ?_ (by kernel_rfl);try simp only[h3,h4,h5,h6,C,E,F,G,H,J,pL,aM,I]
  ·try simp only[hσ,h3,C,E,F,G,H,J]
   cases h;exact t0
instance A5m:Ct 138 (∀{a0} {r},QV a0=N r→FC Z 138 [.sc (.sl (Y X0.row a0))] [.sc (.v (.int .i64 r))]):=by
 refine⟨fun h=> ?_⟩;unfold QV at h;refine A5 A4 TH [2] 28 ?_;have k0:= @A7d;exact gc
def Ya:Hw:=([(8,[3,7,8,9],[],[384])],[(19,5,(O,.frz 896))])
def gp:=fun a0 (k_:U→(P (P X3))→Q (P (P X3)))=>∀{v1 v2} {zr},k_ v1 v2=N zr→Kh Z 174 Ya 8 [3,7,8,9] [] [384] ⟨[pW 3 384,pL 7 X0.row a0,pI 8 (a0.length:U),pI 9 v1],[],[(384,1,Y (rL X3.row) v2)]⟩ (A8 [2] [.sc (.o 1 (Y (rL X3.row) zr))])
theorem A7e{a0}{n:W}:gp a0 (IT a0 n):=by
 induction n with
 | zero=>intro _ _ r h; cases h
 | succ n ih=>
  intro v1 v2 r h σ hσ;rw[IT] at h;have s0:= @Al (Y X3.row ([]:P X3));have s1:=fun(x4:X0)=> @Al (Y (rL X3.row) ([x4.Passages]:P (P X3)))
  exact gc
instance A5k:Ct 174 (∀{a0} {r},L8 a0=N r→FC Z 174 [.sc (.sl (Y X0.row a0))] [.sc (.o 1 (Y (rL X3.row) r))]):=by
 refine⟨fun h=> ?_⟩;unfold L8 at h;refine A5 A4 Ya [2] 22 ?_;have s0:= @Al (Y (rL X3.row) ([]:P (P X3)));have k0:= @A7e;exact gc
instance B7y:Ct 243 (∀{a0} {a1} {a2} {r},Lj a0 a1 a2=N r→FC Z 243 [.ag (X1.row a0),.sc (.sl (Y X4.row a1)),.ag (X3.row a2)] [.sc (.v (.bool r))]):=by
 refine⟨fun h=> ?_⟩;unfold Lj at h;refine A5 A4 h0 [6] 60 ?_;exact gc
instance B8o:Ct 244 (∀{a0} {a1} {r},FO a0 a1=N r→FC Z 244 [.ag (X1.row a0),.ag (X3.row a1)] [.sc (.v (.int .i64 r.1)),.sc (.v (.int .i64 r.2))]):=by
 refine⟨fun h=> ?_⟩;unfold FO at h;refine A5 A4 h0 [4,5] 23 ?_;exact gc
def TI:Hw:=([(8,[1,3,8,15,16,17],[3],[896]),(33,[1,3,8,10,11,12,13,15,16,17],[3,10],[896])],[])
def iv:=fun a1 (r7:U × U) a2 v1 (a0:X1) (x4:X3) (k_:U→(P Xc)→Q ((P Xc) × V))=>∀{v8 v9} {zr},k_ v8 v9=N zr→Kh Z 223 TI 33 [1,3,8,10,11,12,13,15,16,17] [3,10] [896] ⟨[pL 1 X4.row a1,pB 3,pW 8 896,pB 10,pI 11 r7.1,pI 12 r7.2,pI 13 v8,pL 15 X3.row a2,pI 16 (a2.length:U),pI 17 v1],[(3,[aM X7.row a0.Points,aM X2.row a0.Segments]),(10,(dm x4.row))],[(896,4,Y zC v9)]⟩ (A8 [6,7] [.sc (.o 4 (Y zC zr.1)),.sc (.v (.bool zr.2))])
def W1:=fun a1 a2 (a0:X1) (k_:U→(P Xc)→Q ((P Xc) × V))=>∀{v1 v2} {zr},k_ v1 v2=N zr→Kh Z 223 TI 8 [1,3,8,15,16,17] [3] [896] ⟨[pL 1 X4.row a1,pB 3,pW 8 896,pL 15 X3.row a2,pI 16 (a2.length:U),pI 17 v1],[(3,[aM X7.row a0.Points,aM X2.row a0.Segments])],[(896,4,Y zC v2)]⟩ (A8 [6,7] [.sc (.o 4 (Y zC zr.1)),.sc (.v (.bool zr.2))])
theorem A7f{a1 r7 a2 v1 a0 x4}{Pf}(tV:W1 a1 a2 a0 Pf){n:W}:iv a1 r7 a2 v1 a0 x4 (H2 a1 r7 a2 v1 a0 x4 Pf n):=by
 induction n with
 | zero=>intro _ _ r h; cases h
 | succ n ih=>
  intro v8 v9 r h σ hσ;rw[H2] at h;have s0:= @Al (Y zC ([(⟨x4.Start,x4.End,r7.1,r7.2⟩:Xc)]:P Xc));have k0:= @tV;exact gc
theorem A7g{a1 a2 a0}{n:W}:W1 a1 a2 a0 (FQ a1 a2 a0 n):=by
 induction n with
 | zero=>intro _ _ r h; cases h
 | succ n ih=>
  intro v1 v2 r h σ hσ;rw[FQ] at h;have k0:= @A7f;exact gc
instance B8v:Ct 223 (∀{a0} {a1} {a2} {r},Rc a0 a1 a2=N r→FC Z 223 [.ag (X1.row a0),.sc (.sl (Y X4.row a1)),.sc (.sl (Y X3.row a2))] [.sc (.o 4 (Y zC r.1)),.sc (.v (.bool r.2))]):=by
 refine⟨fun h=> ?_⟩;unfold Rc at h;refine A5 A4 TI [6,7] 57 ?_;have s0:= @Al (Y zC ([]:P Xc));have k0:= @A7g;exact gc
instance B8s:Ct 265 (∀{a0} {r},Jo a0=N r→FC Z 265 [.ag (zC a0)] [.sc (.v (.bool r))]):=by
 refine⟨fun h=> ?_⟩;unfold Jo at h;refine A5 A4 h0 [2] 28 ?_;exact gc
def Yb:Hw:=([(14,[8,9,10],[],[])],[])
def hI:=fun a0 (k_:U→Q V)=>∀{v2} {zr},k_ v2=N zr→Kh Z 245 Yb 14 [8,9,10] [] [] ⟨[pL 8 zC a0,pI 9 (a0.length:U),pI 10 v2],[],[]⟩ (A8 [2] [.sc (.v (.bool zr))])
theorem A7h{a0}{n:W}:hI a0 (J1 a0 n):=by
 induction n with
 | zero=>intro _ r h; cases h
 | succ n ih=>
  intro v2 r h σ hσ;rw[J1] at h;exact gc
instance B7h:Ct 245 (∀{a0} {r},NZ a0=N r→FC Z 245 [.sc (.sl (Y zC a0))] [.sc (.v (.bool r))]):=by
 refine⟨fun h=> ?_⟩;unfold NZ at h;refine A5 A4 Yb [2] 18 ?_;have k0:= @A7h;exact gc
def Yc:Hw:=([(5,[0,1,6,7,25],[6,7],[])],[])
def hU:=fun a0 a1 (a2:Xc) (a3:Xc) (k_:V→Q (U × V))=>∀{v6} {zr},k_ v6=N zr→Kh Z 278 Yc 5 [0,1,6,7,25] [6,7] [] ⟨[pI 0 a0,pL 1 rI a1,pB 6,pB 7,(25,vc (aB v6))],[(6,(dm a2.row)),(7,(dm a3.row))],[]⟩ (A8 [8,9] [.sc (.v (.int .i64 zr.1)),.sc (.v (.bool zr.2))])
theorem A7i{a0 a1 a2 a3}:hU a0 a1 a2 a3 (Ld a0 a1 a2 a3):=by
 intro v6 r h σ hσ;unfold Ld at h;exact gc
instance B7k:Ct 278 (∀{a0} {a1} {a2} {a3} {r},QW a0 a1 a2 a3=N r→FC Z 278 [.sc (.int .i64 a0),.sc (.sl (Y rI a1)),.ag (zC a2),.ag (zC a3)] [.sc (.v (.int .i64 r.1)),.sc (.v (.bool r.2))]):=by
 refine⟨fun h=> ?_⟩;unfold QW at h;refine A5 A4 Yc [8,9] 37 ?_;have k0:= @A7i;exact gc
instance B7c:Ct 266 (∀{a0} {a1} {a2} {a3} {r},L7 a0 a1 a2 a3=N r→FC Z 266 [.sc (.int .i64 a0),.sc (.sl (Y rI a1)),.ag (zC a2),.ag (zC a3)] [.sc (.v (.bool r))]):=by
 refine⟨fun h=> ?_⟩;unfold L7 at h;refine A5 A4 h0 [8] 37 ?_;exact gc
def TJ:Hw:=([(8,[0,1,2,7,14,15,16],[],[832]),(25,[0,1,2,7,9,10,14,15,16,21,22,23],[9],[832,1280])],[(38,2,(O,.frz 1280))])
def im:=fun a0 a1 a2 v1 (x4:Xc) v2 (k_:U→(P V)→Q (P (P V)))=>∀{v5 v6} {zr},k_ v5 v6=N zr→Kh Z 246 TJ 25 [0,1,2,7,9,10,14,15,16,21,22,23] [9] [832,1280] ⟨[pI 0 a0,pL 1 rI a1,pL 2 zC a2,pW 7 832,pB 9,pW 10 1280,pL 14 zC a2,pI 15 (a2.length:U),pI 16 v1,pL 21 zC a2,pI 22 (a2.length:U),pI 23 v5],[(9,(dm x4.row))],[(832,1,Y (rL rB) v2),(1280,1,Y rB v6)]⟩ (A8 [6] [.sc (.o 1 (Y (rL rB) zr))])
def W0:=fun a0 a1 a2 (k_:U→(P (P V))→Q (P (P V)))=>∀{v1 v2} {zr},k_ v1 v2=N zr→Kh Z 246 TJ 8 [0,1,2,7,14,15,16] [] [832] ⟨[pI 0 a0,pL 1 rI a1,pL 2 zC a2,pW 7 832,pL 14 zC a2,pI 15 (a2.length:U),pI 16 v1],[],[(832,1,Y (rL rB) v2)]⟩ (A8 [6] [.sc (.o 1 (Y (rL rB) zr))])
theorem A7j{a0 a1 a2 v1 x4 v2}{LH}(tU:W0 a0 a1 a2 LH){n:W}:im a0 a1 a2 v1 x4 v2 (GY a0 a1 a2 v1 x4 v2 LH n):=by
 induction n with
 | zero=>intro _ _ r h; cases h
 | succ n ih=>
  intro v5 v6 r h σ hσ;rw[GY] at h;have s0:= @Al (Y rB ([T]:P V));have s1:=fun(r12:V)=> @Al (Y rB ([r12]:P V))
  have s2:= @Al (Y (rL rB) ([v6]:P (P V)));have k0:= @tU;exact gc
theorem A7k{a0 a1 a2}{n:W}:W0 a0 a1 a2 (FP a0 a1 a2 n):=by
 induction n with
 | zero=>intro _ _ r h; cases h
 | succ n ih=>
  intro v1 v2 r h σ hσ;rw[FP] at h;have s0:= @Al (Y rB ([]:P V));have k0:= @A7j;exact gc
instance B8r:Ct 246 (∀{a0} {a1} {a2} {r},Ow a0 a1 a2=N r→FC Z 246 [.sc (.int .i64 a0),.sc (.sl (Y rI a1)),.sc (.sl (Y zC a2))] [.sc (.o 1 (Y (rL rB) r))]):=by
 refine⟨fun h=> ?_⟩;unfold Ow at h;refine A5 A4 TJ [6] 49 ?_;have s0:= @Al (Y (rL rB) ([]:P (P V)));have k0:= @A7k;exact gc
def ON:Hw:=([(16,[0,1,2,8,23,24,25],[],[]),(33,[0,1,2,8,11],[],[]),(48,[0,1,2,8,11,12,44,45,46],[],[]),(80,[0,1,2,8,11],[],[])],[(72,8,(O,.frz 4480))])
def ir:=fun a0 a1 a2 v2 v6 (k_:Q ((P U) × V))=>∀{zr},k_=N zr→Kh Z 247 ON 80 [0,1,2,8,11] [] [] ⟨[pL 0 (rL rB) a0,pL 1 rI a1,pI 2 a2,pI 8 v2,pI 11 v6],[],[]⟩ (A8 [6,7] [.sc (.v (.sl (Y rI zr.1))),.sc (.v (.bool zr.2))])
def iq:=fun a0 a1 a2 v2 v6 (k_:V→U→Q ((P U) × V))=>∀{v9 v10} {zr},k_ v9 v10=N zr→Kh Z 247 ON 48 [0,1,2,8,11,12,44,45,46] [] [] ⟨[pL 0 (rL rB) a0,pL 1 rI a1,pI 2 a2,pI 8 v2,pI 11 v6,(12,vc (aB v9)),pL 44 rI a1,pI 45 (a1.length:U),pI 46 v10],[],[]⟩ (A8 [6,7] [.sc (.v (.sl (Y rI zr.1))),.sc (.v (.bool zr.2))])
def SN:=fun a0 a1 a2 v2 (k_:U→Q ((P U) × V))=>∀{v6} {zr},k_ v6=N zr→Kh Z 247 ON 33 [0,1,2,8,11] [] [] ⟨[pL 0 (rL rB) a0,pL 1 rI a1,pI 2 a2,pI 8 v2,pI 11 v6],[],[]⟩ (A8 [6,7] [.sc (.v (.sl (Y rI zr.1))),.sc (.v (.bool zr.2))])
def ip:=fun a0 a1 a2 (k_:U→U→Q ((P U) × V))=>∀{v2 v3} {zr},k_ v2 v3=N zr→Kh Z 247 ON 16 [0,1,2,8,23,24,25] [] [] ⟨[pL 0 (rL rB) a0,pL 1 rI a1,pI 2 a2,pI 8 v2,pL 23 rI a1,pI 24 (a1.length:U),pI 25 v3],[],[]⟩ (A8 [6,7] [.sc (.v (.sl (Y rI zr.1))),.sc (.v (.bool zr.2))])
theorem A7l{rec_:(P (P V))→(P U)→U→Q ((P U) × V)}(h_rec:∀(a0:P (P V)) (a1:P U) (a2:U) zr,rec_ a0 a1 a2=N zr→FC Z 247 [.sc (.sl (Y (rL rB) a0)),.sc (.sl (Y rI a1)),.sc (.int .i64 a2)] [.sc (.v (.sl (Y rI zr.1))),.sc (.v (.bool zr.2))]){a0 a1 a2 v2 v6}{Dt}(Zl:SN a0 a1 a2 v2 Dt):ir a0 a1 a2 v2 v6 (Lq rec_ a0 a1 a2 v2 v6 Dt):=by
 intro r h σ hσ;unfold Lq at h;have:Ct 247 _:=⟨h_rec⟩;have k0:= @Zl;exact gc
theorem A7m{rec_:(P (P V))→(P U)→U→Q ((P U) × V)}(h_rec:∀(a0:P (P V)) (a1:P U) (a2:U) zr,rec_ a0 a1 a2=N zr→FC Z 247 [.sc (.sl (Y (rL rB) a0)),.sc (.sl (Y rI a1)),.sc (.int .i64 a2)] [.sc (.v (.sl (Y rI zr.1))),.sc (.v (.bool zr.2))]){a0 a1 a2 v2 v6}{Dt}(Zl:SN a0 a1 a2 v2 Dt){n:W}:iq a0 a1 a2 v2 v6 (DK rec_ a0 a1 a2 v2 v6 Dt n):=by
 induction n with
 | zero=>intro _ _ r h; cases h
 | succ n ih=>
  intro v9 v10 r h σ hσ;rw[DK] at h;have:Ct 247 _:=⟨h_rec⟩;have s0:= @Al (Y rI ([]:P U));have s1:= @Al (Y rI ([v6]:P U));have k0:= @A7l;exact gc
theorem A7n{rec_:(P (P V))→(P U)→U→Q ((P U) × V)}(h_rec:∀(a0:P (P V)) (a1:P U) (a2:U) zr,rec_ a0 a1 a2=N zr→FC Z 247 [.sc (.sl (Y (rL rB) a0)),.sc (.sl (Y rI a1)),.sc (.int .i64 a2)] [.sc (.v (.sl (Y rI zr.1))),.sc (.v (.bool zr.2))]){a0 a1 a2 v2}{n:W}:SN a0 a1 a2 v2 (Ec rec_ a0 a1 a2 v2 n):=by
 induction n with
 | zero=>intro _ r h; cases h
 | succ n ih=>
  intro v6 r h σ hσ;rw[Ec] at h;have:Ct 247 _:=⟨h_rec⟩;have k0:= @A7m;exact gc
theorem A7o{rec_:(P (P V))→(P U)→U→Q ((P U) × V)}(h_rec:∀(a0:P (P V)) (a1:P U) (a2:U) zr,rec_ a0 a1 a2=N zr→FC Z 247 [.sc (.sl (Y (rL rB) a0)),.sc (.sl (Y rI a1)),.sc (.int .i64 a2)] [.sc (.v (.sl (Y rI zr.1))),.sc (.v (.bool zr.2))]){a0 a1 a2}{n:W}:ip a0 a1 a2 (GZ rec_ a0 a1 a2 n):=by
 induction n with
 | zero=>intro _ _ r h; cases h
 | succ n ih=>
  intro v2 v3 r h σ hσ;rw[GZ] at h;have:Ct 247 _:=⟨h_rec⟩;have k0:= @A7n;exact gc
theorem A5x(rec_:(P (P V))→(P U)→U→Q ((P U) × V))(a0:P (P V))(a1:P U)(a2:U)(r:(P U) × V)(h_rec:∀(a0:P (P V)) (a1:P U) (a2:U) zr,rec_ a0 a1 a2=N zr→FC Z 247 [.sc (.sl (Y (rL rB) a0)),.sc (.sl (Y rI a1)),.sc (.int .i64 a2)] [.sc (.v (.sl (Y rI zr.1))),.sc (.v (.bool zr.2))])(h:Ox rec_ a0 a1 a2=N r):FC Z 247 [.sc (.sl (Y (rL rB) a0)),.sc (.sl (Y rI a1)),.sc (.int .i64 a2)] [.sc (.v (.sl (Y rI r.1))),.sc (.v (.bool r.2))]:=by
 unfold Ox at h;refine A5 A4 ON [6,7] 82 ?_;have:Ct 247 _:=⟨h_rec⟩;have k0:= @A7o;exact gc
theorem A5y:∀(n:W) (a0:P (P V)) (a1:P U) (a2:U) (r:(P U) × V),CA n a0 a1 a2=N r→FC Z 247 [.sc (.sl (Y (rL rB) a0)),.sc (.sl (Y rI a1)),.sc (.int .i64 a2)] [.sc (.v (.sl (Y rI r.1))),.sc (.v (.bool r.2))]:=by
 intro n
 induction n with
 | zero=>intro _ _ _ r h; cases h
 | succ n ih=>intro a0 a1 a2 r h; rw[CA] at h; exact A5x (CA n) a0 a1 a2 r ih h
theorem A5w{a0}{a1}{a2}{r}(h:Rb a0 a1 a2=N r):FC Z 247 [.sc (.sl (Y (rL rB) a0)),.sc (.sl (Y rI a1)),.sc (.int .i64 a2)] [.sc (.v (.sl (Y rI r.1))),.sc (.v (.bool r.2))]:=A5y bigN a0 a1 a2 r h
def TK:Hw:=([(5,[0,1,2,21],[],[]),(16,[2,9,10],[],[])],[(11,4,(O,.frz 1600)),(26,3,(O,.frz 2176))])
def iF:=fun a2 r6 (k_:U→Q ((P U) × U × V))=>∀{v7} {zr},k_ v7=N zr→Kh Z 224 TK 16 [2,9,10] [] [] ⟨[pL 2 zC a2,pL 9 (rL rB) r6,pI 10 v7],[],[]⟩ (A8 [6,7,8] [.sc (.v (.sl (Y rI zr.1))),.sc (.v (.int .i64 zr.2.1)),.sc (.v (.bool zr.2.2))])
def iE:=fun a0 a1 a2 (k_:V→Q ((P U) × U × V))=>∀{v4} {zr},k_ v4=N zr→Kh Z 224 TK 5 [0,1,2,21] [] [] ⟨[pI 0 a0,pL 1 rI a1,pL 2 zC a2,(21,vc (aB v4))],[],[]⟩ (A8 [6,7,8] [.sc (.v (.sl (Y rI zr.1))),.sc (.v (.int .i64 zr.2.1)),.sc (.v (.bool zr.2.2))])
theorem A7p{a2 r6}{n:W}:iF a2 r6 (J5 a2 r6 n):=by
 induction n with
 | zero=>intro _ r h; cases h
 | succ n ih=>
  intro v7 r h σ hσ S hS;refine ev hS ?_;rw[J5] at h;refine AE (Ax ?_);obtain⟨h8,h⟩|⟨h8,h⟩:=ic h
  ·try simp only[hσ,h8,C,E,F,G,H,J]
   refine Bf (es:=Y rI ([]:P U)) ?_;try simp only[h8,C,E,F,G,H,J]
   refine Cj ?_;obtain⟨r9,h9,h⟩:=ob h;try simp only[h8,C,E,F,G,H,J]
   refine AA (A5w h9) ?_;obtain⟨h10,h⟩|⟨h10,h⟩:=ic h
   ·try simp only[h8,h10,C,E,F,G,H,J]
    cases h;trivial
   ·try simp only[h8,h10,C,E,F,G,H,J]
    refine ih h ?_ (by kernel_rfl);try simp only[h8,h10,C,E,F,G,H,J,pL,aM,I]
  ·try simp only[hσ,h8,C,E,F,G,H,J]
   cases h;trivial
theorem A7r{a0 a1 a2}:iE a0 a1 a2 (O4 a0 a1 a2):=by
 intro v4 r h σ hσ;unfold O4 at h;have k0:= @A7p;exact gc
instance B7q:Ct 224 (∀{a0} {a1} {a2} {r},J4 a0 a1 a2=N r→FC Z 224 [.sc (.int .i64 a0),.sc (.sl (Y rI a1)),.sc (.sl (Y zC a2))] [.sc (.v (.sl (Y rI r.1))),.sc (.v (.int .i64 r.2.1)),.sc (.v (.bool r.2.2))]):=by
 refine⟨fun h=> ?_⟩;unfold J4 at h;refine A5 A4 TK [6,7,8] 42 ?_;have k0:= @A7r;exact gc
def sr:Hw:=([],[(13,3,(O,.frz 1152))])
instance B8d:Ct 201 (∀{a0} {a1} {a2} {a3} {r},Lk a0 a1 a2 a3=N r→FC Z 201 [.ag (Xn.row a0),.ag (X1.row a1),.sc (.sl (Y X4.row a2)),.sc (.sl (Y X3.row a3))] [.sc (.v (.int .i64 r))]):=by
 refine⟨fun h=> ?_⟩;unfold Lk at h;refine A5 A4 sr [8] 39 ?_;exact gc
def Ye:Hw:=([(14,[1,2,14,15,16],[2],[])],[])
def iB:=fun a1 (a0:X1) (k_:U→Q V)=>∀{v3} {zr},k_ v3=N zr→Kh Z 248 Ye 14 [1,2,14,15,16] [2] [] ⟨[pL 1 X3.row a1,pB 2,pL 14 X3.row a1,pI 15 (a1.length:U),pI 16 v3],[(2,[aM X7.row a0.Points,aM X2.row a0.Segments])],[]⟩ (A8 [4] [.sc (.v (.bool zr))])
theorem A7s{a1 a0}{n:W}:iB a1 a0 (GN a1 a0 n):=by
 induction n with
 | zero=>intro _ r h; cases h
 | succ n ih=>
  intro v3 r h σ hσ;rw[GN] at h;exact gc
instance B7o:Ct 248 (∀{a0} {a1} {r},O1 a0 a1=N r→FC Z 248 [.ag (X1.row a0),.sc (.sl (Y X3.row a1))] [.sc (.v (.bool r))]):=by
 refine⟨fun h=> ?_⟩;unfold O1 at h;refine A5 A4 Ye [4] 71 ?_;have k0:= @A7s;exact gc
def TL:Hw:=([(5,[1,2,3,6,23],[3,6],[]),(14,[1,2,3,6,25,26,27],[3,6],[])],[])
def iL:=fun a1 a2 (a0:X1) (k_:U→Q (Xc × V))=>∀{v5} {zr},k_ v5=N zr→Kh Z 225 TL 14 [1,2,3,6,25,26,27] [3,6] [] ⟨[pL 1 X4.row a1,pL 2 X3.row a2,pB 3,pB 6,pL 25 X3.row a2,pI 26 (a2.length:U),pI 27 v5],[(3,[aM X7.row a0.Points,aM X2.row a0.Segments]),(6,[aI (0:U),aI (0:U),aI (0:U),aI (0:U)])],[]⟩ (A8 [.c 6 T 4,7] [.ag [.v (.int .i64 zr.1.From),.v (.int .i64 zr.1.To),.v (.int .i64 zr.1.A),.v (.int .i64 zr.1.B)],.sc (.v (.bool zr.2))])
def iK:=fun a1 a2 (a0:X1) (k_:V→Q (Xc × V))=>∀{v3} {zr},k_ v3=N zr→Kh Z 225 TL 5 [1,2,3,6,23] [3,6] [] ⟨[pL 1 X4.row a1,pL 2 X3.row a2,pB 3,pB 6,(23,vc (aB v3))],[(3,[aM X7.row a0.Points,aM X2.row a0.Segments]),(6,[aI (0:U),aI (0:U),aI (0:U),aI (0:U)])],[]⟩ (A8 [.c 6 T 4,7] [.ag [.v (.int .i64 zr.1.From),.v (.int .i64 zr.1.To),.v (.int .i64 zr.1.A),.v (.int .i64 zr.1.B)],.sc (.v (.bool zr.2))])
theorem A7t{a1 a2 a0}{n:W}:iL a1 a2 a0 (J9 a1 a2 a0 n):=by
 induction n with
 | zero=>intro _ r h; cases h
 | succ n ih=>
  intro v5 r h σ hσ;rw[J9] at h;exact gc
theorem A7u{a1 a2 a0}:iK a1 a2 a0 (Oc a1 a2 a0):=by
 intro v3 r h σ hσ;unfold Oc at h;have k0:= @A7t;exact gc
instance B7z:Ct 225 (∀{a0} {a1} {a2} {r},Ob a0 a1 a2=N r→FC Z 225 [.ag (X1.row a0),.sc (.sl (Y X4.row a1)),.sc (.sl (Y X3.row a2))] [.ag [.v (.int .i64 r.1.From),.v (.int .i64 r.1.To),.v (.int .i64 r.1.A),.v (.int .i64 r.1.B)],.sc (.v (.bool r.2))]):=by
 refine⟨fun h=> ?_⟩;unfold Ob at h;refine A5 A4 TL [.c 6 T 4,7] 67 ?_;have k0:= @A7u;exact gc
def Yf:Hw:=([(16,[2,4,5,9,21,22,23],[4,5],[1280])],[(46,5,(O,.frz 1280))])
def iM:=fun a2 a3 (a0:Xn) (a1:X1) (k_:U→(P Xc)→Q U)=>∀{v3 v4} {zr},k_ v3 v4=N zr→Kh Z 202 Yf 16 [2,4,5,9,21,22,23] [4,5] [1280] ⟨[pL 2 X4.row a2,pB 4,pB 5,pW 9 1280,pL 21 (rL X3.row) a3,pI 22 (a3.length:U),pI 23 v3],[(4,(dm a0.row)),(5,[aM X7.row a1.Points,aM X2.row a1.Segments])],[(1280,4,Y zC v4)]⟩ (A8 [8] [.sc (.v (.int .i64 zr))])
theorem A7v{a2 a3 a0 a1}{n:W}:iM a2 a3 a0 a1 (GQ a2 a3 a0 a1 n):=by
 induction n with
 | zero=>intro _ _ r h; cases h
 | succ n ih=>
  intro v3 v4 r h σ hσ;rw[GQ] at h;have s0:=fun(r9:Xc × V)=> @Al (Y zC ([r9.1]:P Xc))
  exact gc
instance B70:Ct 202 (∀{a0} {a1} {a2} {a3} {r},Od a0 a1 a2 a3=N r→FC Z 202 [.ag (Xn.row a0),.ag (X1.row a1),.sc (.sl (Y X4.row a2)),.sc (.sl (Y (rL X3.row) a3))] [.sc (.v (.int .i64 r))]):=by
 refine⟨fun h=> ?_⟩;unfold Od at h;refine A5 A4 Yf [8] 57 ?_;have s0:= @Al (Y zC ([]:P Xc));have k0:= @A7v;exact gc
def Yg:Hw:=([(8,[2,3,4,5,9,13,14,15],[4,5],[768])],[])
def gy:=fun a2 a3 (a0:Xn) (a1:X1) (k_:U→(P X3)→Q V)=>∀{v1 v2} {zr},k_ v1 v2=N zr→Kh Z 173 Yg 8 [2,3,4,5,9,13,14,15] [4,5] [768] ⟨[pL 2 X4.row a2,pL 3 (rL X3.row) a3,pB 4,pB 5,pW 9 768,pL 13 (rL X3.row) a3,pI 14 (a3.length:U),pI 15 v1],[(4,(dm a0.row)),(5,[aM X7.row a1.Points,aM X2.row a1.Segments])],[(768,5,Y X3.row v2)]⟩ (A8 [8] [.sc (.v (.bool zr))])
theorem A7w{a2 a3 a0 a1}{n:W}:gy a2 a3 a0 a1 (IZ a2 a3 a0 a1 n):=by
 induction n with
 | zero=>intro _ _ r h; cases h
 | succ n ih=>
  intro v1 v2 r h σ hσ;rw[IZ] at h;exact gc
instance A5n:Ct 173 (∀{a0} {a1} {a2} {a3} {r},NX a0 a1 a2 a3=N r→FC Z 173 [.ag (Xn.row a0),.ag (X1.row a1),.sc (.sl (Y X4.row a2)),.sc (.sl (Y (rL X3.row) a3))] [.sc (.v (.bool r))]):=by
 refine⟨fun h=> ?_⟩;unfold NX at h;refine A5 A4 Yg [8] 41 ?_;have s0:= @Al (Y X3.row ([]:P X3));have k0:= @A7w;exact gc
def HF:P (P W × AItem):= [([],(O,.mv 135 (S 0))),([],(O,.bslice 136 1 [.int .i64 0] 0 [])),([],(O,.mv 137 (S 1))),([1,2],(O,.app 138 1 8 (S 136) (S 137))),([],(O,.mv 139 (S 10))),([4],(O,.bslice 140 1 [.int .i64 0] 1 [(0,(S 139))])),([3,5,3],(O,.app 141 1 8 (S 138) (S 140))),([],(O,.mv 142 (S 2))),([],(O,.faddr 143 (S 11) 2)),([8],(O,.load 144 (S 143) L 1)),([7,9],(O,.bin 145 .add (S 142) (S 144))),([0,6,10,6],(O,.call 146 139 [(S 135),(S 141),(S 145)]))]
def Lz:Hw:=([(8,[0,1,2,6],[99999999999],[90000]),(18,[0,1,2,7,45,46,47],[99999999999],[90000,2816]),(46,[0,1,2,6,103,104,105],[99999999999],[90000]),(63,[0,1,2,6,10,11,12,103,104,105,110,111,112],[99999999999,11],[90000])],[(33,0,(O,.frz 2816))])
abbrev Bx(a1:P U)(a2 v18:U)(x17:P X0)(x38:X0)(wo1_ wo3_ wo6_:AV)(c0_ c1_:V)(c2_ c3_:V)(c4_ c5_:V)(c6_ c7_:V)(c8_ c9_:V)(c10_ c11_:V)(bx_:P (W × P AC))(rs_:Rows):St:=⟨[(0,vc (.pb 99999999999 0)),(1,vc (aL (Y rI a1))),(2,vc (aI a2)),(6,vc (aI (a1.length:U))),(10,vc (aI v18)),(11,vc (.pb 11 0)),(103,vc (aL (Y X0.row x17))),(104,vc (aI (x17.length:U))),(105,vc (aI v18)),(135,bif c0_ then vc (.pb 99999999999 0) else .undef),(136,bif c1_ then wo1_ else .undef),(137,bif c2_ then vc (aL (Y rI a1)) else .undef),(138,bif c3_ then wo3_ else .undef),(139,bif c4_ then vc (aI v18) else .undef),(140,bif c5_ then vc (.own 8960) else .undef),(141,bif c6_ then wo6_ else .undef),(142,bif c7_ then vc (aI a2) else .undef),(143,bif c8_ then vc (.pb 11 2) else .undef),(144,bif c9_ then vc (aI x38.Cost) else .undef),(145,bif c10_ then vc (aI (zH .i64 (a2+x38.Cost))) else .undef),(146,bif c11_ then .tup [] else .undef)],bx_,rs_⟩
abbrev F2(a1:P U)(a2 v18:U)(x17:P X0)(x38:X0)(r51:Xf):St:=(Bx a1 a2 v18 x17 x38 (vc (.undef)) (vc (.undef)) (vc (aL (Y rI (a1++([v18]:P U))))) T T T T T T T T T T T T [(99999999999,([aI r51.h.Forecast.Tide.Mean,aL (Y zA r51.h.Forecast.Tide.Parts),aL (Y zB r51.h.Forecast.Surges),aL (Y X7.row r51.h.Chart.Points),aL (Y X2.row r51.h.Chart.Segments),aL (Y X4.row r51.h.Fleet),aI r51.h.Regime.Gap,aB r51.h.Regime.NoMeet]++dm r51.h.Crew.row++ [aL (Y (rL X0.row) r51.lists),aL (Y (rL (rL (rL rB))) r51.clash),aL (Y rI r51.rest),.own 90000,aI r51.cost,aB r51.found])),(11,(dm x38.row))] [(90000,1,Y rI r51.best),(8960,1,Y rI ([v18]:P U))])
theorem A7x(rec_:Xf→(P U)→U→Q Xf)(h_rec:∀(a0:Xf) (a1:P U) (a2:U) zr,rec_ a0 a1 a2=N zr→FCz Z 139 [.p,.d (.sc (.sl (Y rI a1))),.d (.sc (.int .i64 a2))] (AY a0) (AZ a0) (AY zr) (AZ zr) [])(a1:P U)(a2)(v18)(x17:P X0)(v19)(v20)(v21)(v22)(v23)(v24)(v25)(v26)(v27)(v28)(v29)(v30)(v31)(v32)(v33)(v34)(v35)(x38:X0)(v36)(r51)(h49:(A3 ([]:P U).length a1.length 8)=T)(h50:(A3 a1.length ([v18]:P U).length 8)=T)(h51:rec_ (⟨(⟨(⟨(⟨v19,v20⟩:Xm),v21⟩:Xe),(⟨v22,v23⟩:X1),v24,(⟨v25,v26⟩:Xi),(⟨v27,v28,v29,v30⟩:Xn)⟩:X5),v31,v32,v33,v36,v34,v35⟩:Xf) (a1++([v18]:P U)) (zH .i64 (a2+x38.Cost))=N r51):∀(f:W) (b7 b8 b9:V),Ad Z HF (F2 a1 a2 v18 x17 x38 r51) f [T,T,T,T,T,T,T,b7,b8,b9,T,T] (Bx a1 a2 v18 x17 x38 (vc (.undef)) (vc (.undef)) (vc (aL (Y rI (a1++([v18]:P U))))) T T T T T T T b7 b8 b9 T T [(99999999999,([aI r51.h.Forecast.Tide.Mean,aL (Y zA r51.h.Forecast.Tide.Parts),aL (Y zB r51.h.Forecast.Surges),aL (Y X7.row r51.h.Chart.Points),aL (Y X2.row r51.h.Chart.Segments),aL (Y X4.row r51.h.Fleet),aI r51.h.Regime.Gap,aB r51.h.Regime.NoMeet]++dm r51.h.Crew.row++ [aL (Y (rL X0.row) r51.lists),aL (Y (rL (rL (rL rB))) r51.clash),aL (Y rI r51.rest),.own 90000,aI r51.cost,aB r51.found])),(11,(dm x38.row))] [(90000,1,Y rI r51.best),(8960,1,Y rI ([v18]:P U))]):=by
 intro f
 induction f with
 | zero=>
  intro b7 b8 b9 h;obtain rfl:b7=T:=zD.1 h b7 (by simp);obtain rfl:b8=T:=zD.1 h b8 (by simp);obtain rfl:b9=T:=zD.1 h b9 (by simp);rfl
 | succ f ih=>
  intro b7 b8 b9;refine Ai ⟨?_,?_,?_,?_,?_,?_,?_,?_,?_,?_,?_,?_,⟨⟩⟩<;>try first | (intro h; cases h; done) | (intro h0 hw; obtain rfl:=hz h0 rfl; (try obtain rfl:=hq hw 8 rfl rfl); refine np ?_; simp only[Bx,A6,A7,A2,C,E,F,G,H,J]; exact ih _ _ _)
theorem A7y(rec_:Xf→(P U)→U→Q Xf)(h_rec:∀(a0:Xf) (a1:P U) (a2:U) zr,rec_ a0 a1 a2=N zr→FCz Z 139 [.p,.d (.sc (.sl (Y rI a1))),.d (.sc (.int .i64 a2))] (AY a0) (AZ a0) (AY zr) (AZ zr) [])(a1:P U)(a2)(v18)(x17:P X0)(v19)(v20)(v21)(v22)(v23)(v24)(v25)(v26)(v27)(v28)(v29)(v30)(v31)(v32)(v33)(v34)(v35)(x38:X0)(v36)(r51)(h49:(A3 ([]:P U).length a1.length 8)=T)(h50:(A3 a1.length ([v18]:P U).length 8)=T)(h51:rec_ (⟨(⟨(⟨(⟨v19,v20⟩:Xm),v21⟩:Xe),(⟨v22,v23⟩:X1),v24,(⟨v25,v26⟩:Xi),(⟨v27,v28,v29,v30⟩:Xn)⟩:X5),v31,v32,v33,v36,v34,v35⟩:Xf) (a1++([v18]:P U)) (zH .i64 (a2+x38.Cost))=N r51):∀(f:W) (b0 b7:V) (b8 b9 b10:V),Ad Z HF (F2 a1 a2 v18 x17 x38 r51) f [b0,T,T,T,T,T,T,b7,b8,b9,b10,L] (Bx a1 a2 v18 x17 x38 (vc (.undef)) (vc (.undef)) (vc (.own 8704)) b0 T T T T T T b7 b8 b9 b10 L [(99999999999,[aI v19,aL (Y zA v20),aL (Y zB v21),aL (Y X7.row v22),aL (Y X2.row v23),aL (Y X4.row v24),aI v25,aB v26,aI v27,aI v28,aI v29,aL (Y rI v30),aL (Y (rL X0.row) v31),aL (Y (rL (rL (rL rB))) v32),aL (Y rI v33),.own 90000,aI v34,aB v35]),(11,(dm x38.row))] [(90000,1,Y rI v36),(8704,1,Y rI (a1++([v18]:P U))),(8960,1,Y rI ([v18]:P U))]):=by
 intro f
 induction f with
 | zero=>intro b0 b7 b8 b9 b10 h; simp at h
 | succ f ih=>
  intro b0 b7 b8 b9 b10;refine Ai ⟨?_,?_,?_,?_,?_,?_,?_,?_,?_,?_,?_,?_,⟨⟩⟩<;>try first | (intro h; cases h; done) | (intro h0 hw; obtain rfl:=hz h0 rfl; (try obtain rfl:=hq hw 7 rfl rfl); (try obtain rfl:=hq hw 8 rfl rfl); (try obtain rfl:=hq hw 9 rfl rfl); refine np ?_; simp only[Bx,A6,A7,A2,C,E,F,G,H,J]; exact ih _ _ _ _ _)
  ·intro h0 hw;obtain rfl:=hq hw 0 rfl rfl;obtain rfl:=hq hw 10 rfl rfl;refine⟨[(O,.frz 8704)],[],X,X,?_⟩;try simp only[Bx,A6,A7,List.nil_append,List.cons_append,A2,C,E,F,G,H,J]
   refine Cj ?_;try simp only[A2,C,E,F,G,H,J]
   refine H7 (h_rec _ _ _ _ h51) 99999999999 [90000] rfl X X X (by decide) X X X ?_;try simp only[A2,C,E,F,G,H,J]
   exact A7x rec_ h_rec a1 a2 v18 x17 v19 v20 v21 v22 v23 v24 v25 v26 v27 v28 v29 v30 v31 v32 v33 v34 v35 x38 v36 r51 h49 h50 h51 _ b7 b8 b9
theorem dQ(rec_:Xf→(P U)→U→Q Xf)(h_rec:∀(a0:Xf) (a1:P U) (a2:U) zr,rec_ a0 a1 a2=N zr→FCz Z 139 [.p,.d (.sc (.sl (Y rI a1))),.d (.sc (.int .i64 a2))] (AY a0) (AZ a0) (AY zr) (AZ zr) [])(a1:P U)(a2)(v18)(x17:P X0)(v19)(v20)(v21)(v22)(v23)(v24)(v25)(v26)(v27)(v28)(v29)(v30)(v31)(v32)(v33)(v34)(v35)(x38:X0)(v36)(r51)(h49:(A3 ([]:P U).length a1.length 8)=T)(h50:(A3 a1.length ([v18]:P U).length 8)=T)(h51:rec_ (⟨(⟨(⟨(⟨v19,v20⟩:Xm),v21⟩:Xe),(⟨v22,v23⟩:X1),v24,(⟨v25,v26⟩:Xi),(⟨v27,v28,v29,v30⟩:Xn)⟩:X5),v31,v32,v33,v36,v34,v35⟩:Xf) (a1++([v18]:P U)) (zH .i64 (a2+x38.Cost))=N r51):∀(f:W) (b0 b7:V) (b8 b9 b10:V),Ad Z HF (F2 a1 a2 v18 x17 x38 r51) f [b0,T,T,T,T,T,L,b7,b8,b9,b10,L] (Bx a1 a2 v18 x17 x38 (vc (.undef)) (vc (.own 8704)) (vc (.own 8704)) b0 T T T T T L b7 b8 b9 b10 L [(99999999999,[aI v19,aL (Y zA v20),aL (Y zB v21),aL (Y X7.row v22),aL (Y X2.row v23),aL (Y X4.row v24),aI v25,aB v26,aI v27,aI v28,aI v29,aL (Y rI v30),aL (Y (rL X0.row) v31),aL (Y (rL (rL (rL rB))) v32),aL (Y rI v33),.own 90000,aI v34,aB v35]),(11,(dm x38.row))] [(90000,1,Y rI v36),(8704,1,Y rI a1),(8960,1,Y rI ([v18]:P U))]):=by
 intro f
 induction f with
 | zero=>intro b0 b7 b8 b9 b10 h; simp at h
 | succ f ih=>
  intro b0 b7 b8 b9 b10;refine Ai ⟨?_,?_,?_,?_,?_,?_,?_,?_,?_,?_,?_,?_,⟨⟩⟩<;>try first | (intro h; cases h; done) | (intro _ hw; simp at hw; done) | (intro h0 hw; obtain rfl:=hz h0 rfl; (try obtain rfl:=hq hw 7 rfl rfl); (try obtain rfl:=hq hw 8 rfl rfl); (try obtain rfl:=hq hw 9 rfl rfl); refine np ?_; simp only[Bx,A6,A7,A2,C,E,F,G,H,J]; exact ih _ _ _ _ _)
  ·intro h0 hw;refine np ?_;try simp only[h50,Bx,A6,A7,A2,C,E,F,G,H,J]
   exact A7y rec_ h_rec a1 a2 v18 x17 v19 v20 v21 v22 v23 v24 v25 v26 v27 v28 v29 v30 v31 v32 v33 v34 v35 x38 v36 r51 h49 h50 h51 _ b0 b7 b8 b9 b10
theorem A7z(rec_:Xf→(P U)→U→Q Xf)(h_rec:∀(a0:Xf) (a1:P U) (a2:U) zr,rec_ a0 a1 a2=N zr→FCz Z 139 [.p,.d (.sc (.sl (Y rI a1))),.d (.sc (.int .i64 a2))] (AY a0) (AZ a0) (AY zr) (AZ zr) [])(a1:P U)(a2)(v18)(x17:P X0)(v19)(v20)(v21)(v22)(v23)(v24)(v25)(v26)(v27)(v28)(v29)(v30)(v31)(v32)(v33)(v34)(v35)(x38:X0)(v36)(r51)(h49:(A3 ([]:P U).length a1.length 8)=T)(h50:(A3 a1.length ([v18]:P U).length 8)=T)(h51:rec_ (⟨(⟨(⟨(⟨v19,v20⟩:Xm),v21⟩:Xe),(⟨v22,v23⟩:X1),v24,(⟨v25,v26⟩:Xi),(⟨v27,v28,v29,v30⟩:Xn)⟩:X5),v31,v32,v33,v36,v34,v35⟩:Xf) (a1++([v18]:P U)) (zH .i64 (a2+x38.Cost))=N r51):∀(f:W) (b0 b4:V) (b7 b8:V) (b9 b10:V),Ad Z HF (F2 a1 a2 v18 x17 x38 r51) f [b0,T,T,T,b4,L,L,b7,b8,b9,b10,L] (Bx a1 a2 v18 x17 x38 (vc (.undef)) (vc (.own 8704)) (vc (.own 8704)) b0 T T T b4 L L b7 b8 b9 b10 L [(99999999999,[aI v19,aL (Y zA v20),aL (Y zB v21),aL (Y X7.row v22),aL (Y X2.row v23),aL (Y X4.row v24),aI v25,aB v26,aI v27,aI v28,aI v29,aL (Y rI v30),aL (Y (rL X0.row) v31),aL (Y (rL (rL (rL rB))) v32),aL (Y rI v33),.own 90000,aI v34,aB v35]),(11,(dm x38.row))] [(90000,1,Y rI v36),(8704,1,Y rI a1)]):=by
 intro f
 induction f with
 | zero=>intro b0 b4 b7 b8 b9 b10 h; simp at h
 | succ f ih=>
  intro b0 b4 b7 b8 b9 b10;refine Ai ⟨?_,?_,?_,?_,?_,?_,?_,?_,?_,?_,?_,?_,⟨⟩⟩<;>try first | (intro h; cases h; done) | (intro _ hw; simp at hw; done) | (intro h0 hw; obtain rfl:=hz h0 rfl; (try obtain rfl:=hq hw 7 rfl rfl); (try obtain rfl:=hq hw 8 rfl rfl); (try obtain rfl:=hq hw 9 rfl rfl); refine np ?_; simp only[Bx,A6,A7,A2,C,E,F,G,H,J]; exact ih _ _ _ _ _ _)
  ·intro h0 hw;obtain rfl:=hq hw 4 rfl rfl;refine np ?_;try simp only[Bx,A6,A7,A2,C,E,F,G,H,J]
   refine As (es:=Y rI ([v18]:P U)) X (by simp only[St.fresh,zE,zF,Ak]; simp[AV.cells,V1.cells,AC.uses]) ?_;try simp only[A2,C,E,F,G,H,J]
   exact dQ rec_ h_rec a1 a2 v18 x17 v19 v20 v21 v22 v23 v24 v25 v26 v27 v28 v29 v30 v31 v32 v33 v34 v35 x38 v36 r51 h49 h50 h51 _ b0 b7 b8 b9 b10
theorem dR(rec_:Xf→(P U)→U→Q Xf)(h_rec:∀(a0:Xf) (a1:P U) (a2:U) zr,rec_ a0 a1 a2=N zr→FCz Z 139 [.p,.d (.sc (.sl (Y rI a1))),.d (.sc (.int .i64 a2))] (AY a0) (AZ a0) (AY zr) (AZ zr) [])(a1:P U)(a2)(v18)(x17:P X0)(v19)(v20)(v21)(v22)(v23)(v24)(v25)(v26)(v27)(v28)(v29)(v30)(v31)(v32)(v33)(v34)(v35)(x38:X0)(v36)(r51)(h49:(A3 ([]:P U).length a1.length 8)=T)(h50:(A3 a1.length ([v18]:P U).length 8)=T)(h51:rec_ (⟨(⟨(⟨(⟨v19,v20⟩:Xm),v21⟩:Xe),(⟨v22,v23⟩:X1),v24,(⟨v25,v26⟩:Xi),(⟨v27,v28,v29,v30⟩:Xn)⟩:X5),v31,v32,v33,v36,v34,v35⟩:Xf) (a1++([v18]:P U)) (zH .i64 (a2+x38.Cost))=N r51):∀(f:W) (b0 b2:V) (b7 b8:V) (b9 b10:V),Ad Z HF (F2 a1 a2 v18 x17 x38 r51) f [b0,T,b2,L,T,T,L,b7,b8,b9,b10,L] (Bx a1 a2 v18 x17 x38 (vc (.own 8704)) (vc (.own 8704)) (vc (.own 8704)) b0 T b2 L T T L b7 b8 b9 b10 L [(99999999999,[aI v19,aL (Y zA v20),aL (Y zB v21),aL (Y X7.row v22),aL (Y X2.row v23),aL (Y X4.row v24),aI v25,aB v26,aI v27,aI v28,aI v29,aL (Y rI v30),aL (Y (rL X0.row) v31),aL (Y (rL (rL (rL rB))) v32),aL (Y rI v33),.own 90000,aI v34,aB v35]),(11,(dm x38.row))] [(90000,1,Y rI v36),(8704,1,Y rI ([]:P U)),(8960,1,Y rI ([v18]:P U))]):=by
 intro f
 induction f with
 | zero=>intro b0 b2 b7 b8 b9 b10 h; simp at h
 | succ f ih=>
  intro b0 b2 b7 b8 b9 b10;refine Ai ⟨?_,?_,?_,?_,?_,?_,?_,?_,?_,?_,?_,?_,⟨⟩⟩<;>try first | (intro h; cases h; done) | (intro _ hw; simp at hw; done) | (intro h0 hw; obtain rfl:=hz h0 rfl; (try obtain rfl:=hq hw 7 rfl rfl); (try obtain rfl:=hq hw 8 rfl rfl); (try obtain rfl:=hq hw 9 rfl rfl); refine np ?_; simp only[Bx,A6,A7,A2,C,E,F,G,H,J]; exact ih _ _ _ _ _ _)
  ·intro h0 hw;obtain rfl:=hq hw 2 rfl rfl;refine np ?_;try simp only[h49,Bx,A6,A7,A2,C,E,F,G,H,J]
   exact dQ rec_ h_rec a1 a2 v18 x17 v19 v20 v21 v22 v23 v24 v25 v26 v27 v28 v29 v30 v31 v32 v33 v34 v35 x38 v36 r51 h49 h50 h51 _ b0 b7 b8 b9 b10
theorem A70(rec_:Xf→(P U)→U→Q Xf)(h_rec:∀(a0:Xf) (a1:P U) (a2:U) zr,rec_ a0 a1 a2=N zr→FCz Z 139 [.p,.d (.sc (.sl (Y rI a1))),.d (.sc (.int .i64 a2))] (AY a0) (AZ a0) (AY zr) (AZ zr) [])(a1:P U)(a2)(v18)(x17:P X0)(v19)(v20)(v21)(v22)(v23)(v24)(v25)(v26)(v27)(v28)(v29)(v30)(v31)(v32)(v33)(v34)(v35)(x38:X0)(v36)(r51)(h49:(A3 ([]:P U).length a1.length 8)=T)(h50:(A3 a1.length ([v18]:P U).length 8)=T)(h51:rec_ (⟨(⟨(⟨(⟨v19,v20⟩:Xm),v21⟩:Xe),(⟨v22,v23⟩:X1),v24,(⟨v25,v26⟩:Xi),(⟨v27,v28,v29,v30⟩:Xn)⟩:X5),v31,v32,v33,v36,v34,v35⟩:Xf) (a1++([v18]:P U)) (zH .i64 (a2+x38.Cost))=N r51):∀(f:W) (b0 b2:V) (b4 b7:V) (b8 b9 b10:V),Ad Z HF (F2 a1 a2 v18 x17 x38 r51) f [b0,T,b2,L,b4,L,L,b7,b8,b9,b10,L] (Bx a1 a2 v18 x17 x38 (vc (.own 8704)) (vc (.own 8704)) (vc (.own 8704)) b0 T b2 L b4 L L b7 b8 b9 b10 L [(99999999999,[aI v19,aL (Y zA v20),aL (Y zB v21),aL (Y X7.row v22),aL (Y X2.row v23),aL (Y X4.row v24),aI v25,aB v26,aI v27,aI v28,aI v29,aL (Y rI v30),aL (Y (rL X0.row) v31),aL (Y (rL (rL (rL rB))) v32),aL (Y rI v33),.own 90000,aI v34,aB v35]),(11,(dm x38.row))] [(90000,1,Y rI v36),(8704,1,Y rI ([]:P U))]):=by
 intro f
 induction f with
 | zero=>intro b0 b2 b4 b7 b8 b9 b10 h; simp at h
 | succ f ih=>
  intro b0 b2 b4 b7 b8 b9 b10;refine Ai ⟨?_,?_,?_,?_,?_,?_,?_,?_,?_,?_,?_,?_,⟨⟩⟩<;>try first | (intro h; cases h; done) | (intro _ hw; simp at hw; done) | (intro h0 hw; obtain rfl:=hz h0 rfl; (try obtain rfl:=hq hw 7 rfl rfl); (try obtain rfl:=hq hw 8 rfl rfl); (try obtain rfl:=hq hw 9 rfl rfl); refine np ?_; simp only[Bx,A6,A7,A2,C,E,F,G,H,J]; exact ih _ _ _ _ _ _ _)
  ·intro h0 hw;obtain rfl:=hq hw 2 rfl rfl;refine np ?_;try simp only[h49,Bx,A6,A7,A2,C,E,F,G,H,J]
   exact A7z rec_ h_rec a1 a2 v18 x17 v19 v20 v21 v22 v23 v24 v25 v26 v27 v28 v29 v30 v31 v32 v33 v34 v35 x38 v36 r51 h49 h50 h51 _ b0 b4 b7 b8 b9 b10
  ·intro h0 hw;obtain rfl:=hq hw 4 rfl rfl;refine np ?_;try simp only[Bx,A6,A7,A2,C,E,F,G,H,J]
   refine As (es:=Y rI ([v18]:P U)) X (by simp only[St.fresh,zE,zF,Ak]; simp[AV.cells,V1.cells,AC.uses]) ?_;try simp only[A2,C,E,F,G,H,J]
   exact dR rec_ h_rec a1 a2 v18 x17 v19 v20 v21 v22 v23 v24 v25 v26 v27 v28 v29 v30 v31 v32 v33 v34 v35 x38 v36 r51 h49 h50 h51 _ b0 b2 b7 b8 b9 b10
theorem A71(rec_:Xf→(P U)→U→Q Xf)(h_rec:∀(a0:Xf) (a1:P U) (a2:U) zr,rec_ a0 a1 a2=N zr→FCz Z 139 [.p,.d (.sc (.sl (Y rI a1))),.d (.sc (.int .i64 a2))] (AY a0) (AZ a0) (AY zr) (AZ zr) [])(a1:P U)(a2)(v18)(x17:P X0)(v19)(v20)(v21)(v22)(v23)(v24)(v25)(v26)(v27)(v28)(v29)(v30)(v31)(v32)(v33)(v34)(v35)(x38:X0)(v36)(r51)(h49:(A3 ([]:P U).length a1.length 8)=T)(h50:(A3 a1.length ([v18]:P U).length 8)=T)(h51:rec_ (⟨(⟨(⟨(⟨v19,v20⟩:Xm),v21⟩:Xe),(⟨v22,v23⟩:X1),v24,(⟨v25,v26⟩:Xi),(⟨v27,v28,v29,v30⟩:Xn)⟩:X5),v31,v32,v33,v36,v34,v35⟩:Xf) (a1++([v18]:P U)) (zH .i64 (a2+x38.Cost))=N r51):∀(f:W) (b0 b2:V) (b7 b8:V) (b9 b10:V),Ad Z HF (F2 a1 a2 v18 x17 x38 r51) f [b0,L,b2,L,T,T,L,b7,b8,b9,b10,L] (Bx a1 a2 v18 x17 x38 (vc (.own 8704)) (vc (.own 8704)) (vc (.own 8704)) b0 L b2 L T T L b7 b8 b9 b10 L [(99999999999,[aI v19,aL (Y zA v20),aL (Y zB v21),aL (Y X7.row v22),aL (Y X2.row v23),aL (Y X4.row v24),aI v25,aB v26,aI v27,aI v28,aI v29,aL (Y rI v30),aL (Y (rL X0.row) v31),aL (Y (rL (rL (rL rB))) v32),aL (Y rI v33),.own 90000,aI v34,aB v35]),(11,(dm x38.row))] [(90000,1,Y rI v36),(8960,1,Y rI ([v18]:P U))]):=by
 intro f
 induction f with
 | zero=>intro b0 b2 b7 b8 b9 b10 h; simp at h
 | succ f ih=>
  intro b0 b2 b7 b8 b9 b10;refine Ai ⟨?_,?_,?_,?_,?_,?_,?_,?_,?_,?_,?_,?_,⟨⟩⟩<;>try first | (intro h; cases h; done) | (intro _ hw; simp at hw; done) | (intro h0 hw; obtain rfl:=hz h0 rfl; (try obtain rfl:=hq hw 7 rfl rfl); (try obtain rfl:=hq hw 8 rfl rfl); (try obtain rfl:=hq hw 9 rfl rfl); refine np ?_; simp only[Bx,A6,A7,A2,C,E,F,G,H,J]; exact ih _ _ _ _ _ _)
  ·intro h0 hw;refine⟨[],[(O,.keep [0,1,2,6,10,11,103,104,105,135,136,137,138,139,140,141,142,143,144,145,146] [99999999999,11] [90000,8704,8960])],X,X,?_⟩;try simp only[Bx,A6,A7,List.nil_append,List.cons_append,A2,C,E,F,G,H,J]
   refine As (es:=Y rI ([]:P U)) X (by simp only[St.fresh,zE,zF,Ak]; simp[AV.cells,V1.cells,AC.uses]) ?_;try simp only[A2,C,E,F,G,H,J]
   exact dR rec_ h_rec a1 a2 v18 x17 v19 v20 v21 v22 v23 v24 v25 v26 v27 v28 v29 v30 v31 v32 v33 v34 v35 x38 v36 r51 h49 h50 h51 _ b0 b2 b7 b8 b9 b10
theorem A72(rec_:Xf→(P U)→U→Q Xf)(h_rec:∀(a0:Xf) (a1:P U) (a2:U) zr,rec_ a0 a1 a2=N zr→FCz Z 139 [.p,.d (.sc (.sl (Y rI a1))),.d (.sc (.int .i64 a2))] (AY a0) (AZ a0) (AY zr) (AZ zr) [])(a1:P U)(a2)(v18)(x17:P X0)(v19)(v20)(v21)(v22)(v23)(v24)(v25)(v26)(v27)(v28)(v29)(v30)(v31)(v32)(v33)(v34)(v35)(x38:X0)(v36)(r51)(h49:(A3 ([]:P U).length a1.length 8)=T)(h50:(A3 a1.length ([v18]:P U).length 8)=T)(h51:rec_ (⟨(⟨(⟨(⟨v19,v20⟩:Xm),v21⟩:Xe),(⟨v22,v23⟩:X1),v24,(⟨v25,v26⟩:Xi),(⟨v27,v28,v29,v30⟩:Xn)⟩:X5),v31,v32,v33,v36,v34,v35⟩:Xf) (a1++([v18]:P U)) (zH .i64 (a2+x38.Cost))=N r51):∀(f:W) (b0 b2:V) (b4 b7:V) (b8 b9 b10:V),Ad Z HF (F2 a1 a2 v18 x17 x38 r51) f [b0,L,b2,L,b4,L,L,b7,b8,b9,b10,L] (Bx a1 a2 v18 x17 x38 (vc (.own 8704)) (vc (.own 8704)) (vc (.own 8704)) b0 L b2 L b4 L L b7 b8 b9 b10 L [(99999999999,[aI v19,aL (Y zA v20),aL (Y zB v21),aL (Y X7.row v22),aL (Y X2.row v23),aL (Y X4.row v24),aI v25,aB v26,aI v27,aI v28,aI v29,aL (Y rI v30),aL (Y (rL X0.row) v31),aL (Y (rL (rL (rL rB))) v32),aL (Y rI v33),.own 90000,aI v34,aB v35]),(11,(dm x38.row))] [(90000,1,Y rI v36)]):=by
 intro f
 induction f with
 | zero=>intro b0 b2 b4 b7 b8 b9 b10 h; simp at h
 | succ f ih=>
  intro b0 b2 b4 b7 b8 b9 b10;refine Ai ⟨?_,?_,?_,?_,?_,?_,?_,?_,?_,?_,?_,?_,⟨⟩⟩<;>try first | (intro _ hw; simp at hw; done) | (intro h0 hw; obtain rfl:=hz h0 rfl; (try obtain rfl:=hq hw 7 rfl rfl); (try obtain rfl:=hq hw 8 rfl rfl); (try obtain rfl:=hq hw 9 rfl rfl); refine np ?_; simp only[Bx,A6,A7,A2,C,E,F,G,H,J]; exact ih _ _ _ _ _ _ _)
  ·intro h0 hw;refine np ?_;try simp only[Bx,A6,A7,A2,C,E,F,G,H,J]
   refine As (es:=Y rI ([]:P U)) X (by simp only[St.fresh,zE,zF,Ak]; simp[AV.cells,V1.cells,AC.uses]) ?_;try simp only[A2,C,E,F,G,H,J]
   exact A70 rec_ h_rec a1 a2 v18 x17 v19 v20 v21 v22 v23 v24 v25 v26 v27 v28 v29 v30 v31 v32 v33 v34 v35 x38 v36 r51 h49 h50 h51 _ b0 b2 b4 b7 b8 b9 b10
  ·intro h0 hw;obtain rfl:=hq hw 4 rfl rfl;refine np ?_;try simp only[Bx,A6,A7,A2,C,E,F,G,H,J]
   refine As (es:=Y rI ([v18]:P U)) X (by simp only[St.fresh,zE,zF,Ak]; simp[AV.cells,V1.cells,AC.uses]) ?_;try simp only[A2,C,E,F,G,H,J]
   exact A71 rec_ h_rec a1 a2 v18 x17 v19 v20 v21 v22 v23 v24 v25 v26 v27 v28 v29 v30 v31 v32 v33 v34 v35 x38 v36 r51 h49 h50 h51 _ b0 b2 b7 b8 b9 b10
def jB:=fun a1 a2 (a0:Xf) v4 (k_:U→(P X0)→Q Xf)=>∀{v6 v7} {zr},k_ v6 v7=N zr→Kh Z 139 Lz 18 [0,1,2,7,45,46,47] [99999999999] [90000,2816] ⟨[(0,vc (.pb 99999999999 0)),pL 1 rI a1,pI 2 a2,pW 7 2816,pL 45 rI a1,pI 46 (a1.length:U),pI 47 v6],[(99999999999,([aI a0.h.Forecast.Tide.Mean,aM zA a0.h.Forecast.Tide.Parts,aM zB a0.h.Forecast.Surges,aM X7.row a0.h.Chart.Points,aM X2.row a0.h.Chart.Segments,aM X4.row a0.h.Fleet,aI a0.h.Regime.Gap,aB a0.h.Regime.NoMeet]++dm a0.h.Crew.row++ [aM (rL X0.row) a0.lists,aL (Y (rL (rL (rL rB))) a0.clash),aM rI a0.rest,.own 90000,aI a0.cost,aB v4]))],[(90000,1,Y rI a0.best),(2816,4,Y X0.row v7)]⟩ (Dj [] [] (AY zr) (AZ zr))
def jC:=fun a1 a2 v18 x17 v19 v20 v21 v22 v23 v24 v25 v26 v27 v28 v29 v30 v31 v32 v33 v34 v35 (x38:X0) v36 (k_:V→U→Q Xf)=>∀{v39 v40} {zr},k_ v39 v40=N zr→Kh Z 139 Lz 63 [0,1,2,6,10,11,12,103,104,105,110,111,112] [99999999999,11] [90000] ⟨[(0,vc (.pb 99999999999 0)),pL 1 rI a1,pI 2 a2,pI 6 (a1.length:U),pI 10 v18,pB 11,(12,vc (aB v39)),pL 103 X0.row x17,pI 104 (x17.length:U),pI 105 v18,pL 110 rI a1,pI 111 (a1.length:U),pI 112 v40],[(99999999999,[aI v19,aM zA v20,aM zB v21,aM X7.row v22,aM X2.row v23,aM X4.row v24,aI v25,aB v26,aI v27,aI v28,aI v29,aM rI v30,aM (rL X0.row) v31,aL (Y (rL (rL (rL rB))) v32),aM rI v33,.own 90000,aI v34,aB v35]),(11,(dm x38.row))],[(90000,1,Y rI v36)]⟩ (Dj [] [] (AY zr) (AZ zr))
def W5:=fun a1 a2 x17 (k_:U→U→(P Xd)→(P Xa)→(P X7)→(P X2)→(P X4)→U→V→U→U→U→(P U)→(P (P X0))→(P (P (P (P V))))→(P U)→U→V→(P U)→Q Xf)=>∀{v18 v19 v20 v21 v22 v23 v24 v25 v26 v27 v28 v29 v30 v31 v32 v33 v34 v35 v36} {zr},k_ v18 v19 v20 v21 v22 v23 v24 v25 v26 v27 v28 v29 v30 v31 v32 v33 v34 v35 v36=N zr→Kh Z 139 Lz 46 [0,1,2,6,103,104,105] [99999999999] [90000] ⟨[(0,vc (.pb 99999999999 0)),pL 1 rI a1,pI 2 a2,pI 6 (a1.length:U),pL 103 X0.row x17,pI 104 (x17.length:U),pI 105 v18],[(99999999999,[aI v19,aM zA v20,aM zB v21,aM X7.row v22,aM X2.row v23,aM X4.row v24,aI v25,aB v26,aI v27,aI v28,aI v29,aM rI v30,aM (rL X0.row) v31,aL (Y (rL (rL (rL rB))) v32),aM rI v33,.own 90000,aI v34,aB v35])],[(90000,1,Y rI v36)]⟩ (Dj [] [] (AY zr) (AZ zr))
def jA:=fun a1 a2 (a0:Xf) (k_:V→Q Xf)=>∀{v4} {zr},k_ v4=N zr→Kh Z 139 Lz 8 [0,1,2,6] [99999999999] [90000] ⟨[(0,vc (.pb 99999999999 0)),pL 1 rI a1,pI 2 a2,pI 6 (a1.length:U)],[(99999999999,([aI a0.h.Forecast.Tide.Mean,aM zA a0.h.Forecast.Tide.Parts,aM zB a0.h.Forecast.Surges,aM X7.row a0.h.Chart.Points,aM X2.row a0.h.Chart.Segments,aM X4.row a0.h.Fleet,aI a0.h.Regime.Gap,aB a0.h.Regime.NoMeet]++dm a0.h.Crew.row++ [aM (rL X0.row) a0.lists,aL (Y (rL (rL (rL rB))) a0.clash),aM rI a0.rest,.own 90000,aI a0.cost,aB v4]))],[(90000,1,Y rI a0.best)]⟩ (Dj [] [] (AY zr) (AZ zr))
theorem A74{rec_:Xf→(P U)→U→Q Xf}(h_rec:∀(a0:Xf) (a1:P U) (a2:U) zr,rec_ a0 a1 a2=N zr→FCz Z 139 [.p,.d (.sc (.sl (Y rI a1))),.d (.sc (.int .i64 a2))] (AY a0) (AZ a0) (AY zr) (AZ zr) []){a1 a2 a0 v4}{n:W}:jB a1 a2 a0 v4 (Dp rec_ a1 a2 a0 v4 n):=by
 induction n with
 | zero=>intro _ _ r h; cases h
 | succ n ih=>
  intro v6 v7 r h σ hσ S hS;refine ev hS ?_;rw[Dp] at h;refine AE (Ax ?_);obtain⟨h8,h⟩|⟨h8,h⟩:=ic h
  ·obtain⟨x9,h9,h⟩:=ob h;obtain⟨x10,h10,h⟩:=ob h;obtain⟨x11,h11,h⟩:=ob h;try simp only[hσ,h8,h9,h10,h11,C,E,F,G,H,J]
   refine Bf (es:=Y X0.row ([x11]:P X0)) ?_;obtain⟨h12,h⟩:=B3 h;try simp only[h8,h9,h10,h11,h12,C,E,F,G,H,J]
   refine ih h ?_ (by kernel_rfl);try simp only[h8,h9,h10,h11,h12,C,E,F,G,H,J,pL,aM,I]
  ·try simp only[hσ,h8,C,E,F,G,H,J]
   refine Cj ?_;try simp only[h8,C,E,F,G,H,J]
   refine Ay ?_;obtain⟨r13,h13,h⟩:=ob h;try simp only[h8,C,E,F,G,H,J]
   refine Cc (Ae A5k h13) ?_;obtain⟨r14,h14,h⟩:=ob h;try simp only[h8,C,E,F,G,H,J]
   refine Rl (Ae A5n h14) (by first | rfl | kernel_rfl) (BD X) X (uf X) ?_;obtain⟨h15,h⟩|⟨h15,h⟩:=ic h
   ·try simp only[h8,h15,C,E,F,G,H,J]
    refine Bf (es:=Y rI ([]:P U)) ?_;obtain⟨h16,h⟩:=B3 h;try simp only[h8,h15,h16,C,E,F,G,H,J]
    cases h;exact⟨trivial,[5440],by decide,by decide,X,X⟩
   ·try simp only[h8,h15,C,E,F,G,H,J]
    cases h;exact⟨trivial,[90000],by decide,by decide,X,X⟩
theorem A75{rec_:Xf→(P U)→U→Q Xf}(h_rec:∀(a0:Xf) (a1:P U) (a2:U) zr,rec_ a0 a1 a2=N zr→FCz Z 139 [.p,.d (.sc (.sl (Y rI a1))),.d (.sc (.int .i64 a2))] (AY a0) (AZ a0) (AY zr) (AZ zr) []){a1 a2 v18 x17 v19 v20 v21 v22 v23 v24 v25 v26 v27 v28 v29 v30 v31 v32 v33 v34 v35 x38 v36}{JB}(Zm:W5 a1 a2 x17 JB){n:W}:jC a1 a2 v18 x17 v19 v20 v21 v22 v23 v24 v25 v26 v27 v28 v29 v30 v31 v32 v33 v34 v35 x38 v36 (DL rec_ a1 a2 v18 x17 v19 v20 v21 v22 v23 v24 v25 v26 v27 v28 v29 v30 v31 v32 v33 v34 v35 x38 v36 JB n):=by
 induction n with
 | zero=>intro _ _ r h; cases h
 | succ n ih=>
  intro v39 v40 r h σ hσ S hS;refine ev hS ?_;rw[DL] at h;refine AE (Ax ?_);obtain⟨h41,h⟩|⟨h41,h⟩:=ic h
  ·obtain⟨x42,h42,h⟩:=ob h;obtain⟨x43,h43,h⟩:=ob h;obtain⟨x44,h44,h⟩:=ob h;obtain⟨x45,h45,h⟩:=ob h;obtain⟨x46,h46,h⟩:=ob h;obtain⟨h47,h⟩|⟨h47,h⟩:=ic h
   ·try simp only[hσ,h41,h42,h43,h44,h45,h46,h47,C,E,F,G,H,J]
    refine ih h ?_ (by kernel_rfl);try simp only[h41,h42,h43,h44,h45,h46,h47,C,E,F,G,H,J,pL,aM,I]
   ·try simp only[hσ,h41,h42,h43,h44,h45,h46,h47,C,E,F,G,H,J]
    refine ih h ?_ (by kernel_rfl);try simp only[h41,h42,h43,h44,h45,h46,h47,C,E,F,G,H,J,pL,aM,I]
  ·obtain⟨h48,h⟩|⟨h48,h⟩:=ic h
   ·try simp only[hσ,h41,h48,C,E,F,G,H,J]
    obtain⟨h49,h⟩:=B3 h;obtain⟨h50,h⟩:=B3 h;obtain⟨r51,h51,h⟩:=ob h;refine Ee (ks:= [0,1,2,6,10,11,103,104,105]) (bs:= [99999999999,11]) (rs:= [90000]) (τ:=(F2 a1 a2 v18 x17 x38 r51)) X (A72 rec_ h_rec a1 a2 v18 x17 v19 v20 v21 v22 v23 v24 v25 v26 v27 v28 v29 v30 v31 v32 v33 v34 v35 x38 v36 r51 h49 h50 h51 _ L L L L L L L) ?_;simp only[F2,Bx,A6];try simp only[h41,h48,h49,h50,C,E,F,G,H,J]
    refine Zm h ?_ (by kernel_rfl);try simp only[h41,h48,h49,h50,C,E,F,G,H,J,pL,aM,I]
   ·try simp only[hσ,h41,h48,C,E,F,G,H,J]
    refine Zm h ?_ (by kernel_rfl);try simp only[h41,h48,C,E,F,G,H,J,pL,aM,I]
theorem A76{rec_:Xf→(P U)→U→Q Xf}(h_rec:∀(a0:Xf) (a1:P U) (a2:U) zr,rec_ a0 a1 a2=N zr→FCz Z 139 [.p,.d (.sc (.sl (Y rI a1))),.d (.sc (.int .i64 a2))] (AY a0) (AZ a0) (AY zr) (AZ zr) []){a1 a2 x17}{n:W}:W5 a1 a2 x17 (EJ rec_ a1 a2 x17 n):=by
 induction n with
 | zero=>intro _ _ _ _ _ _ _ _ _ _ _ _ _ _ _ _ _ _ _ r h; cases h
 | succ n ih=>
  intro v18 v19 v20 v21 v22 v23 v24 v25 v26 v27 v28 v29 v30 v31 v32 v33 v34 v35 v36 r h σ hσ S hS;refine ev hS ?_;rw[EJ] at h;refine AE (Ax ?_);obtain⟨h37,h⟩|⟨h37,h⟩:=ic h
  ·obtain⟨x38,h38,h⟩:=ob h;try simp only[hσ,h37,h38,C,E,F,G,H,J]
   refine BM ?_;try simp only[h37,h38,C,E,F,G,H,J]
   refine A75 h_rec ih h ?_ (by kernel_rfl);try simp only[h37,h38,C,E,F,G,H,J,pL,aM,I]
  ·try simp only[hσ,h37,C,E,F,G,H,J]
   cases h;exact⟨trivial,[90000],by decide,by decide,X,X⟩
theorem dS{rec_:Xf→(P U)→U→Q Xf}(h_rec:∀(a0:Xf) (a1:P U) (a2:U) zr,rec_ a0 a1 a2=N zr→FCz Z 139 [.p,.d (.sc (.sl (Y rI a1))),.d (.sc (.int .i64 a2))] (AY a0) (AZ a0) (AY zr) (AZ zr) []){a1 a2 a0}:jA a1 a2 a0 (H4 rec_ a1 a2 a0):=by
 intro v4 r h σ hσ;unfold H4 at h;have s0:= @Al (Y X0.row ([]:P X0));have k0:= @A74; have k1:= @A76;exact gc
theorem oo:B1 Z 139=N ((C3 Z 139 Lz).strip,[],148):=by kernel_rfl
theorem A52(rec_:Xf→(P U)→U→Q Xf)(a0:Xf)(a1:P U)(a2:U)(r:Xf)(h_rec:∀(a0:Xf) (a1:P U) (a2:U) zr,rec_ a0 a1 a2=N zr→FCz Z 139 [.p,.d (.sc (.sl (Y rI a1))),.d (.sc (.int .i64 a2))] (AY a0) (AZ a0) (AY zr) (AZ zr) [])(h:Rd rec_ a0 a1 a2=N r):FCz Z 139 [.p,.d (.sc (.sl (Y rI a1))),.d (.sc (.int .i64 a2))] (AY a0) (AZ a0) (AY r) (AZ r) []:=by
 unfold Rd at h;refine PZ (σ:=⟨[(0,vc (.pb 99999999999 0)),(1,vc (aL (Y rI a1))),(2,vc (aI a2))],[(99999999999,[aI a0.h.Forecast.Tide.Mean,aL (Y zA a0.h.Forecast.Tide.Parts),aL (Y zB a0.h.Forecast.Surges),aL (Y X7.row a0.h.Chart.Points),aL (Y X2.row a0.h.Chart.Segments),aL (Y X4.row a0.h.Fleet),aI a0.h.Regime.Gap,aB a0.h.Regime.NoMeet,aI a0.h.Crew.Tugs,aI a0.h.Crew.Pilots,aI a0.h.Crew.Rest,aL (Y rI a0.h.Crew.Moves),aL (Y (rL X0.row) a0.lists),aL (Y (rL (rL (rL rB))) a0.clash),aL (Y rI a0.rest),.own 90000,aI a0.cost,aB a0.found])],[(90000,1,Y rI a0.best)]⟩) A4 oo X X X X ?_;refine Cb Lz ?_;intro S hS;refine ev hS ?_;try simp only[C,E,F,G,H,J]
 refine Ay ?_;obtain⟨h1,h⟩|⟨h1,h⟩:=ic h
 ·obtain⟨x2,h2,h⟩:=ob h;obtain⟨h3,h⟩|⟨h3,h⟩:=ic h
  ·try simp only[h1,h2,h3,C,E,F,G,H,J]
   cases h;exact⟨trivial,[90000],by decide,by decide,X,X⟩
  ·try simp only[h1,h2,h3,C,E,F,G,H,J]
   refine dS h_rec h ?_ (by kernel_rfl);try simp only[h1,h2,h3,C,E,F,G,H,J,pL,aM,I]
 ·try simp only[h1,C,E,F,G,H,J]
  refine dS h_rec h ?_ (by kernel_rfl);try simp only[h1,C,E,F,G,H,J,pL,aM,I]
theorem A53:∀(n:W) (a0:Xf) (a1:P U) (a2:U) (r:Xf),BW n a0 a1 a2=N r→FCz Z 139 [.p,.d (.sc (.sl (Y rI a1))),.d (.sc (.int .i64 a2))] (AY a0) (AZ a0) (AY r) (AZ r) []:=by
 intro n
 induction n with
 | zero=>intro _ _ _ r h; cases h
 | succ n ih=>intro a0 a1 a2 r h; rw[BW] at h; exact A52 (BW n) a0 a1 a2 r ih h
theorem A51{a0}{a1}{a2}{r}(h:Tv a0 a1 a2=N r):FCz Z 139 [.p,.d (.sc (.sl (Y rI a1))),.d (.sc (.int .i64 a2))] (AY a0) (AZ a0) (AY r) (AZ r) []:=A53 bigN a0 a1 a2 r h
def Yi:Hw:=([(8,[1,4,5,6,7,8],[20],[896,1152,149440])],[(6,0,(O,.ownb 20 15 149440 1)),(30,2,(O,.frz 896)),(30,3,(O,.frz 1152)),(30,4,(O,.frz 3776))])
def iy:=fun a1 (a0:X5) r1 (k_:U→(P U)→Q ((P U) × U × V))=>∀{v3 v4} {zr},k_ v3 v4=N zr→Kh Z 92 Yi 8 [1,4,5,6,7,8] [20] [896,1152,149440] ⟨[pL 1 (rL X0.row) a1,(4,vc (.nil)),pI 5 (0:U),(6,vc (aB L)),(7,vc (.pb 20 0)),pI 8 v3],[(20,([aI a0.Forecast.Tide.Mean,aM zA a0.Forecast.Tide.Parts,aM zB a0.Forecast.Surges,aM X7.row a0.Chart.Points,aM X2.row a0.Chart.Segments,aM X4.row a0.Fleet,aI a0.Regime.Gap,aB a0.Regime.NoMeet]++dm a0.Crew.row++ [aM (rL X0.row) a1,.own 896,.own 1152,.own 149440,aI (0:U),aB L]))],[(896,1,Y (rL (rL (rL rB))) r1),(1152,1,Y rI v4),(149440,1,Y rI ([]:P U))]⟩ (A8 [4,5,6] [.sc (.o 1 (Y rI zr.1)),.sc (.v (.int .i64 zr.2.1)),.sc (.v (.bool zr.2.2))])
theorem A77{a1 a0 r1}{n:W}:iy a1 a0 r1 (Jp a1 a0 r1 n):=by
 induction n with
 | zero=>intro _ _ r h; cases h
 | succ n ih=>
  intro v3 v4 r h σ hσ S hS;refine ev hS ?_;rw[Jp] at h;refine AE (Ax ?_);obtain⟨h5,h⟩|⟨h5,h⟩:=ic h
  ·obtain⟨x6,h6,h⟩:=ob h;obtain⟨r7,h7,h⟩:=ob h;try simp only[hσ,h5,h6,C,E,F,G,H,J]
   refine AA (Ae A5m h7) ?_;obtain⟨h8,h⟩|⟨h8,h⟩:=ic h
   ·try simp only[h5,h6,h8,C,E,F,G,H,J]
    cases h;trivial
   ·try simp only[h5,h6,h8,C,E,F,G,H,J]
    refine Ay ?_;obtain⟨x9,h9,h⟩:=ob h;have h9n:=Au h9;obtain⟨x10,h10,h⟩:=ob h;obtain⟨x11,h11,h⟩:=ob h;have h11n:=Au h11;try simp only[h5,h6,h8,h9,h9n,h10,h11,C,E,F,G,H,J]
    refine AS (row:=rI) (y:=(zH .i64 (x9+x10.Cost))) X X h11n X X (by rfl) ?_;try simp only[h5,h6,h8,h9,h9n,h10,h11,C,E,F,G,H,J]
    refine Ay ?_;try simp only[h5,h6,h8,h9,h9n,h10,h11,C,E,F,G,H,J]
    refine ih h ?_ (by kernel_rfl);try simp only[h5,h6,h8,h9,h9n,h10,h11,C,E,F,G,H,J,pL,aM,I]
  ·try simp only[hσ,h5,C,E,F,G,H,J]
   refine Bf (es:=Y rI ([]:P U)) ?_;try simp only[h5,C,E,F,G,H,J]
   refine Cj ?_;try simp only[h5,C,E,F,G,H,J]
   refine Cj ?_;try simp only[h5,C,E,F,G,H,J]
   refine Cj ?_;try simp only[h5,C,E,F,G,H,J]
   refine Rk ?_;obtain⟨r12,h12,h⟩:=ob h;try simp only[h5,C,E,F,G,H,J]
   refine H7 (A51 h12) 20 [149440] rfl X X X (by decide) X X X ?_;obtain⟨h13,h⟩|⟨h13,h⟩:=ic h
   ·try simp only[h5,h13,C,E,F,G,H,J]
    refine Ay ?_;try simp only[h5,h13,C,E,F,G,H,J]
    cases h;trivial
   ·try simp only[h5,h13,C,E,F,G,H,J]
    cases h;trivial
instance B8w:Ct 92 (∀{a0} {a1} {r},Oz a0 a1=N r→FC Z 92 [.ag (X5.row a0),.sc (.sl (Y (rL X0.row) a1))] [.sc (.o 1 (Y rI r.1)),.sc (.v (.int .i64 r.2.1)),.sc (.v (.bool r.2.2))]):=by
 refine⟨fun{a0} {a1} {r} h=> ?_⟩;unfold Oz at h;refine A5 A4 Yi [4,5,6] 74 ?_;intro S hS;refine ev hS ?_;simp only[C,E,F,G,H,J];try simp only[C,E,F,G,H,J]
 refine Bg ?_;try simp only[C,E,F,G,H,J]
 refine Ay ?_;obtain⟨r1,h1,h⟩:=ob h;try simp only[C,E,F,G,H,J]
 refine Cc (Ae A50 h1) ?_;obtain⟨n2,hn2,h⟩:=ob h;try simp only[C,E,F,G,H,J]
 refine Tz (m:= .row 18 1 (Y rI (List.replicate n2 (0:U)))) (aD X X hn2 X (Sk X)) X (Uv X) ?_;try simp only[C,E,F,G,H,J]
 refine Bg ?_;try simp only[C,E,F,G,H,J]
 refine FT (cs':= [aI a0.Forecast.Tide.Mean,aL (Y zA a0.Forecast.Tide.Parts),aL (Y zB a0.Forecast.Surges),aL (Y X7.row a0.Chart.Points),aL (Y X2.row a0.Chart.Segments),aL (Y X4.row a0.Fleet),aI a0.Regime.Gap,aB a0.Regime.NoMeet,aI a0.Crew.Tugs,aI a0.Crew.Pilots,aI a0.Crew.Rest,aL (Y rI a0.Crew.Moves),aL (Y (rL X0.row) a1),.own 896,.own 1152,.own 149440,aI (0:U),aB L]) X X X X ?_;try simp only[C,E,F,G,H,J]
 refine A77 h ?_ (by kernel_rfl);try simp only[C,E,F,G,H,J,pL,aM,I]
def Yj:Hw:=([(8,[1,3,7,14,15,16],[3],[832])],[])
def jI:=fun a1 a2 (a0:X5) (k_:U→(P (P X0))→Q V)=>∀{v1 v2} {zr},k_ v1 v2=N zr→Kh Z 48 Yj 8 [1,3,7,14,15,16] [3] [832] ⟨[pL 1 (rL X0.row) a1,pB 3,pW 7 832,pL 14 rI a2,pI 15 (a2.length:U),pI 16 v1],[(3,([aI a0.Forecast.Tide.Mean,aM zA a0.Forecast.Tide.Parts,aM zB a0.Forecast.Surges,aM X7.row a0.Chart.Points,aM X2.row a0.Chart.Segments,aM X4.row a0.Fleet,aI a0.Regime.Gap,aB a0.Regime.NoMeet]++dm a0.Crew.row))],[(832,1,Y (rL X0.row) v2)]⟩ (A8 [6] [.sc (.v (.bool zr))])
theorem A78{a1 a2 a0}{n:W}:jI a1 a2 a0 (Js a1 a2 a0 n):=by
 induction n with
 | zero=>intro _ _ r h; cases h
 | succ n ih=>
  intro v1 v2 r h σ hσ;rw[Js] at h;have s0:=fun(x5:P X0)=> @Al (Y (rL X0.row) ([x5]:P (P X0)))
  exact gc
instance B8z:Ct 48 (∀{a0} {a1} {a2} {r},OE a0 a1 a2=N r→FC Z 48 [.ag (X5.row a0),.sc (.sl (Y (rL X0.row) a1)),.sc (.sl (Y rI a2))] [.sc (.v (.bool r))]):=by
 refine⟨fun h=> ?_⟩;unfold OE at h;refine A5 A4 Yj [6] 36 ?_;have s0:= @Al (Y (rL X0.row) ([]:P (P X0)));have k0:= @A78;exact gc
def Yk:Hw:=([(6,[1,7,8,9],[],[])],[])
def io:=fun a1 a0 (k_:U→Q V)=>∀{v1} {zr},k_ v1=N zr→Kh Z 93 Yk 6 [1,7,8,9] [] [] ⟨[pL 1 rI a1,pL 7 rI a0,pI 8 (a0.length:U),pI 9 v1],[],[]⟩ (A8 [4] [.sc (.v (.bool zr))])
theorem A79{a1 a0}{n:W}:io a1 a0 (Ra a1 a0 n):=by
 induction n with
 | zero=>intro _ r h; cases h
 | succ n ih=>
  intro v1 r h σ hσ;rw[Ra] at h;exact gc
instance B8t:Ct 93 (∀{a0} {a1} {r},R9 a0 a1=N r→FC Z 93 [.sc (.sl (Y rI a0)),.sc (.sl (Y rI a1))] [.sc (.v (.bool r))]):=by
 refine⟨fun h=> ?_⟩;unfold R9 at h;refine A5 A4 Yk [4] 27 ?_;have k0:= @A79;exact gc
def LA:Hw:=([(10,[0,2,3,9,10,16,17,18],[],[]),(31,[0,2,3,9,10,13,14,16,17,18],[],[]),(34,[0,2,3,9,10,13,14,16,17,18,41],[],[]),(37,[0,2,3,9,10,13,14,16,17,18],[],[]),(39,[0,2,3,9,10,13,16,17,18,59],[],[])],[(3,1,(O,.frz 960)),(28,3,(O,.frz 1792))])
def jH:=fun a0 a2 v14 v2 v11 r9 a1 v4 (k_:V→Q (P U))=>∀{v21} {zr},k_ v21=N zr→Kh Z 50 LA 39 [0,2,3,9,10,13,16,17,18,59] [] [] ⟨[pI 0 a0,(2,vc (aB a2)),(3,vc (aB v14)),pL 9 rI v2,(10,vc (aB v11)),pL 13 rI r9,pL 16 rB a1,pI 17 (a1.length:U),pI 18 v4,(59,vc (aB v21))],[],[]⟩ (A8 [8] [.sc (.v (.sl (Y rI zr)))])
def jG:=fun a0 a2 v14 v2 v11 r9 a1 v4 (k_:V→Q (P U))=>∀{v17} {zr},k_ v17=N zr→Kh Z 50 LA 37 [0,2,3,9,10,13,14,16,17,18] [] [] ⟨[pI 0 a0,(2,vc (aB a2)),(3,vc (aB v14)),pL 9 rI v2,(10,vc (aB v11)),pL 13 rI r9,(14,vc (aB v17)),pL 16 rB a1,pI 17 (a1.length:U),pI 18 v4],[],[]⟩ (A8 [8] [.sc (.v (.sl (Y rI zr)))])
def jF:=fun a0 a2 v2 v11 r9 v12 a1 v4 (k_:V→V→Q (P U))=>∀{v14 v15} {zr},k_ v14 v15=N zr→Kh Z 50 LA 34 [0,2,3,9,10,13,14,16,17,18,41] [] [] ⟨[pI 0 a0,(2,vc (aB a2)),(3,vc (aB v14)),pL 9 rI v2,(10,vc (aB v11)),pL 13 rI r9,(14,vc (aB v12)),pL 16 rB a1,pI 17 (a1.length:U),pI 18 v4,(41,vc (aB v15))],[],[]⟩ (A8 [8] [.sc (.v (.sl (Y rI zr)))])
def jE:=fun a0 a2 v1 v2 r9 a1 v4 (k_:V→V→Q (P U))=>∀{v11 v12} {zr},k_ v11 v12=N zr→Kh Z 50 LA 31 [0,2,3,9,10,13,14,16,17,18] [] [] ⟨[pI 0 a0,(2,vc (aB a2)),(3,vc (aB v1)),pL 9 rI v2,(10,vc (aB v11)),pL 13 rI r9,(14,vc (aB v12)),pL 16 rB a1,pI 17 (a1.length:U),pI 18 v4],[],[]⟩ (A8 [8] [.sc (.v (.sl (Y rI zr)))])
def M6:=fun a0 a2 a1 (k_:V→(P U)→V→U→Q (P U))=>∀{v1 v2 v3 v4} {zr},k_ v1 v2 v3 v4=N zr→Kh Z 50 LA 10 [0,2,3,9,10,16,17,18] [] [] ⟨[pI 0 a0,(2,vc (aB a2)),(3,vc (aB v1)),pL 9 rI v2,(10,vc (aB v3)),pL 16 rB a1,pI 17 (a1.length:U),pI 18 v4],[],[]⟩ (A8 [8] [.sc (.v (.sl (Y rI zr)))])
theorem A8a{a0 a2 v14 v2 v11 r9 a1 v4}{BJ}(RG:M6 a0 a2 a1 BJ):jH a0 a2 v14 v2 v11 r9 a1 v4 (Jr a0 a2 v14 v2 v11 r9 a1 v4 BJ):=by
 intro v21 r h σ hσ;unfold Jr at h;have k0:= @RG;exact gc
theorem A8b{a0 a2 v14 v2 v11 r9 a1 v4}{BJ}(RG:M6 a0 a2 a1 BJ):jG a0 a2 v14 v2 v11 r9 a1 v4 (Lt a0 a2 v14 v2 v11 r9 a1 v4 BJ):=by
 intro v17 r h σ hσ;unfold Lt at h;have k0:= @A8a;exact gc
theorem A8c{a0 a2 v2 v11 r9 v12 a1 v4}{BJ}(RG:M6 a0 a2 a1 BJ):jF a0 a2 v2 v11 r9 v12 a1 v4 (Ls a0 a2 v2 v11 r9 v12 a1 v4 BJ):=by
 intro v14 v15 r h σ hσ;unfold Ls at h;have k0:= @A8b;exact gc
theorem A8d{a0 a2 v1 v2 r9 a1 v4}{BJ}(RG:M6 a0 a2 a1 BJ):jE a0 a2 v1 v2 r9 a1 v4 (Lr a0 a2 v1 v2 r9 a1 v4 BJ):=by
 intro v11 v12 r h σ hσ;unfold Lr at h;have k0:= @A8c;exact gc
theorem A8e{a0 a2 a1}{n:W}:M6 a0 a2 a1 (FS a0 a2 a1 n):=by
 induction n with
 | zero=>intro _ _ _ _ r h; cases h
 | succ n ih=>
  intro v1 v2 v3 v4 r h σ hσ;rw[FS] at h;have k0:= @A8d;exact gc
instance B8y:Ct 50 (∀{a0} {a1} {a2} {a3} {r},OD a0 a1 a2 a3=N r→FC Z 50 [.sc (.int .i64 a0),.sc (.sl (Y rB a1)),.sc (.bool a2),.sc (.bool a3)] [.sc (.v (.sl (Y rI r)))]):=by
 refine⟨fun h=> ?_⟩;unfold OD at h;refine A5 A4 LA [8] 65 ?_;have s0:= @Al (Y rI ([]:P U));have k0:= @A8e;exact gc
def Rq:Hw:=([(5,[1,2,3,24],[3],[]),(18,[1,3,8,9,10],[3],[1792,1856]),(37,[11,12,53,54],[],[3264])],[(30,3,(O,.frz 1856))])
def hH:=fun r14 (a1:P Xb) (k_:U→(P U)→Q ((P U) × V))=>∀{v15 v16} {zr},k_ v15 v16=N zr→Kh Z 14 Rq 37 [11,12,53,54] [] [3264] ⟨[pL 11 rI r14,pW 12 3264,pI 53 (a1.length:U),pI 54 v15],[],[(3264,1,Y rI v16)]⟩ (A8 [6,7] [.sc (.o 1 (Y rI zr.1)),.sc (.v (.bool zr.2))])
def hD:=fun a1 (a0:X5) r6 (k_:U→(P V)→Q ((P U) × V))=>∀{v7 v8} {zr},k_ v7 v8=N zr→Kh Z 14 Rq 18 [1,3,8,9,10] [3] [1792,1856] ⟨[pL 1 zG a1,pB 3,pW 8 1792,pW 9 1856,pI 10 v7],[(3,([aI a0.Forecast.Tide.Mean,aM zA a0.Forecast.Tide.Parts,aM zB a0.Forecast.Surges,aM X7.row a0.Chart.Points,aM X2.row a0.Chart.Segments,aM X4.row a0.Fleet,aI a0.Regime.Gap,aB a0.Regime.NoMeet]++dm a0.Crew.row))],[(1792,1,Y (rL X0.row) r6),(1856,1,Y rB v8)]⟩ (A8 [6,7] [.sc (.o 1 (Y rI zr.1)),.sc (.v (.bool zr.2))])
def gz:=fun a1 a2 (a0:X5) (k_:V→Q ((P U) × V))=>∀{v4} {zr},k_ v4=N zr→Kh Z 14 Rq 5 [1,2,3,24] [3] [] ⟨[pL 1 zG a1,pL 2 X9.row a2,pB 3,(24,vc (aB v4))],[(3,([aI a0.Forecast.Tide.Mean,aM zA a0.Forecast.Tide.Parts,aM zB a0.Forecast.Surges,aM X7.row a0.Chart.Points,aM X2.row a0.Chart.Segments,aM X4.row a0.Fleet,aI a0.Regime.Gap,aB a0.Regime.NoMeet]++dm a0.Crew.row))],[]⟩ (A8 [6,7] [.sc (.o 1 (Y rI zr.1)),.sc (.v (.bool zr.2))])
theorem A8f{r14 a1}{n:W}:hH r14 a1 (FG r14 a1 n):=by
 induction n with
 | zero=>intro _ _ r h; cases h
 | succ n ih=>
  intro v15 v16 r h σ hσ;rw[FG] at h;have s0:= @Al (Y rI ([v15]:P U));exact gc
theorem A8g{a1 a0 r6}{n:W}:hD a1 a0 r6 (J0 a1 a0 r6 n):=by
 induction n with
 | zero=>intro _ _ r h; cases h
 | succ n ih=>
  intro v7 v8 r h σ hσ;rw[J0] at h;have s0:=fun(r12:V)=> @Al (Y rB ([r12]:P V))
  have s1:= @Al (Y rI ([]:P U));have k0:= @A8f;exact gc
theorem A8i{a1 a2 a0}:gz a1 a2 a0 (NY a1 a2 a0):=by
 intro v4 r h σ hσ;unfold NY at h;have s0:= @Al (Y rB ([]:P V));have k0:= @A8g;exact gc
instance A5o:Ct 14 (∀{a0} {a1} {a2} {r},GK a0 a1 a2=N r→FC Z 14 [.ag (X5.row a0),.sc (.sl (Y zG a1)),.sc (.sl (Y X9.row a2))] [.sc (.o 1 (Y rI r.1)),.sc (.v (.bool r.2))]):=by
 refine⟨fun h=> ?_⟩;unfold GK at h;refine A5 A4 Rq [6,7] 67 ?_;have k0:= @A8i;exact gc
instance B5u:Ct 123 (∀{a0} {a1} {a2} {r},BV a0 a1 a2=N r→FC Z 123 [.sc (.int .i64 a0),.sc (.int .i64 a1),.sc (.int .i64 a2)] [.sc (.v (.bool r))]):=by
 refine⟨fun h=> ?_⟩;unfold BV at h;refine A5 A4 h0 [6] 15 ?_;exact gc
instance B5l:Ct 216 (∀{a0} {r},KF a0=N r→FC Z 216 [.sc (.int .i64 a0)] [.sc (.v (.bool r))]):=by
 refine⟨fun h=> ?_⟩;unfold KF at h;refine A5 A4 h0 [2] 10 ?_;exact gc
instance B4x:Ct 186 (∀{a0} {r},MH a0=N r→FC Z 186 [.ag (zA a0)] [.sc (.v (.bool r))]):=by
 refine⟨fun h=> ?_⟩;unfold MH at h;refine A5 A4 h0 [2] 19 ?_;exact gc
def Ym:Hw:=([(14,[16,17,18],[],[])],[])
def fP:=fun(a0:Xm) (k_:U→Q V)=>∀{v4} {zr},k_ v4=N zr→Kh Z 157 Ym 14 [16,17,18] [] [] ⟨[pL 16 zA a0.Parts,pI 17 (a0.Parts.length:U),pI 18 v4],[],[]⟩ (A8 [2] [.sc (.v (.bool zr))])
theorem A8j{a0}{n:W}:fP a0 (I9 a0 n):=by
 induction n with
 | zero=>intro _ r h; cases h
 | succ n ih=>
  intro v4 r h σ hσ;rw[I9] at h;exact gc
instance B5c:Ct 157 (∀{a0} {r},MS a0=N r→FC Z 157 [.ag (Xm.row a0)] [.sc (.v (.bool r))]):=by
 refine⟨fun h=> ?_⟩;unfold MS at h;refine A5 A4 Ym [2] 26 ?_;have k0:= @A8j;exact gc
instance A4g:Ct 122 (∀{a0} {r},D5 a0=N r→FC Z 122 [.sc (.int .i64 a0)] [.sc (.v (.bool r))]):=by
 refine⟨fun h=> ?_⟩;unfold D5 at h;refine A5 A4 h0 [2] 5 ?_;exact gc
instance B5b:Ct 158 (∀{a0} {r},MR a0=N r→FC Z 158 [.ag (zB a0)] [.sc (.v (.bool r))]):=by
 refine⟨fun h=> ?_⟩;unfold MR at h;refine A5 A4 h0 [2] 23 ?_;exact gc
end Go.Vi
