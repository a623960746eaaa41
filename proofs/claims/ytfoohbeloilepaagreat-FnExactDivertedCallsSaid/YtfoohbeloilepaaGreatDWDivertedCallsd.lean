/-
Walks. No condition.
-/
import Derived.Test.YtfoohbeloilepaaGreatDNf
import Derived.Test.YtfoohbeloilepaaGreatChecked
import Derived.Test.YtfoohbeloilepaaGreatDVi41
import Derived.KernelRfl
import Derived.Test.YtfoohbeloilepaaGreatDWDivertedCallsc
namespace Go.Vi
open Go.Proofs
set_option linter.all false
set_option maxRecDepth 4000
set_option maxHeartbeats 2000000
open Nat renaming reduceBEq → C, reduceMul → E, reduceAdd → F, reduceDiv → G, le_of_ble_eq_true → uf
open Int renaming reduceBEq → H
attribute [local irreducible] go Bb Hj
open List renaming map → Y, map_nil → zA, length_set → zC, all_eq_true → zE, all_cons → zF, all_nil → zG, cons_append → zH, nil_append → zI, drop_zero → zK
open Tryz renaming prog → Z
open Xd renaming row → I
open Xa renaming row → zB
open Xc renaming row → zD
open Xb renaming row → zJ
open IntKind renaming wrap → zL
open Bool renaming true → T, false → L
open Option renaming some → N, none → O
open _root_ renaming List → P, Option → Q, Int → U, Bool → V, Nat → W, rfl → X
def TT:Hw:=([(8,[1,3,8,12,13,14],[3],[704]),(31,[1,3,8,10,12,13,14,28,29],[3,10],[704])],[])
def ft:=fun a1 a2 v1 (x7:X4) (a0:X1) (x4:X3) (k_:U→(P Xc)→Q ((P Xc) × V))=>∀{v8 v9} {zr},k_ v8 v9=N zr→Kh Z 236 TT 31 [1,3,8,10,12,13,14,28,29] [3,10] [704] ⟨[pL 1 X4.row a1,pB 3,pW 8 704,pB 10,pL 12 X3.row a2,pI 13 (a2.length:U),pI 14 v1,pI 28 x7.Tugs,pI 29 v8],[(3,[aM X7.row a0.Points,aM X2.row a0.Segments]),(10,(dm x4.row))],[(704,4,Y zD v9)]⟩ (A8 [6,7] [.sc (.o 4 (Y zD zr.1)),.sc (.v (.bool zr.2))])
def VL:=fun a1 a2 (a0:X1) (k_:U→(P Xc)→Q ((P Xc) × V))=>∀{v1 v2} {zr},k_ v1 v2=N zr→Kh Z 236 TT 8 [1,3,8,12,13,14] [3] [704] ⟨[pL 1 X4.row a1,pB 3,pW 8 704,pL 12 X3.row a2,pI 13 (a2.length:U),pI 14 v1],[(3,[aM X7.row a0.Points,aM X2.row a0.Segments])],[(704,4,Y zD v2)]⟩ (A8 [6,7] [.sc (.o 4 (Y zD zr.1)),.sc (.v (.bool zr.2))])
theorem B0k{a1 a2 v1 x7 a0 x4}{P7}(tI:VL a1 a2 a0 P7){n:W}:ft a1 a2 v1 x7 a0 x4 (GC a1 a2 v1 x7 a0 x4 P7 n):=by
 induction n with
 | zero=>intro _ _ r h; cases h
 | succ n ih=>
  intro v8 v9 r h σ hσ;rw[GC] at h;have s0:=fun(r11:Xc)=> @Al (Y zD ([r11]:P Xc))
  have k0:= @tI;exact gc
theorem B0l{a1 a2 a0}{n:W}:VL a1 a2 a0 (Fs a1 a2 a0 n):=by
 induction n with
 | zero=>intro _ _ r h; cases h
 | succ n ih=>
  intro v1 v2 r h σ hσ;rw[Fs] at h;have k0:= @B0k;exact gc
instance B5r:Ct 236 (∀{a0} {a1} {a2} {r},N9 a0 a1 a2=N r→FC Z 236 [.ag (X1.row a0),.sc (.sl (Y X4.row a1)),.sc (.sl (Y X3.row a2))] [.sc (.o 4 (Y zD r.1)),.sc (.v (.bool r.2))]):=by
 refine⟨fun h=> ?_⟩;unfold N9 at h;refine A5 A4 TT [6,7] 44 ?_;have s0:= @Al (Y zD ([]:P Xc));have k0:= @B0l;exact gc
def YL:Hw:=([(14,[8,9,10],[],[])],[])
def ey:=fun a0 (k_:U→Q V)=>∀{v2} {zr},k_ v2=N zr→Kh Z 282 YL 14 [8,9,10] [] [] ⟨[pL 8 zD a0,pI 9 (a0.length:U),pI 10 v2],[],[]⟩ (A8 [2] [.sc (.v (.bool zr))])
theorem B0m{a0}{n:W}:ey a0 (HZ a0 n):=by
 induction n with
 | zero=>intro _ r h; cases h
 | succ n ih=>
  intro v2 r h σ hσ;rw[HZ] at h;exact gc
instance B4j:Ct 282 (∀{a0} {r},HY a0=N r→FC Z 282 [.sc (.sl (Y zD a0))] [.sc (.v (.bool r))]):=by
 refine⟨fun h=> ?_⟩;unfold HY at h;refine A5 A4 YL [2] 42 ?_;have k0:= @B0m;exact gc
instance A4a:Ct 272 (∀{a0} {a1} {a2} {r},Qt a0 a1 a2=N r→FC Z 272 [.sc (.int .i64 a0),.sc (.sl (Y rI a1)),.sc (.sl (Y zD a2))] [.sc (.v (.bool r))]):=by
 refine⟨fun h=> ?_⟩;unfold Qt at h;refine A5 A4 h0 [6] 17 ?_;exact gc
def YM:Hw:=([(5,[0,1,6,7,29],[6,7],[])],[])
def fD:=fun a0 a1 (a2:Xc) (a3:Xc) (k_:V→Q (U × V))=>∀{v8} {zr},k_ v8=N zr→Kh Z 286 YM 5 [0,1,6,7,29] [6,7] [] ⟨[pI 0 a0,pL 1 rI a1,pB 6,pB 7,(29,vc (aB v8))],[(6,(dm a2.row)),(7,(dm a3.row))],[]⟩ (A8 [8,9] [.sc (.v (.int .i64 zr.1)),.sc (.v (.bool zr.2))])
theorem B0o{a0 a1 a2 a3}:fD a0 a1 a2 a3 (I1 a0 a1 a2 a3):=by
 intro v8 r h σ hσ;unfold I1 at h;exact gc
instance B4n:Ct 286 (∀{a0} {a1} {a2} {a3} {r},Qm a0 a1 a2 a3=N r→FC Z 286 [.sc (.int .i64 a0),.sc (.sl (Y rI a1)),.ag (zD a2),.ag (zD a3)] [.sc (.v (.int .i64 r.1)),.sc (.v (.bool r.2))]):=by
 refine⟨fun h=> ?_⟩;unfold Qm at h;refine A5 A4 YM [8,9] 41 ?_;have k0:= @B0o;exact gc
instance cv:Ct 283 (∀{a0} {a1} {a2} {a3} {r},Km a0 a1 a2 a3=N r→FC Z 283 [.sc (.int .i64 a0),.sc (.sl (Y rI a1)),.ag (zD a2),.ag (zD a3)] [.sc (.v (.bool r))]):=by
 refine⟨fun{a0} {a1} {a2} {a3} {r} h=> ?_⟩;unfold Km at h;refine A5 A4 h0 [8] 39 ?_;have s0:= @Al (Y zD ([a2]:P Xc));have s1:= @Al (Y zD ([a3]:P Xc));exact gc
def RA:Hw:=([(8,[0,1,2,7,15,16,17],[],[896]),(22,[0,1,2,7,8,9,15,16,17,22,23,24],[9],[896]),(35,[0,1,2,7,8,9,10,15,16,17,22,23,24,45],[9],[896])],[])
def fm:=fun a0 a1 a2 v2 v6 (x5:Xc) v7 (k_:V→Q (P U))=>∀{v14} {zr},k_ v14=N zr→Kh Z 273 RA 35 [0,1,2,7,8,9,10,15,16,17,22,23,24,45] [9] [896] ⟨[pI 0 a0,pL 1 rI a1,pL 2 zD a2,pW 7 896,pI 8 v2,pB 9,pI 10 v6,pL 15 zD a2,pI 16 (a2.length:U),pI 17 v2,pL 22 zD a2,pI 23 (a2.length:U),pI 24 v6,(45,vc (aB v14))],[(9,(dm x5.row))],[(896,1,Y rU v7)]⟩ (A8 [6] [.sc (.o 1 (Y rU zr))])
def VI:=fun a0 a1 a2 v2 (x5:Xc) (k_:U→(P U)→Q (P U))=>∀{v6 v7} {zr},k_ v6 v7=N zr→Kh Z 273 RA 22 [0,1,2,7,8,9,15,16,17,22,23,24] [9] [896] ⟨[pI 0 a0,pL 1 rI a1,pL 2 zD a2,pW 7 896,pI 8 v2,pB 9,pL 15 zD a2,pI 16 (a2.length:U),pI 17 v2,pL 22 zD a2,pI 23 (a2.length:U),pI 24 v6],[(9,(dm x5.row))],[(896,1,Y rU v7)]⟩ (A8 [6] [.sc (.o 1 (Y rU zr))])
def VH:=fun a0 a1 a2 (k_:U→(P U)→Q (P U))=>∀{v2 v3} {zr},k_ v2 v3=N zr→Kh Z 273 RA 8 [0,1,2,7,15,16,17] [] [896] ⟨[pI 0 a0,pL 1 rI a1,pL 2 zD a2,pW 7 896,pL 15 zD a2,pI 16 (a2.length:U),pI 17 v2],[],[(896,1,Y rU v3)]⟩ (A8 [6] [.sc (.o 1 (Y rU zr))])
theorem Vl{a0 a1 a2 v2 v6 x5 v7}{P4}(Zh:VI a0 a1 a2 v2 x5 P4):fm a0 a1 a2 v2 v6 x5 v7 (Im a0 a1 a2 v2 v6 x5 v7 P4):=by
 intro v14 r h σ hσ S hS;refine ev hS ?_;refine Ax ?_;unfold Im at h;obtain⟨h15,h⟩|⟨h15,h⟩:=ic h
 ·try simp only[hσ,h15,C,E,F,G,H,J]
  refine Ay ?_;obtain⟨x16,h16,h⟩:=ob h;have h16n:=Au h16;obtain⟨h17,h⟩:=Hq h;try simp only[h15,h16,h16n,h17,C,E,F,G,H,J]
  refine AS (row:=rU) (y:=(Bd .or .u64 x16 (Bh .u64 (1:U) v6))) X X h16n X X (by rfl) ?_;try simp only[h15,h16,h16n,h17,C,E,F,G,H,J]
  refine Ay ?_;try simp only[h15,h16,h16n,h17,C,E,F,G,H,J]
  refine Zh h ?_ (by kernel_rfl);try simp only[h15,h16,h16n,h17,C,E,F,G,H,J,pL,aM,zA]
 ·try simp only[hσ,h15,C,E,F,G,H,J]
  refine Zh h ?_ (by kernel_rfl);try simp only[h15,C,E,F,G,H,J,pL,aM,zA]
theorem B0p{a0 a1 a2 v2 x5}{JA}(tF:VH a0 a1 a2 JA){n:W}:VI a0 a1 a2 v2 x5 (E8 a0 a1 a2 v2 x5 JA n):=by
 induction n with
 | zero=>intro _ _ r h; cases h
 | succ n ih=>
  intro v6 v7 r h σ hσ S hS;refine ev hS ?_;rw[E8] at h;refine AE (Ax ?_);obtain⟨h8,h⟩|⟨h8,h⟩:=ic h
  ·obtain⟨x9,h9,h⟩:=ob h;try simp only[hσ,h8,h9,C,E,F,G,H,J]
   refine BM ?_;obtain⟨h10,h⟩|⟨h10,h⟩:=ic h
   ·obtain⟨r11,h11,h⟩:=ob h;try simp only[h8,h9,h10,C,E,F,G,H,J]
    refine AA (Ae cv h11) ?_;obtain⟨h12,h⟩|⟨h12,h⟩:=ic h
    ·try simp only[h8,h9,h10,h12,C,E,F,G,H,J]
     refine Vl ih h ?_ (by kernel_rfl);try simp only[h8,h9,h10,h12,C,E,F,G,H,J,pL,aM,zA]
    ·obtain⟨r13,h13,h⟩:=ob h;try simp only[h8,h9,h10,h12,C,E,F,G,H,J]
     refine AA (Ae cv h13) ?_;try simp only[h8,h9,h10,h12,C,E,F,G,H,J]
     refine Vl ih h ?_ (by kernel_rfl);try simp only[h8,h9,h10,h12,C,E,F,G,H,J,pL,aM,zA]
   ·try simp only[h8,h9,h10,C,E,F,G,H,J]
    refine Vl ih h ?_ (by kernel_rfl);try simp only[h8,h9,h10,C,E,F,G,H,J,pL,aM,zA]
  ·try simp only[hσ,h8,C,E,F,G,H,J]
   refine tF h ?_ (by kernel_rfl);try simp only[h8,C,E,F,G,H,J,pL,aM,zA]
theorem B0q{a0 a1 a2}{n:W}:VH a0 a1 a2 (Fq a0 a1 a2 n):=by
 induction n with
 | zero=>intro _ _ r h; cases h
 | succ n ih=>
  intro v2 v3 r h σ hσ;rw[Fq] at h;have k0:= @B0p;exact gc
instance A4l:Ct 273 (∀{a0} {a1} {a2} {r},N5 a0 a1 a2=N r→FC Z 273 [.sc (.int .i64 a0),.sc (.sl (Y rI a1)),.sc (.sl (Y zD a2))] [.sc (.o 1 (Y rU r))]):=by
 refine⟨fun h=> ?_⟩;unfold N5 at h;refine A5 A4 RA [6] 57 ?_;have s0:= @Ej _ rU (0:U);have k0:= @B0q;exact gc
def RB:Hw:=([(10,[0,2],[],[]),(18,[0,2],[],[]),(26,[0,2],[],[])],[])
def gg:=fun(k_:U→U→Q U)=>∀{v8 v9} {zr},k_ v8 v9=N zr→Kh Z 288 RB 26 [0,2] [] [] ⟨[(0,vc (.dat (.int .u64 v8))),pI 2 v9],[],[]⟩ (A8 [2] [.sc (.v (.int .i64 zr))])
def gf:=fun(k_:U→U→Q U)=>∀{v5 v6} {zr},k_ v5 v6=N zr→Kh Z 288 RB 18 [0,2] [] [] ⟨[(0,vc (.dat (.int .u64 v5))),pI 2 v6],[],[]⟩ (A8 [2] [.sc (.v (.int .i64 zr))])
def ge:=fun(k_:U→U→Q U)=>∀{v2 v3} {zr},k_ v2 v3=N zr→Kh Z 288 RB 10 [0,2] [] [] ⟨[(0,vc (.dat (.int .u64 v2))),pI 2 v3],[],[]⟩ (A8 [2] [.sc (.v (.int .i64 zr))])
theorem B0r:gg L1:=by
 intro v8 v9 r h σ hσ S hS;refine ev hS ?_;refine Ax ?_;unfold L1 at h;obtain⟨b10,h10,h⟩:=ob h;try simp only[hσ,h10,C,E,F,G,H,J]
 cases h;exact t0
theorem B0s:gf NQ:=by
 intro v5 v6 r h σ hσ;unfold NQ at h;have k0:= @B0r;exact gc
theorem B0t:ge NP:=by
 intro v2 v3 r h σ hσ;unfold NP at h;have k0:= @B0s;exact gc
instance B66:Ct 288 (∀{a0} {r},QO a0=N r→FC Z 288 [.sc (.int .u64 a0)] [.sc (.v (.int .i64 r))]):=by
 refine⟨fun h=> ?_⟩;unfold QO at h;refine A5 A4 RB [2] 25 ?_;have k0:= @B0t;exact gc
instance A5c:Ct 284 (∀{a0} {r},L0 a0=N r→FC Z 284 [.sc (.int .u64 a0)] [.sc (.v (.int .i64 r))]):=by
 refine⟨fun h=> ?_⟩;unfold L0 at h;refine A5 A4 h0 [2] 8 ?_;exact gc
def OP:Hw:=([(14,[0,3,4,5,6],[],[896,1024]),(29,[0,3,4,5,6,7,8],[],[896,1024]),(34,[0,3,4,5,6,7,8,9],[],[896,1024]),(43,[0,3,4,5,6,7,8,9],[],[896,1024])],[])
def fh:=fun a0 y5 v6 v17 v18 v21 v19 (k_:(P U)→Q U)=>∀{v28} {zr},k_ v28=N zr→Kh Z 274 OP 43 [0,3,4,5,6,7,8,9] [] [896,1024] ⟨[pL 0 rU a0,pI 3 y5,pW 4 896,pW 5 1024,pI 6 v6,pI 7 v17,pI 8 v18,pI 9 v21],[],[(896,1,Y rB v19),(1024,1,Y rI v28)]⟩ (A8 [2] [.sc (.v (.int .i64 zr))])
def VF:=fun a0 y5 v6 v17 v18 v19 (k_:U→(P U)→Q U)=>∀{v21 v22} {zr},k_ v21 v22=N zr→Kh Z 274 OP 34 [0,3,4,5,6,7,8,9] [] [896,1024] ⟨[pL 0 rU a0,pI 3 y5,pW 4 896,pW 5 1024,pI 6 v6,pI 7 v17,pI 8 v18,pI 9 v21],[],[(896,1,Y rB v19),(1024,1,Y rI v22)]⟩ (A8 [2] [.sc (.v (.int .i64 zr))])
def fg:=fun a0 y5 v6 v8 (k_:U→U→(P V)→Q U)=>∀{v17 v18 v19} {zr},k_ v17 v18 v19=N zr→Kh Z 274 OP 29 [0,3,4,5,6,7,8] [] [896,1024] ⟨[pL 0 rU a0,pI 3 y5,pW 4 896,pW 5 1024,pI 6 v6,pI 7 v17,pI 8 v18],[],[(896,1,Y rB v19),(1024,1,Y rI v8)]⟩ (A8 [2] [.sc (.v (.int .i64 zr))])
def Q0:=fun a0 y5 (k_:U→(P V)→(P U)→Q U)=>∀{v6 v7 v8} {zr},k_ v6 v7 v8=N zr→Kh Z 274 OP 14 [0,3,4,5,6] [] [896,1024] ⟨[pL 0 rU a0,pI 3 y5,pW 4 896,pW 5 1024,pI 6 v6],[],[(896,1,Y rB v7),(1024,1,Y rI v8)]⟩ (A8 [2] [.sc (.v (.int .i64 zr))])
theorem db{a0 y5 v6 v17 v18 v21 v19}{CD}(OR:Q0 a0 y5 CD){RW}(tD:VF a0 y5 v6 v17 v18 v19 RW):fh a0 y5 v6 v17 v18 v21 v19 (KH a0 y5 v6 v17 v18 v21 v19 CD RW):=by
 intro v28 r h σ hσ;unfold KH at h;have k0:= @OR; have k1:= @tD;exact gc
theorem B0u{a0 y5 v6 v17 v18 v19}{CD}(OR:Q0 a0 y5 CD){n:W}:VF a0 y5 v6 v17 v18 v19 (Gx a0 y5 v6 v17 v18 v19 CD n):=by
 induction n with
 | zero=>intro _ _ r h; cases h
 | succ n ih=>
  intro v21 v22 r h σ hσ S hS;refine ev hS ?_;rw[Gx] at h;refine AE (Ax ?_);obtain⟨h23,h⟩:=Hq h;obtain⟨x24,h24,h⟩:=ob h;have h24n:=Au h24;obtain⟨h25,h⟩|⟨h25,h⟩:=ic h
  ·try simp only[hσ,h23,h24,h24n,h25,C,E,F,G,H,J]
   refine Ay ?_;obtain⟨x26,h26,h⟩:=ob h;have h26n:=Au h26;obtain⟨x27,h27,h⟩:=ob h;have h27n:=Au h27;try simp only[h23,h24,h24n,h25,h26,h26n,h27,h27n,C,E,F,G,H,J]
   refine AS (row:=rI) (y:=(if(zL .i64 ((1:U)+x27))<x26 then(zL .i64 ((1:U)+x27)) else x26)) X X h26n X X (by rfl) ?_;try simp only[h23,h24,h24n,h25,h26,h26n,h27,h27n,C,E,F,G,H,J]
   refine Ay ?_;try simp only[h23,h24,h24n,h25,h26,h26n,h27,h27n,C,E,F,G,H,J]
   refine db OR ih h ?_ (by kernel_rfl);try simp only[h23,h24,h24n,h25,h26,h26n,h27,h27n,C,E,F,G,H,J,pL,aM,zA]
  ·try simp only[hσ,h23,h24,h24n,h25,C,E,F,G,H,J]
   refine db OR ih h ?_ (by kernel_rfl);try simp only[h23,h24,h24n,h25,C,E,F,G,H,J,pL,aM,zA]
theorem dc{a0 y5 v6 v8}{CD}(OR:Q0 a0 y5 CD):fg a0 y5 v6 v8 (KG a0 y5 v6 v8 CD):=by
 intro v17 v18 v19 r h σ hσ;unfold KG at h;have s0:= @Eo _ rI ((a0.length:U));have k0:= @B0u;exact gc
theorem B0v{a0 y5}{n:W}:Q0 a0 y5 (ED a0 y5 n):=by
 induction n with
 | zero=>intro _ _ _ r h; cases h
 | succ n ih=>
  intro v6 v7 v8 r h σ hσ S hS;refine ev hS ?_;rw[ED] at h;refine AE (Ax ?_);obtain⟨h9,h⟩|⟨h9,h⟩:=ic h
  ·obtain⟨r10,h10,h⟩:=ob h;try simp only[hσ,h9,C,E,F,G,H,J]
   refine AA (Ae A5c h10) ?_;obtain⟨h11,h⟩:=Hq h;obtain⟨x12,h12,h⟩:=ob h;have h12n:=Au h12;obtain⟨h13,h⟩|⟨h13,h⟩:=ic h
   ·obtain⟨x14,h14,h⟩:=ob h;obtain⟨x15,h15,h⟩:=ob h;have h15n:=Au h15;try simp only[h9,h11,h12,h12n,h13,h14,h15,C,E,F,G,H,J]
    refine AS (row:=rB) (y:=((Bd .andNot .u64 (IntKind.u64.wrap (Bd .andNot .i64 v6 (Bh .i64 (1:U) (zL .i64 (r10 - (1:U)))))) x14)==(0:U))) X X h15n X X (by rfl) ?_;try simp only[h9,h11,h12,h12n,h13,h14,h15,C,E,F,G,H,J]
    refine dc ih h ?_ (by kernel_rfl);try simp only[h9,h11,h12,h12n,h13,h14,h15,C,E,F,G,H,J,pL,aM,zA]
   ·obtain⟨x16,h16,h⟩:=ob h;have h16n:=Au h16;try simp only[h9,h11,h12,h12n,h13,h16,C,E,F,G,H,J]
    refine AS (row:=rB) (y:=false) X X h16n X X (by rfl) ?_;try simp only[h9,h11,h12,h12n,h13,h16,C,E,F,G,H,J]
    refine dc ih h ?_ (by kernel_rfl);try simp only[h9,h11,h12,h12n,h13,h16,C,E,F,G,H,J,pL,aM,zA]
  ·obtain⟨x30,h30,h⟩:=ob h;have h30n:=Au h30;try simp only[hσ,h9,h30,h30n,C,E,F,G,H,J]
   cases h;exact t0
instance A4h:Ct 274 (∀{a0} {r},N2 a0=N r→FC Z 274 [.sc (.sl (Y rU a0))] [.sc (.v (.int .i64 r))]):=by
 refine⟨fun{a0} {r} h=> ?_⟩;unfold N2 at h;refine A5 A4 OP [2] 88 ?_;intro S hS;refine ev hS ?_;simp only[C,E,F,G,H,J];obtain⟨h1,h⟩:=Hq h;obtain⟨n2,hn2,h⟩:=ob h;try simp only[h1,C,E,F,G,H,J]
 refine TA (es:=Y rB (List.replicate n2 L)) X X hn2 X (Sk X) X ?_;obtain⟨n3,hn3,h⟩:=ob h;try simp only[h1,C,E,F,G,H,J]
 refine TA (es:=Y rI (List.replicate n3 (0:U))) X X hn3 X (Sk X) X ?_;obtain⟨x4,h4,h⟩:=ob h;have h4n:=Au h4;try simp only[h1,h4,C,E,F,G,H,J]
 refine AS (row:=rB) (y:=true) X X h4n X X (by rfl) ?_;try simp only[h1,h4,C,E,F,G,H,J]
 refine B0v h ?_ (by kernel_rfl);try simp only[h1,h4,C,E,F,G,H,J,pL,aM,zA]
def OQ:Hw:=([(16,[0,3,4],[99999999999],[90000,90001]),(31,[0,3,4],[99999999999],[90000,90001]),(51,[0,3,4],[99999999999],[90000,90001])],[(48,7,(O,.cut 95)),(55,7,(O,.cut 123))])
def fb:=fun(a0:Xh) v2 (k_:(P U)→U→(P U)→(P U)→Q (V × Xh))=>∀{v22 v23 v24 v25} {zr},k_ v22 v23 v24 v25=N zr→Kh Z 275 OQ 51 [0,3,4] [99999999999] [90000,90001] ⟨[(0,vc (.pb 99999999999 0)),pI 3 (a0.who.length:U),pI 4 v2],[(99999999999,[aM rU v22,aI v23,.own 90000,.own 90001])],[(90000,1,Y rU v24),(90001,1,Y rI v25)]⟩ (Dj [2] [.sc (.v (.bool zr.1))] (CH zr.2) (CI zr.2))
def fZ:=fun(a0:Xh) v2 v3 v4 v6 (k_:(P U)→Q (V × Xh))=>∀{v11} {zr},k_ v11=N zr→Kh Z 275 OQ 31 [0,3,4] [99999999999] [90000,90001] ⟨[(0,vc (.pb 99999999999 0)),pI 3 (a0.who.length:U),pI 4 v2],[(99999999999,[aM rU v3,aI v4,.own 90000,.own 90001])],[(90000,1,Y rU v11),(90001,1,Y rI v6)]⟩ (Dj [2] [.sc (.v (.bool zr.1))] (CH zr.2) (CI zr.2))
def SK:=fun(a0:Xh) (k_:U→(P U)→U→(P U)→(P U)→Q (V × Xh))=>∀{v2 v3 v4 v5 v6} {zr},k_ v2 v3 v4 v5 v6=N zr→Kh Z 275 OQ 16 [0,3,4] [99999999999] [90000,90001] ⟨[(0,vc (.pb 99999999999 0)),pI 3 (a0.who.length:U),pI 4 v2],[(99999999999,[aM rU v3,aI v4,.own 90000,.own 90001])],[(90000,1,Y rU v5),(90001,1,Y rI v6)]⟩ (Dj [2] [.sc (.v (.bool zr.1))] (CH zr.2) (CI zr.2))
theorem de{rec_:Xh→Q (V × Xh)}(h_rec:∀(a0:Xh) zr,rec_ a0=N zr→FCz Z 275 [.p] (CH a0) (CI a0) (CH zr.2) (CI zr.2) [.sc (.v (.bool zr.1))]){a0 v2}{EO}(RF:SK a0 EO):fb a0 v2 (Ih rec_ a0 v2 EO):=by
 intro v22 v23 v24 v25 r h σ hσ S hS;refine ev hS ?_;refine Ax ?_;unfold Ih at h;obtain⟨x26,h26,h⟩:=ob h;have h26n:=Au h26;obtain⟨h27,h⟩|⟨h27,h⟩:=ic h
 ·obtain⟨p28,h28,h⟩:=ob h;try simp only[hσ,h26,h26n,h27,C,E,F,G,H,J]
  refine H8 X X h28 (by rfl) ?_;try simp only[h26,h26n,h27,C,E,F,G,H,J]
  cases h;exact⟨⟨X,⟨⟩⟩,[90000,90001],by decide,by decide,X,X⟩
 ·try simp only[hσ,h26,h26n,h27,C,E,F,G,H,J]
  refine RF h ?_ (by kernel_rfl);try simp only[h26,h26n,h27,C,E,F,G,H,J,pL,aM,zA]
theorem dg{rec_:Xh→Q (V × Xh)}(h_rec:∀(a0:Xh) zr,rec_ a0=N zr→FCz Z 275 [.p] (CH a0) (CI a0) (CH zr.2) (CI zr.2) [.sc (.v (.bool zr.1))]){a0 v2 v3 v4 v6}{EO}(RF:SK a0 EO):fZ a0 v2 v3 v4 v6 (KD rec_ a0 v2 v3 v4 v6 EO):=by
 intro v11 r h σ hσ S hS;refine ev hS ?_;refine Ax ?_;unfold KD at h;try simp only[hσ,C,E,F,G,H,J]
 refine Ay ?_;obtain⟨x12,h12,h⟩:=ob h;have h12n:=Au h12;obtain⟨x13,h13,h⟩:=ob h;obtain⟨h14,h⟩|⟨h14,h⟩:=ic h
 ·try simp only[h12,h12n,h13,h14,C,E,F,G,H,J]
  refine Ay ?_;obtain⟨h15,h⟩:=Hq h;try simp only[h12,h12n,h13,h14,h15,C,E,F,G,H,J]
  refine AS (row:=rU) (y:=(Bd .or .u64 x12 (Bh .u64 (1:U) (a0.who.length:U)))) X X h12n X X (by rfl) ?_;try simp only[h12,h12n,h13,h14,h15,C,E,F,G,H,J]
  refine Ay ?_;try simp only[h12,h12n,h13,h14,h15,C,E,F,G,H,J]
  refine Bf (es:=Y rI ([v2]:P U)) ?_;obtain⟨h16,h⟩:=B3 h;obtain⟨r17,h17,h⟩:=ob h;try simp only[h12,h12n,h13,h14,h15,h16,C,E,F,G,H,J]
  refine H7 (h_rec _ _ h17) 99999999999 [90000,90001] rfl X X X (by decide) X X X ?_;obtain⟨h18,h⟩|⟨h18,h⟩:=ic h
  ·try simp only[h12,h12n,h13,h14,h15,h16,h18,C,E,F,G,H,J]
   cases h;exact⟨⟨X,⟨⟩⟩,[90000,90001],by decide,by decide,X,X⟩
  ·obtain⟨p19,h19,h⟩:=ob h;try simp only[h12,h12n,h13,h14,h15,h16,h18,C,E,F,G,H,J]
   refine H8 X X h19 (by rfl) ?_;try simp only[h12,h12n,h13,h14,h15,h16,h18,C,E,F,G,H,J]
   refine Ay ?_;obtain⟨x20,h20,h⟩:=ob h;have h20n:=Au h20;obtain⟨h21,h⟩:=Hq h;try simp only[h12,h12n,h13,h14,h15,h16,h18,h20,h20n,h21,C,E,F,G,H,J]
   refine AS (row:=rU) (y:=(Bd .andNot .u64 x20 (Bh .u64 (1:U) (a0.who.length:U)))) X X h20n X X (by rfl) ?_;try simp only[h12,h12n,h13,h14,h15,h16,h18,h20,h20n,h21,C,E,F,G,H,J]
   refine Ay ?_;try simp only[h12,h12n,h13,h14,h15,h16,h18,h20,h20n,h21,C,E,F,G,H,J]
   refine de h_rec RF h ?_ (by kernel_rfl);try simp only[h12,h12n,h13,h14,h15,h16,h18,h20,h20n,h21,C,E,F,G,H,J,pL,aM,zA]
 ·try simp only[h12,h12n,h13,h14,C,E,F,G,H,J]
  refine de h_rec RF h ?_ (by kernel_rfl);try simp only[h12,h12n,h13,h14,C,E,F,G,H,J,pL,aM,zA]
theorem B0w{rec_:Xh→Q (V × Xh)}(h_rec:∀(a0:Xh) zr,rec_ a0=N zr→FCz Z 275 [.p] (CH a0) (CI a0) (CH zr.2) (CI zr.2) [.sc (.v (.bool zr.1))]){a0}{n:W}:SK a0 (Fp rec_ a0 n):=by
 induction n with
 | zero=>intro _ _ _ _ _ r h; cases h
 | succ n ih=>
  intro v2 v3 v4 v5 v6 r h σ hσ S hS;refine ev hS ?_;rw[Fp] at h;refine AE (Ax ?_);obtain⟨h7,h⟩|⟨h7,h⟩:=ic h
  ·obtain⟨h8,h⟩|⟨h8,h⟩:=ic h
   ·obtain⟨h9,h⟩|⟨h9,h⟩:=ic h
    ·try simp only[hσ,h7,h8,h9,C,E,F,G,H,J]
     refine Bf (es:=Y rU ([(0:U)]:P U)) ?_;obtain⟨h10,h⟩:=B3 h;try simp only[h7,h8,h9,h10,C,E,F,G,H,J]
     refine dg h_rec ih h ?_ (by kernel_rfl);try simp only[h7,h8,h9,h10,C,E,F,G,H,J,pL,aM,zA]
    ·try simp only[hσ,h7,h8,h9,C,E,F,G,H,J]
     refine dg h_rec ih h ?_ (by kernel_rfl);try simp only[h7,h8,h9,C,E,F,G,H,J,pL,aM,zA]
   ·try simp only[hσ,h7,h8,C,E,F,G,H,J]
    cases h;exact⟨⟨X,⟨⟩⟩,[90000,90001],by decide,by decide,X,X⟩
  ·try simp only[hσ,h7,C,E,F,G,H,J]
   cases h;exact⟨⟨X,⟨⟩⟩,[90000,90001],by decide,by decide,X,X⟩
theorem ot:B1 Z 275=N ((C3 Z 275 OQ).strip,[2],126):=by kernel_rfl
theorem A4c(rec_:Xh→Q (V × Xh))(a0:Xh)(r:V × Xh)(h_rec:∀(a0:Xh) zr,rec_ a0=N zr→FCz Z 275 [.p] (CH a0) (CI a0) (CH zr.2) (CI zr.2) [.sc (.v (.bool zr.1))])(h:MZ rec_ a0=N r):FCz Z 275 [.p] (CH a0) (CI a0) (CH r.2) (CI r.2) [.sc (.v (.bool r.1))]:=by
 unfold MZ at h;refine PZ (σ:=⟨[(0,vc (.pb 99999999999 0))],[(99999999999,[aL (Y rU a0.sets),aI a0.most,.own 90000,.own 90001])],[(90000,1,Y rU a0.groups),(90001,1,Y rI a0.who)]⟩) A4 ot X X X X ?_;refine Cb OQ ?_;intro S hS;refine ev hS ?_;obtain⟨h1,h⟩|⟨h1,h⟩:=ic h
 ·try simp only[h1,C,E,F,G,H,J]
  cases h;exact⟨⟨X,⟨⟩⟩,[90000,90001],by decide,by decide,X,X⟩
 ·try simp only[h1,C,E,F,G,H,J]
  refine B0w h_rec h ?_ (by kernel_rfl);try simp only[h1,C,E,F,G,H,J,pL,aM,zA]
theorem A4d:∀(n:W) (a0:Xh) (r:V × Xh),E7 n a0=N r→FCz Z 275 [.p] (CH a0) (CI a0) (CH r.2) (CI r.2) [.sc (.v (.bool r.1))]:=by
 intro n
 induction n with
 | zero=>intro _ r h; cases h
 | succ n ih=>intro a0 r h; rw[E7] at h; exact A4c (E7 n) a0 r ih h
theorem A4b{a0}{r}(h:Tq a0=N r):FCz Z 275 [.p] (CH a0) (CI a0) (CH r.2) (CI r.2) [.sc (.v (.bool r.1))]:=A4d bigN a0 r h
def su:Hw:=([],[(13,5,(O,.ownb 24 2 152704 1)),(13,6,(O,.ownb 24 3 152768 1)),(15,1,(O,.frz 1216))])
instance B4s:Ct 260 (∀{a0} {a1} {a2} {r},MB a0 a1 a2=N r→FC Z 260 [.sc (.int .i64 a0),.sc (.sl (Y rI a1)),.sc (.sl (Y zD a2))] [.sc (.o 1 (Y rI r.1)),.sc (.v (.int .i64 r.2.1)),.sc (.v (.bool r.2.2))]):=by
 refine⟨fun{a0} {a1} {a2} {r} h=> ?_⟩;unfold MB at h;refine A5 A4 su [6,7,8] 35 ?_;intro S hS;refine ev hS ?_;simp only[C,E,F,G,H,J];obtain⟨r1,h1,h⟩:=ob h;try simp only[C,E,F,G,H,J]
 refine AA (Ae A4a h1) ?_;obtain⟨h2,h⟩|⟨h2,h⟩:=ic h
 ·obtain⟨r3,h3,h⟩:=ob h;try simp only[h2,C,E,F,G,H,J]
  refine AA (Ae A4l h3) ?_;obtain⟨r4,h4,h⟩:=ob h;try simp only[h2,C,E,F,G,H,J]
  refine BO (Ae A4h h4) X (BD X) X (uf X) ?_;try simp only[h2,C,E,F,G,H,J]
  refine Bg ?_;try simp only[h2,C,E,F,G,H,J]
  refine FT (cs':= [.own 1216,aI r4,.own 152704,.nil]) X X X X ?_;try simp only[h2,C,E,F,G,H,J]
  refine FT (cs':= [.own 1216,aI r4,.own 152704,.own 152768]) X X X X ?_;try simp only[h2,C,E,F,G,H,J]
  refine Cj ?_;obtain⟨r5,h5,h⟩:=ob h;try simp only[h2,C,E,F,G,H,J]
  refine H7 (A4b h5) 24 [152704,152768] rfl X X X (by decide) X X X ?_;try simp only[h2,C,E,F,G,H,J]
  refine Ay ?_;try simp only[h2,C,E,F,G,H,J]
  cases h;trivial
 ·try simp only[h2,C,E,F,G,H,J]
  cases h;trivial
instance B5j:Ct 237 (∀{a0} {a1} {a2} {a3} {r},Gu a0 a1 a2 a3=N r→FC Z 237 [.sc (.int .i64 a0),.sc (.sl (Y rI a1)),.sc (.sl (Y zD a2)),.sc (.int .i64 a3)] [.sc (.v (.bool r))]):=by
 refine⟨fun h=> ?_⟩;unfold Gu at h;refine A5 A4 h0 [8] 27 ?_;exact gc
def YO:Hw:=([(8,[2,5,6,13,14,15],[2],[704,768])],[])
def fc:=fun a1 (a0:X5) (k_:U→(P X3)→(P Xc)→Q V)=>∀{v1 v2 v3} {zr},k_ v1 v2 v3=N zr→Kh Z 214 YO 8 [2,5,6,13,14,15] [2] [704,768] ⟨[pB 2,pW 5 704,pW 6 768,pL 13 X0.row a1,pI 14 (a1.length:U),pI 15 v1],[(2,([aI a0.Forecast.Tide.Mean,aM I a0.Forecast.Tide.Parts,aM zB a0.Forecast.Surges,aM X7.row a0.Chart.Points,aM X2.row a0.Chart.Segments,aM X4.row a0.Fleet,aI a0.Regime.Gap,aB a0.Regime.NoMeet]++dm a0.Crew.row))],[(704,5,Y X3.row v2),(768,4,Y zD v3)]⟩ (A8 [4] [.sc (.v (.bool zr))])
theorem B0y{a1 a0}{n:W}:fc a1 a0 (Gv a1 a0 n):=by
 induction n with
 | zero=>intro _ _ _ r h; cases h
 | succ n ih=>
  intro v1 v2 v3 r h σ hσ;rw[Gv] at h;have s0:=fun(r10:Xc)=> @Al (Y zD ([r10]:P Xc))
  exact gc
instance A4e:Ct 214 (∀{a0} {a1} {r},DH a0 a1=N r→FC Z 214 [.ag (X5.row a0),.sc (.sl (Y X0.row a1))] [.sc (.v (.bool r))]):=by
 refine⟨fun h=> ?_⟩;unfold DH at h;refine A5 A4 YO [4] 79 ?_;have s0:= @Al (Y X3.row ([]:P X3));have s1:= @Al (Y zD ([]:P Xc));have k0:= @B0y;exact gc
def PT:P (P W × AItem):= [([],(O,.load 25 (S 3) T 12)),([],(O,.mv 26 (S 1))),([1],(O,.call 27 215 [(S 26)])),([],(O,.load 28 (S 5) T 4)),([3],(O,.bslice 29 4 [.int .i64 0,.int .i64 0,.int .i64 0,.sl []] 1 [(0,(S 28))])),([2,4,2],(O,.app 30 4 48 (S 27) (S 29))),([0,5,5],(O,.call 31 214 [(S 25),(S 30)])),([6,6,0,1,2,3,4,5,6],(O,.mv 6 (S 31)))]
def YP:Hw:=([(6,[1,3,5,9,10,11],[3,5],[])],[])
abbrev Cw(a1:P X0)(a0:X5)(a2:X0)(r9:V)(wo2_:AV)(c0_ c1_:V)(c2_ c3_:V)(c4_ c5_:V)(c6_ c7_:V)(bx_:P (W × P AC))(rs_:Rows):St:=⟨[(1,vc (aL (Y X0.row a1))),(3,vc (.pb 3 0)),(5,vc (.pb 5 0)),(25,bif c0_ then va ([aI a0.Forecast.Tide.Mean,aL (Y I a0.Forecast.Tide.Parts),aL (Y zB a0.Forecast.Surges),aL (Y X7.row a0.Chart.Points),aL (Y X2.row a0.Chart.Segments),aL (Y X4.row a0.Fleet),aI a0.Regime.Gap,aB a0.Regime.NoMeet]++dm a0.Crew.row) else .undef),(26,bif c1_ then vc (aL (Y X0.row a1)) else .undef),(27,bif c2_ then wo2_ else .undef),(28,bif c3_ then va (dm a2.row) else .undef),(29,bif c4_ then vc (.own 1856) else .undef),(30,bif c5_ then vc (.own 1728) else .undef),(31,bif c6_ then vc (aB r9) else .undef),(6,bif c7_ then vc (aB r9) else .undef)],bx_,rs_⟩
abbrev JT(a1:P X0)(a0:X5)(a2:X0)(r6:(P X0))(r9:V):St:=(Cw a1 a0 a2 r9 (vc (.undef)) T T T T T T T T [(3,([aI a0.Forecast.Tide.Mean,aL (Y I a0.Forecast.Tide.Parts),aL (Y zB a0.Forecast.Surges),aL (Y X7.row a0.Chart.Points),aL (Y X2.row a0.Chart.Segments),aL (Y X4.row a0.Fleet),aI a0.Regime.Gap,aB a0.Regime.NoMeet]++dm a0.Crew.row)),(5,(dm a2.row))] [(1728,4,Y X0.row (r6++([a2]:P X0))),(1856,4,Y X0.row ([a2]:P X0))])
theorem B0z(a1 a0 a2 r6 r9)(h6:EC a1=N r6)(h7:(A3 r6.length ([a2]:P X0).length 48)=T)(h9:DH a0 (r6++([a2]:P X0))=N r9):∀(f:W) (b0 b6 b7:V),Ad Z PT (JT a1 a0 a2 r6 r9) f [b0,T,T,T,T,T,b6,b7] (Cw a1 a0 a2 r9 (vc (.undef)) b0 T T T T T b6 b7 [(3,([aI a0.Forecast.Tide.Mean,aL (Y I a0.Forecast.Tide.Parts),aL (Y zB a0.Forecast.Surges),aL (Y X7.row a0.Chart.Points),aL (Y X2.row a0.Chart.Segments),aL (Y X4.row a0.Fleet),aI a0.Regime.Gap,aB a0.Regime.NoMeet]++dm a0.Crew.row)),(5,(dm a2.row))] [(1728,4,Y X0.row (r6++([a2]:P X0))),(1856,4,Y X0.row ([a2]:P X0))]):=by
 intro f
 induction f with
 | zero=>
  intro b0 b6 b7 h;obtain rfl:b0=T:=zE.1 h b0 (by simp);obtain rfl:b6=T:=zE.1 h b6 (by simp);obtain rfl:b7=T:=zE.1 h b7 (by simp);rfl
 | succ f ih=>
  intro b0 b6 b7;refine Ai ⟨?_,?_,?_,?_,?_,?_,?_,?_,⟨⟩⟩<;>try first | (intro h; cases h; done) | (intro h0 hw; obtain rfl:=hz h0 rfl; (try obtain rfl:=hq hw 0 rfl rfl); (try obtain rfl:=hq hw 6 rfl rfl); refine np ?_; simp only[Cw,A6,A7,A2,C,E,F,G,H,J]; exact ih _ _ _)
  ·intro h0 hw;obtain rfl:=hz h0 rfl;obtain rfl:=hq hw 0 rfl rfl;refine np ?_;try simp only[Cw,A6,A7,A2,C,E,F,G,H,J]
   refine BO (Ae A4e h9) X (BD X) (by simp only[St.fresh,zF,zG,Ak]; simp[AV.cells,V1.cells,AC.uses]) (uf X) ?_;try simp only[A2,C,E,F,G,H,J]
   exact ih T T b7
theorem dh(a1 a0 a2 r6 r9)(h6:EC a1=N r6)(h7:(A3 r6.length ([a2]:P X0).length 48)=T)(h9:DH a0 (r6++([a2]:P X0))=N r9):∀(f:W) (b0:V),Ad Z PT (JT a1 a0 a2 r6 r9) f [b0,T,T,T,T,L,L,L] (Cw a1 a0 a2 r9 (vc (.own 1728)) b0 T T T T L L L [(3,([aI a0.Forecast.Tide.Mean,aL (Y I a0.Forecast.Tide.Parts),aL (Y zB a0.Forecast.Surges),aL (Y X7.row a0.Chart.Points),aL (Y X2.row a0.Chart.Segments),aL (Y X4.row a0.Fleet),aI a0.Regime.Gap,aB a0.Regime.NoMeet]++dm a0.Crew.row)),(5,(dm a2.row))] [(1728,4,Y X0.row r6),(1856,4,Y X0.row ([a2]:P X0))]):=by
 intro f
 induction f with
 | zero=>intro b0 h; simp at h
 | succ f ih=>
  intro b0;refine Ai ⟨?_,?_,?_,?_,?_,?_,?_,?_,⟨⟩⟩<;>try first | (intro h; cases h; done) | (intro _ hw; simp at hw; done) | (intro h0 hw; obtain rfl:=hz h0 rfl; refine np ?_; simp only[Cw,A6,A7,A2,C,E,F,G,H,J]; exact ih _)
  ·intro h0 hw;refine np ?_;try simp only[h7,Cw,A6,A7,A2,C,E,F,G,H,J]
   exact B0z a1 a0 a2 r6 r9 h6 h7 h9 _ b0 L L
theorem B00(a1 a0 a2 r6 r9)(h6:EC a1=N r6)(h7:(A3 r6.length ([a2]:P X0).length 48)=T)(h9:DH a0 (r6++([a2]:P X0))=N r9):∀(f:W) (b0 b3:V),Ad Z PT (JT a1 a0 a2 r6 r9) f [b0,T,T,b3,L,L,L,L] (Cw a1 a0 a2 r9 (vc (.own 1728)) b0 T T b3 L L L L [(3,([aI a0.Forecast.Tide.Mean,aL (Y I a0.Forecast.Tide.Parts),aL (Y zB a0.Forecast.Surges),aL (Y X7.row a0.Chart.Points),aL (Y X2.row a0.Chart.Segments),aL (Y X4.row a0.Fleet),aI a0.Regime.Gap,aB a0.Regime.NoMeet]++dm a0.Crew.row)),(5,(dm a2.row))] [(1728,4,Y X0.row r6)]):=by
 intro f
 induction f with
 | zero=>intro b0 b3 h; simp at h
 | succ f ih=>
  intro b0 b3;refine Ai ⟨?_,?_,?_,?_,?_,?_,?_,?_,⟨⟩⟩<;>try first | (intro h; cases h; done) | (intro _ hw; simp at hw; done) | (intro h0 hw; obtain rfl:=hz h0 rfl; refine np ?_; simp only[Cw,A6,A7,A2,C,E,F,G,H,J]; exact ih _ _)
  ·intro h0 hw;obtain rfl:=hq hw 3 rfl rfl;refine np ?_;try simp only[Cw,A6,A7,A2,C,E,F,G,H,J]
   refine As (es:=Y X0.row ([a2]:P X0)) X (by simp only[St.fresh,zF,zG,Ak]; simp[AV.cells,V1.cells,AC.uses]) ?_;try simp only[A2,C,E,F,G,H,J]
   exact dh a1 a0 a2 r6 r9 h6 h7 h9 _ b0
theorem B01(a1 a0 a2 r6 r9)(h6:EC a1=N r6)(h7:(A3 r6.length ([a2]:P X0).length 48)=T)(h9:DH a0 (r6++([a2]:P X0))=N r9):∀(f:W) (b0 b1:V),Ad Z PT (JT a1 a0 a2 r6 r9) f [b0,b1,L,T,T,L,L,L] (Cw a1 a0 a2 r9 (vc (.own 1728)) b0 b1 L T T L L L [(3,([aI a0.Forecast.Tide.Mean,aL (Y I a0.Forecast.Tide.Parts),aL (Y zB a0.Forecast.Surges),aL (Y X7.row a0.Chart.Points),aL (Y X2.row a0.Chart.Segments),aL (Y X4.row a0.Fleet),aI a0.Regime.Gap,aB a0.Regime.NoMeet]++dm a0.Crew.row)),(5,(dm a2.row))] [(1856,4,Y X0.row ([a2]:P X0))]):=by
 intro f
 induction f with
 | zero=>intro b0 b1 h; simp at h
 | succ f ih=>
  intro b0 b1;refine Ai ⟨?_,?_,?_,?_,?_,?_,?_,?_,⟨⟩⟩<;>try first | (intro h; cases h; done) | (intro _ hw; simp at hw; done) | (intro h0 hw; obtain rfl:=hz h0 rfl; refine np ?_; simp only[Cw,A6,A7,A2,C,E,F,G,H,J]; exact ih _ _)
  ·intro h0 hw;obtain rfl:=hq hw 1 rfl rfl;refine⟨[],[(O,.keep [1,3,5,25,26,27,28,29,30,31,6] [3,5] [1728,1856])],X,X,?_⟩;try simp only[Cw,A6,A7,zI,zH,A2,C,E,F,G,H,J]
   refine Lx (Ae dC h6) X (by simp only[St.fresh,zF,zG,Ak]; simp[AV.cells,V1.cells,AC.uses]) (uf X) ?_;try simp only[A2,C,E,F,G,H,J]
   exact dh a1 a0 a2 r6 r9 h6 h7 h9 _ b0
theorem B02(a1 a0 a2 r6 r9)(h6:EC a1=N r6)(h7:(A3 r6.length ([a2]:P X0).length 48)=T)(h9:DH a0 (r6++([a2]:P X0))=N r9):∀(f:W) (b0 b1 b3:V),Ad Z PT (JT a1 a0 a2 r6 r9) f [b0,b1,L,b3,L,L,L,L] (Cw a1 a0 a2 r9 (vc (.own 1728)) b0 b1 L b3 L L L L [(3,([aI a0.Forecast.Tide.Mean,aL (Y I a0.Forecast.Tide.Parts),aL (Y zB a0.Forecast.Surges),aL (Y X7.row a0.Chart.Points),aL (Y X2.row a0.Chart.Segments),aL (Y X4.row a0.Fleet),aI a0.Regime.Gap,aB a0.Regime.NoMeet]++dm a0.Crew.row)),(5,(dm a2.row))] []):=by
 intro f
 induction f with
 | zero=>intro b0 b1 b3 h; simp at h
 | succ f ih=>
  intro b0 b1 b3;refine Ai ⟨?_,?_,?_,?_,?_,?_,?_,?_,⟨⟩⟩<;>try first | (intro _ hw; simp at hw; done) | (intro h0 hw; obtain rfl:=hz h0 rfl; refine np ?_; simp only[Cw,A6,A7,A2,C,E,F,G,H,J]; exact ih _ _ _)
  ·intro h0 hw;obtain rfl:=hq hw 1 rfl rfl;refine np ?_;try simp only[Cw,A6,A7,A2,C,E,F,G,H,J]
   refine Lx (Ae dC h6) X (by simp only[St.fresh,zF,zG,Ak]; simp[AV.cells,V1.cells,AC.uses]) (uf X) ?_;try simp only[A2,C,E,F,G,H,J]
   exact B00 a1 a0 a2 r6 r9 h6 h7 h9 _ b0 b3
  ·intro h0 hw;obtain rfl:=hq hw 3 rfl rfl;refine np ?_;try simp only[Cw,A6,A7,A2,C,E,F,G,H,J]
   refine As (es:=Y X0.row ([a2]:P X0)) X (by simp only[St.fresh,zF,zG,Ak]; simp[AV.cells,V1.cells,AC.uses]) ?_;try simp only[A2,C,E,F,G,H,J]
   exact B01 a1 a0 a2 r6 r9 h6 h7 h9 _ b0 b1
def fe:=fun a1 (a0:X5) (a2:X0) (k_:U→Q V)=>∀{v1} {zr},k_ v1=N zr→Kh Z 184 YP 6 [1,3,5,9,10,11] [3,5] [] ⟨[pL 1 X0.row a1,pB 3,pB 5,pL 9 X0.row a1,pI 10 (a1.length:U),pI 11 v1],[(3,([aI a0.Forecast.Tide.Mean,aM I a0.Forecast.Tide.Parts,aM zB a0.Forecast.Surges,aM X7.row a0.Chart.Points,aM X2.row a0.Chart.Segments,aM X4.row a0.Fleet,aI a0.Regime.Gap,aB a0.Regime.NoMeet]++dm a0.Crew.row)),(5,(dm a2.row))],[]⟩ (A8 [6] [.sc (.v (.bool zr))])
theorem B03{a1 a0 a2}{n:W}:fe a1 a0 a2 (Ii a1 a0 a2 n):=by
 induction n with
 | zero=>intro _ r h; cases h
 | succ n ih=>
  intro v1 r h σ hσ S hS;refine ev hS ?_;rw[Ii] at h;refine AE (Ax ?_);obtain⟨h2,h⟩|⟨h2,h⟩:=ic h
  ·obtain⟨x3,h3,h⟩:=ob h;try simp only[hσ,h2,h3,C,E,F,G,H,J]
   refine BM ?_;obtain⟨r4,h4,h⟩:=ob h;try simp only[h2,h3,C,E,F,G,H,J]
   refine AA (Ae A39 h4) ?_;obtain⟨h5,h⟩|⟨h5,h⟩:=ic h
   ·try simp only[h2,h3,h5,C,E,F,G,H,J]
    cases h;exact t0
   ·try simp only[h2,h3,h5,C,E,F,G,H,J]
    refine ih h ?_ (by kernel_rfl);try simp only[h2,h3,h5,C,E,F,G,H,J,pL,aM,zA]
  ·try simp only[hσ,h2,C,E,F,G,H,J]
   obtain⟨r6,h6,h⟩:=ob h;obtain⟨h7,h⟩:=B3 h;obtain⟨r9,h9,h⟩:=ob h;refine Ee (ks:= [1,3,5]) (bs:= [3,5]) (rs:= []) (τ:=(JT a1 a0 a2 r6 r9)) X (B02 a1 a0 a2 r6 r9 h6 h7 h9 _ L L L) ?_;simp only[JT,Cw,A6];try simp only[h2,h7,C,E,F,G,H,J]
   cases h;exact t0
instance A4f:Ct 184 (∀{a0} {a1} {a2} {r},N0 a0 a1 a2=N r→FC Z 184 [.ag (X5.row a0),.sc (.sl (Y X0.row a1)),.ag (X0.row a2)] [.sc (.v (.bool r))]):=by
 refine⟨fun h=> ?_⟩;unfold N0 at h;refine A5 A4 YP [6] 32 ?_;have k0:= @B03;exact gc
def PU:P (P W × AItem):= [([],(O,.mv 40 (S 0))),([],(O,.mv 41 (S 0))),([],(O,.mv 42 (S 0))),([],(O,.mv 43 (S 0))),([3],(O,.nilc 44 (S 43))),([4],(O,.faddr 45 (S 44) 15)),([5],(O,.load 46 (S 45) L 1)),([6],(O,.call 47 183 [(S 46)])),([],(O,.load 48 (S 2) T 2)),([0,0,3,4,5,6,7],(O,.nilc 49 (S 40))),([9,0,3,4,5,6,7],(O,.faddr 50 (S 49) 16)),([10,7,7,0,3,4,5,6,7],(O,.store (S 50) (S 47) 1)),([1,0,1,3,4,5,6,7,8,9,10,11],(O,.nilc 51 (S 41))),([12,0,1,3,4,5,6,7,8,9,10,11],(O,.faddr 52 (S 51) 17)),([13,8,11,0,1,3,4,5,6,7,8,9,10,11],(O,.store (S 52) (S 48) 2)),([2,0,1,2,3,4,5,6,7,8,9,10,11,12,13,14],(O,.nilc 53 (S 42))),([15,0,1,2,3,4,5,6,7,8,9,10,11,12,13,14],(O,.faddr 54 (S 53) 19)),([16,14,0,1,2,3,4,5,6,7,8,9,10,11,12,13,14],(O,.store (S 54) (KB T) 1))]
def Ge:P (P W × AItem):= [([],(O,.mv 79 (S 0))),([],(O,.mv 80 (S 0))),([],(O,.mv 81 (S 0))),([2],(O,.nilc 82 (S 81))),([3],(O,.faddr 83 (S 82) 14)),([4],(O,.load 84 (S 83) L 1)),([],(O,.load 85 (S 5) T 4)),([6],(O,.bslice 86 4 [.int .i64 0,.int .i64 0,.int .i64 0,.sl []] 1 [(0,(S 85))])),([5,7],(O,.app 87 4 48 (S 84) (S 86))),([],(O,.mv 88 (S 0))),([9],(O,.nilc 89 (S 88))),([10],(O,.faddr 90 (S 89) 15)),([11],(O,.load 91 (S 90) L 1)),([],(O,.mv 92 (S 4))),([13],(O,.bslice 93 1 [.int .i64 0] 1 [(0,(S 92))])),([12,14,8],(O,.app 94 1 8 (S 91) (S 93))),([0,0,2,3,4,5,6,7,8,12,15],(O,.nilc 95 (S 79))),([16,0,2,3,4,5,6,7,8,12,15],(O,.faddr 96 (S 95) 14)),([17,8,15,0,2,3,4,5,6,7,8,12,15],(O,.store (S 96) (S 87) 1)),([1,0,1,2,3,4,5,6,7,8,9,10,11,12,13,14,15,16,17,18],(O,.nilc 97 (S 80))),([19,0,1,2,3,4,5,6,7,8,9,10,11,12,13,14,15,16,17,18],(O,.faddr 98 (S 97) 15)),([20,15,18,0,1,2,3,4,5,6,7,8,9,10,11,12,13,14,15,16,17,18],(O,.store (S 98) (S 94) 1))]
def JX:P (P W × AItem):= [([],(O,.mv 101 (S 0))),([],(O,.mv 102 (S 0))),([],(O,.mv 103 (S 0))),([2],(O,.nilc 104 (S 103))),([3],(O,.faddr 105 (S 104) 14)),([4],(O,.load 106 (S 105) L 1)),([],(O,.mv 107 (S 3))),([5,6],(O,.slc 108 4 (S 106) O (N (S 107)) O)),([],(O,.mv 109 (S 0))),([8],(O,.nilc 110 (S 109))),([9],(O,.faddr 111 (S 110) 15)),([10],(O,.load 112 (S 111) L 1)),([],(O,.mv 113 (S 3))),([11,12],(O,.slc 114 1 (S 112) O (N (S 113)) O)),([0,0,2,3,4,5,6,7,11],(O,.nilc 115 (S 101))),([14,0,2,3,4,5,6,7,11],(O,.faddr 116 (S 115) 14)),([15,7,0,2,3,4,5,6,7,11],(O,.store (S 116) (S 108) 1)),([1,0,1,2,3,4,5,6,7,8,9,10,11,12,13,14,15,16],(O,.nilc 117 (S 102))),([17,0,1,2,3,4,5,6,7,8,9,10,11,12,13,14,15,16],(O,.faddr 118 (S 117) 15)),([18,13,16,0,1,2,3,4,5,6,7,8,9,10,11,12,13,14,15,16],(O,.store (S 118) (S 114) 1))]
def RD:Hw:=([(8,[0,2],[99999999999,2],[90000,90001,90002]),(21,[0,3,61,62,63],[99999999999],[90000,90001,90002])],[])
abbrev CU(r1:Xk)(c0_ c1_:V)(c2_ c3_:V)(c4_ c5_:V)(c6_ c7_:V)(c8_ c9_:V)(c10_ c12_:V)(c13_ c15_ c16_:V)(bx_:P (W × P AC))(rs_:Rows):St:=⟨[(0,vc (.pb 99999999999 0)),(2,vc (.pb 2 0)),(40,bif c0_ then vc (.pb 99999999999 0) else .undef),(41,bif c1_ then vc (.pb 99999999999 0) else .undef),(42,bif c2_ then vc (.pb 99999999999 0) else .undef),(43,bif c3_ then vc (.pb 99999999999 0) else .undef),(44,bif c4_ then vc (.pb 99999999999 0) else .undef),(45,bif c5_ then vc (.pb 99999999999 15) else .undef),(46,bif c6_ then vc (.own 90001) else .undef),(47,bif c7_ then vc (.own 3008) else .undef),(48,bif c8_ then va [aI r1.i0,aI r1.i1] else .undef),(49,bif c9_ then vc (.pb 99999999999 0) else .undef),(50,bif c10_ then vc (.pb 99999999999 16) else .undef),(51,bif c12_ then vc (.pb 99999999999 0) else .undef),(52,bif c13_ then vc (.pb 99999999999 17) else .undef),(53,bif c15_ then vc (.pb 99999999999 0) else .undef),(54,bif c16_ then vc (.pb 99999999999 19) else .undef)],bx_,rs_⟩
abbrev JU(F_w0:FuncId)(caps_w0:P D)(a0:Xg)(r1:Xk)(r7:(P U)):St:=(CU r1 T T T T T T T T T T T T T T T [(99999999999,([aI a0.h.Forecast.Tide.Mean,aL (Y I a0.h.Forecast.Tide.Parts),aL (Y zB a0.h.Forecast.Surges),aL (Y X7.row a0.h.Chart.Points),aL (Y X2.row a0.h.Chart.Segments),aL (Y X4.row a0.h.Fleet),aI a0.h.Regime.Gap,aB a0.h.Regime.NoMeet]++dm a0.h.Crew.row++ [aL (Y (rL X0.row) a0.choices),.dat (.clo F_w0 caps_w0),.own 90000,.own 90001,.own 3008,aI r1.i0,aI r1.i1,aB T])),(2,[aI r1.i0,aI r1.i1])] [(90000,4,Y X0.row a0.plan),(90001,1,Y rI a0.choice),(90002,1,Y rI a0.best),(3008,1,Y rI r7)])
theorem B04(F_w0:FuncId)(caps_w0:P D)(a0:Xg)(r1:Xk)(v5:V)(r7)(h7:BG a0.choice=N r7):∀(f:W) (b15:V),Ad Z PU (JU F_w0 caps_w0 a0 r1 r7) f [T,T,T,T,T,T,T,T,T,T,T,T,T,T,T,b15,T,T] (CU r1 T T T T T T T T T T T T T b15 T [(99999999999,([aI a0.h.Forecast.Tide.Mean,aL (Y I a0.h.Forecast.Tide.Parts),aL (Y zB a0.h.Forecast.Surges),aL (Y X7.row a0.h.Chart.Points),aL (Y X2.row a0.h.Chart.Segments),aL (Y X4.row a0.h.Fleet),aI a0.h.Regime.Gap,aB a0.h.Regime.NoMeet]++dm a0.h.Crew.row++ [aL (Y (rL X0.row) a0.choices),.dat (.clo F_w0 caps_w0),.own 90000,.own 90001,.own 3008,aI r1.i0,aI r1.i1,aB T])),(2,[aI r1.i0,aI r1.i1])] [(90000,4,Y X0.row a0.plan),(90001,1,Y rI a0.choice),(90002,1,Y rI a0.best),(3008,1,Y rI r7)]):=by
 intro f
 induction f with
 | zero=>
  intro b15 h;obtain rfl:b15=T:=zE.1 h b15 (by simp);rfl
 | succ f ih=>
  intro b15;refine Ai ⟨?_,?_,?_,?_,?_,?_,?_,?_,?_,?_,?_,?_,?_,?_,?_,?_,?_,?_,⟨⟩⟩<;>try first | (intro h; cases h; done) | (intro h0 hw; obtain rfl:=hz h0 rfl; refine np ?_; simp only[CU,A6,A7,A2,C,E,F,G,H,J]; exact ih _)
theorem B05(F_w0:FuncId)(caps_w0:P D)(a0:Xg)(r1:Xk)(v5:V)(r7)(h7:BG a0.choice=N r7):∀(f:W) (b2 b12:V) (b15 b16:V),Ad Z PU (JU F_w0 caps_w0 a0 r1 r7) f [T,T,b2,T,T,T,T,T,T,T,T,T,b12,T,T,b15,b16,L] (CU r1 T T b2 T T T T T T T T b12 T b15 b16 [(99999999999,([aI a0.h.Forecast.Tide.Mean,aL (Y I a0.h.Forecast.Tide.Parts),aL (Y zB a0.h.Forecast.Surges),aL (Y X7.row a0.h.Chart.Points),aL (Y X2.row a0.h.Chart.Segments),aL (Y X4.row a0.h.Fleet),aI a0.h.Regime.Gap,aB a0.h.Regime.NoMeet]++dm a0.h.Crew.row++ [aL (Y (rL X0.row) a0.choices),.dat (.clo F_w0 caps_w0),.own 90000,.own 90001,.own 3008,aI r1.i0,aI r1.i1,aB v5])),(2,[aI r1.i0,aI r1.i1])] [(90000,4,Y X0.row a0.plan),(90001,1,Y rI a0.choice),(90002,1,Y rI a0.best),(3008,1,Y rI r7)]):=by
 intro f
 induction f with
 | zero=>intro b2 b12 b15 b16 h; simp at h
 | succ f ih=>
  intro b2 b12 b15 b16;refine Ai ⟨?_,?_,?_,?_,?_,?_,?_,?_,?_,?_,?_,?_,?_,?_,?_,?_,?_,?_,⟨⟩⟩<;>try first | (intro h; cases h; done) | (intro h0 hw; obtain rfl:=hz h0 rfl; (try obtain rfl:=hq hw 2 rfl rfl); (try obtain rfl:=hq hw 12 rfl rfl); (try obtain rfl:=hq hw 15 rfl rfl); refine np ?_; simp only[CU,A6,A7,A2,C,E,F,G,H,J]; exact ih _ _ _ _)
  ·intro h0 hw;obtain rfl:=hq hw 2 rfl rfl;obtain rfl:=hq hw 12 rfl rfl;obtain rfl:=hq hw 16 rfl rfl;refine np ?_;try simp only[CU,A6,A7,A2,C,E,F,G,H,J]
   exact B04 F_w0 caps_w0 a0 r1 v5 r7 h7 _ b15
theorem B06(F_w0:FuncId)(caps_w0:P D)(a0:Xg)(r1:Xk)(v5:V)(r7)(h7:BG a0.choice=N r7):∀(f:W) (b1 b2:V) (b8 b9:V) (b12 b13:V),Ad Z PU (JU F_w0 caps_w0 a0 r1 r7) f [T,b1,b2,T,T,T,T,T,b8,b9,T,T,b12,b13,L,L,L,L] (CU r1 T b1 b2 T T T T T b8 b9 T b12 b13 L L [(99999999999,([aI a0.h.Forecast.Tide.Mean,aL (Y I a0.h.Forecast.Tide.Parts),aL (Y zB a0.h.Forecast.Surges),aL (Y X7.row a0.h.Chart.Points),aL (Y X2.row a0.h.Chart.Segments),aL (Y X4.row a0.h.Fleet),aI a0.h.Regime.Gap,aB a0.h.Regime.NoMeet]++dm a0.h.Crew.row++ [aL (Y (rL X0.row) a0.choices),.dat (.clo F_w0 caps_w0),.own 90000,.own 90001,.own 3008,aI a0.least.i0,aI a0.least.i1,aB v5])),(2,[aI r1.i0,aI r1.i1])] [(90000,4,Y X0.row a0.plan),(90001,1,Y rI a0.choice),(90002,1,Y rI a0.best),(3008,1,Y rI r7)]):=by
 intro f
 induction f with
 | zero=>intro b1 b2 b8 b9 b12 b13 h; simp at h
 | succ f ih=>
  intro b1 b2 b8 b9 b12 b13;refine Ai ⟨?_,?_,?_,?_,?_,?_,?_,?_,?_,?_,?_,?_,?_,?_,?_,?_,?_,?_,⟨⟩⟩<;>try first | (intro h; cases h; done) | (intro _ hw; simp at hw; done) | (intro h0 hw; obtain rfl:=hz h0 rfl; (try obtain rfl:=hq hw 1 rfl rfl); (try obtain rfl:=hq hw 8 rfl rfl); (try obtain rfl:=hq hw 9 rfl rfl); (try obtain rfl:=hq hw 12 rfl rfl); refine np ?_; simp only[CU,A6,A7,A2,C,E,F,G,H,J]; exact ih _ _ _ _ _ _)
  ·intro h0 hw;obtain rfl:=hq hw 1 rfl rfl;obtain rfl:=hq hw 8 rfl rfl;obtain rfl:=hq hw 9 rfl rfl;obtain rfl:=hq hw 13 rfl rfl;refine np ?_;try simp only[CU,A6,A7,A2,C,E,F,G,H,J]
   exact B05 F_w0 caps_w0 a0 r1 v5 r7 h7 _ b2 b12 L L
theorem B07(F_w0:FuncId)(caps_w0:P D)(a0:Xg)(r1:Xk)(v5:V)(r7)(h7:BG a0.choice=N r7):∀(f:W) (b0 b1:V) (b2 b3:V) (b4 b5:V) (b8 b9 b10:V),Ad Z PU (JU F_w0 caps_w0 a0 r1 r7) f [b0,b1,b2,b3,b4,b5,T,T,b8,b9,b10,L,L,L,L,L,L,L] (CU r1 b0 b1 b2 b3 b4 b5 T T b8 b9 b10 L L L L [(99999999999,([aI a0.h.Forecast.Tide.Mean,aL (Y I a0.h.Forecast.Tide.Parts),aL (Y zB a0.h.Forecast.Surges),aL (Y X7.row a0.h.Chart.Points),aL (Y X2.row a0.h.Chart.Segments),aL (Y X4.row a0.h.Fleet),aI a0.h.Regime.Gap,aB a0.h.Regime.NoMeet]++dm a0.h.Crew.row++ [aL (Y (rL X0.row) a0.choices),.dat (.clo F_w0 caps_w0),.own 90000,.own 90001,.own 90002,aI a0.least.i0,aI a0.least.i1,aB v5])),(2,[aI r1.i0,aI r1.i1])] [(90000,4,Y X0.row a0.plan),(90001,1,Y rI a0.choice),(90002,1,Y rI a0.best),(3008,1,Y rI r7)]):=by
 intro f
 induction f with
 | zero=>intro b0 b1 b2 b3 b4 b5 b8 b9 b10 h; simp at h
 | succ f ih=>
  intro b0 b1 b2 b3 b4 b5 b8 b9 b10;refine Ai ⟨?_,?_,?_,?_,?_,?_,?_,?_,?_,?_,?_,?_,?_,?_,?_,?_,?_,?_,⟨⟩⟩<;>try first | (intro h; cases h; done) | (intro _ hw; simp at hw; done) | (intro h0 hw; obtain rfl:=hz h0 rfl; (try obtain rfl:=hq hw 0 rfl rfl); (try obtain rfl:=hq hw 3 rfl rfl); (try obtain rfl:=hq hw 4 rfl rfl); (try obtain rfl:=hq hw 5 rfl rfl); (try obtain rfl:=hq hw 9 rfl rfl); refine np ?_; simp only[CU,A6,A7,A2,C,E,F,G,H,J]; exact ih _ _ _ _ _ _ _ _ _)
  ·intro h0 hw;obtain rfl:=hq hw 0 rfl rfl;obtain rfl:=hq hw 3 rfl rfl;obtain rfl:=hq hw 4 rfl rfl;obtain rfl:=hq hw 5 rfl rfl;obtain rfl:=hq hw 10 rfl rfl;refine np ?_;try simp only[CU,A6,A7,A2,C,E,F,G,H,J]
   exact B06 F_w0 caps_w0 a0 r1 v5 r7 h7 _ b1 b2 b8 b9 L L
theorem B08(F_w0:FuncId)(caps_w0:P D)(a0:Xg)(r1:Xk)(v5:V)(r7)(h7:BG a0.choice=N r7):∀(f:W) (b0 b1:V) (b2 b3:V) (b4 b5:V) (b6 b8:V),Ad Z PU (JU F_w0 caps_w0 a0 r1 r7) f [b0,b1,b2,b3,b4,b5,b6,L,b8,L,L,L,L,L,L,L,L,L] (CU r1 b0 b1 b2 b3 b4 b5 b6 L b8 L L L L L L [(99999999999,([aI a0.h.Forecast.Tide.Mean,aL (Y I a0.h.Forecast.Tide.Parts),aL (Y zB a0.h.Forecast.Surges),aL (Y X7.row a0.h.Chart.Points),aL (Y X2.row a0.h.Chart.Segments),aL (Y X4.row a0.h.Fleet),aI a0.h.Regime.Gap,aB a0.h.Regime.NoMeet]++dm a0.h.Crew.row++ [aL (Y (rL X0.row) a0.choices),.dat (.clo F_w0 caps_w0),.own 90000,.own 90001,.own 90002,aI a0.least.i0,aI a0.least.i1,aB v5])),(2,[aI r1.i0,aI r1.i1])] [(90000,4,Y X0.row a0.plan),(90001,1,Y rI a0.choice),(90002,1,Y rI a0.best)]):=by
 intro f
 induction f with
 | zero=>intro b0 b1 b2 b3 b4 b5 b6 b8 h; simp at h
 | succ f ih=>
  intro b0 b1 b2 b3 b4 b5 b6 b8;refine Ai ⟨?_,?_,?_,?_,?_,?_,?_,?_,?_,?_,?_,?_,?_,?_,?_,?_,?_,?_,⟨⟩⟩<;>try first | (intro _ hw; simp at hw; done) | (intro h0 hw; obtain rfl:=hz h0 rfl; (try obtain rfl:=hq hw 3 rfl rfl); (try obtain rfl:=hq hw 4 rfl rfl); (try obtain rfl:=hq hw 5 rfl rfl); refine np ?_; simp only[CU,A6,A7,A2,C,E,F,G,H,J]; exact ih _ _ _ _ _ _ _ _)
  ·intro h0 hw;obtain rfl:=hq hw 6 rfl rfl;refine np ?_;try simp only[CU,A6,A7,A2,C,E,F,G,H,J]
   refine BO (Ae Sz h7) X (D0 X ⟨D1,⟨⟩⟩) (by simp only[St.fresh,zF,zG,Ak]; simp[AV.cells,V1.cells,AC.uses]) (uf X) ?_;try simp only[A2,C,E,F,G,H,J]
   exact B07 F_w0 caps_w0 a0 r1 v5 r7 h7 _ b0 b1 b2 b3 b4 b5 b8 L L
abbrev Bi(a0:Xg)(x8:P X0)(v9:U)(x19:X0)(wo5_ wo12_:AV)(c0_ c1_:V)(c2_ c3_:V)(c4_ c5_:V)(c6_ c7_:V)(c8_ c9_:V)(c10_ c11_:V)(c12_ c13_:V)(c14_ c15_:V)(c16_ c17_:V)(c19_ c20_:V)(bx_:P (W × P AC))(rs_:Rows):St:=⟨[(0,vc (.pb 99999999999 0)),(3,vc (aI (a0.plan.length:U))),(4,vc (aI v9)),(5,vc (.pb 5 0)),(61,vc (aL (Y X0.row x8))),(62,vc (aI (x8.length:U))),(63,vc (aI v9)),(79,bif c0_ then vc (.pb 99999999999 0) else .undef),(80,bif c1_ then vc (.pb 99999999999 0) else .undef),(81,bif c2_ then vc (.pb 99999999999 0) else .undef),(82,bif c3_ then vc (.pb 99999999999 0) else .undef),(83,bif c4_ then vc (.pb 99999999999 14) else .undef),(84,bif c5_ then wo5_ else .undef),(85,bif c6_ then va (dm x19.row) else .undef),(86,bif c7_ then vc (.own 5504) else .undef),(87,bif c8_ then vc (.own 90000) else .undef),(88,bif c9_ then vc (.pb 99999999999 0) else .undef),(89,bif c10_ then vc (.pb 99999999999 0) else .undef),(90,bif c11_ then vc (.pb 99999999999 15) else .undef),(91,bif c12_ then wo12_ else .undef),(92,bif c13_ then vc (aI v9) else .undef),(93,bif c14_ then vc (.own 5952) else .undef),(94,bif c15_ then vc (.own 90001) else .undef),(95,bif c16_ then vc (.pb 99999999999 0) else .undef),(96,bif c17_ then vc (.pb 99999999999 14) else .undef),(97,bif c19_ then vc (.pb 99999999999 0) else .undef),(98,bif c20_ then vc (.pb 99999999999 15) else .undef)],bx_,rs_⟩
abbrev Er(F_w0:FuncId)(caps_w0:P D)(a0:Xg)(x8:P X0)(v9:U)(v10:X5)(v11:P (P X0))(v12 v13:U)(v14:V)(v15:P X0)(v16 v17:P U)(x19:X0):St:=(Bi a0 x8 v9 x19 (vc (.undef)) (vc (.undef)) T T T T T T T T T T T T T T T T T T T T [(99999999999,([aI v10.Forecast.Tide.Mean,aL (Y I v10.Forecast.Tide.Parts),aL (Y zB v10.Forecast.Surges),aL (Y X7.row v10.Chart.Points),aL (Y X2.row v10.Chart.Segments),aL (Y X4.row v10.Fleet),aI v10.Regime.Gap,aB v10.Regime.NoMeet]++dm v10.Crew.row++ [aL (Y (rL X0.row) v11),.dat (.clo F_w0 caps_w0),.own 90000,.own 90001,.own 90002,aI v12,aI v13,aB v14])),(5,(dm x19.row))] [(90000,4,Y X0.row (v15++([x19]:P X0))),(90001,1,Y rI (v16++([v9]:P U))),(90002,1,Y rI v17),(5504,4,Y X0.row ([x19]:P X0)),(5952,1,Y rI ([v9]:P U))])
theorem B09(F_w0:FuncId)(caps_w0:P D)(a0:Xg)(x8:P X0)(v9)(v10:X5)(v11)(v12)(v13)(v14)(v15:P X0)(v16:P U)(v17)(x19)(h22:(A3 v15.length ([x19]:P X0).length 48)=T)(h23:(A3 v16.length ([v9]:P U).length 8)=T):∀(f:W) (b19:V),Ad Z Ge (Er F_w0 caps_w0 a0 x8 v9 v10 v11 v12 v13 v14 v15 v16 v17 x19) f [T,T,T,T,T,T,T,T,T,T,T,T,T,T,T,T,T,T,T,b19,T,T] (Bi a0 x8 v9 x19 (vc (.undef)) (vc (.undef)) T T T T T T T T T T T T T T T T T T b19 T [(99999999999,([aI v10.Forecast.Tide.Mean,aL (Y I v10.Forecast.Tide.Parts),aL (Y zB v10.Forecast.Surges),aL (Y X7.row v10.Chart.Points),aL (Y X2.row v10.Chart.Segments),aL (Y X4.row v10.Fleet),aI v10.Regime.Gap,aB v10.Regime.NoMeet]++dm v10.Crew.row++ [aL (Y (rL X0.row) v11),.dat (.clo F_w0 caps_w0),.own 90000,.own 90001,.own 90002,aI v12,aI v13,aB v14])),(5,(dm x19.row))] [(90000,4,Y X0.row (v15++([x19]:P X0))),(90001,1,Y rI (v16++([v9]:P U))),(90002,1,Y rI v17),(5504,4,Y X0.row ([x19]:P X0)),(5952,1,Y rI ([v9]:P U))]):=by
 intro f
 induction f with
 | zero=>
  intro b19 h;obtain rfl:b19=T:=zE.1 h b19 (by simp);rfl
 | succ f ih=>
  intro b19;refine Ai ⟨?_,?_,?_,?_,?_,?_,?_,?_,?_,?_,?_,?_,?_,?_,?_,?_,?_,?_,?_,?_,?_,?_,⟨⟩⟩<;>try first | (intro h; cases h; done) | (intro h0 hw; obtain rfl:=hz h0 rfl; refine np ?_; simp only[Bi,A6,A7,A2,C,E,F,G,H,J]; exact ih _)
theorem B1a(F_w0:FuncId)(caps_w0:P D)(a0:Xg)(x8:P X0)(v9)(v10:X5)(v11)(v12)(v13)(v14)(v15:P X0)(v16:P U)(v17)(x19)(h22:(A3 v15.length ([x19]:P X0).length 48)=T)(h23:(A3 v16.length ([v9]:P U).length 8)=T):∀(f:W) (b1 b9:V) (b10 b11:V) (b16 b19 b20:V),Ad Z Ge (Er F_w0 caps_w0 a0 x8 v9 v10 v11 v12 v13 v14 v15 v16 v17 x19) f [T,b1,T,T,T,T,T,T,T,b9,b10,b11,T,T,T,T,b16,T,T,b19,b20,L] (Bi a0 x8 v9 x19 (vc (.undef)) (vc (.undef)) T b1 T T T T T T T b9 b10 b11 T T T T b16 T b19 b20 [(99999999999,([aI v10.Forecast.Tide.Mean,aL (Y I v10.Forecast.Tide.Parts),aL (Y zB v10.Forecast.Surges),aL (Y X7.row v10.Chart.Points),aL (Y X2.row v10.Chart.Segments),aL (Y X4.row v10.Fleet),aI v10.Regime.Gap,aB v10.Regime.NoMeet]++dm v10.Crew.row++ [aL (Y (rL X0.row) v11),.dat (.clo F_w0 caps_w0),.own 90000,.undef,.own 90002,aI v12,aI v13,aB v14])),(5,(dm x19.row))] [(90000,4,Y X0.row (v15++([x19]:P X0))),(90001,1,Y rI (v16++([v9]:P U))),(90002,1,Y rI v17),(5504,4,Y X0.row ([x19]:P X0)),(5952,1,Y rI ([v9]:P U))]):=by
 intro f
 induction f with
 | zero=>intro b1 b9 b10 b11 b16 b19 b20 h; simp at h
 | succ f ih=>
  intro b1 b9 b10 b11 b16 b19 b20;refine Ai ⟨?_,?_,?_,?_,?_,?_,?_,?_,?_,?_,?_,?_,?_,?_,?_,?_,?_,?_,?_,?_,?_,?_,⟨⟩⟩<;>try first | (intro h; cases h; done) | (intro h0 hw; obtain rfl:=hz h0 rfl; (try obtain rfl:=hq hw 1 rfl rfl); (try obtain rfl:=hq hw 9 rfl rfl); (try obtain rfl:=hq hw 10 rfl rfl); (try obtain rfl:=hq hw 11 rfl rfl); (try obtain rfl:=hq hw 16 rfl rfl); (try obtain rfl:=hq hw 19 rfl rfl); refine np ?_; simp only[Bi,A6,A7,A2,C,E,F,G,H,J]; exact ih _ _ _ _ _ _ _)
  ·intro h0 hw;obtain rfl:=hq hw 1 rfl rfl;obtain rfl:=hq hw 9 rfl rfl;obtain rfl:=hq hw 10 rfl rfl;obtain rfl:=hq hw 11 rfl rfl;obtain rfl:=hq hw 16 rfl rfl;obtain rfl:=hq hw 20 rfl rfl;refine np ?_;try simp only[Bi,A6,A7,A2,C,E,F,G,H,J]
   exact B09 F_w0 caps_w0 a0 x8 v9 v10 v11 v12 v13 v14 v15 v16 v17 x19 h22 h23 _ b19
theorem B1b(F_w0:FuncId)(caps_w0:P D)(a0:Xg)(x8:P X0)(v9)(v10:X5)(v11)(v12)(v13)(v14)(v15:P X0)(v16:P U)(v17)(x19)(h22:(A3 v15.length ([x19]:P X0).length 48)=T)(h23:(A3 v16.length ([v9]:P U).length 8)=T):∀(f:W) (b0 b1:V) (b2 b3:V) (b4 b9:V) (b10 b11:V) (b16 b17:V),Ad Z Ge (Er F_w0 caps_w0 a0 x8 v9 v10 v11 v12 v13 v14 v15 v16 v17 x19) f [b0,b1,b2,b3,b4,T,T,T,T,b9,b10,b11,T,T,T,T,b16,b17,L,L,L,L] (Bi a0 x8 v9 x19 (vc (.undef)) (vc (.undef)) b0 b1 b2 b3 b4 T T T T b9 b10 b11 T T T T b16 b17 L L [(99999999999,([aI v10.Forecast.Tide.Mean,aL (Y I v10.Forecast.Tide.Parts),aL (Y zB v10.Forecast.Surges),aL (Y X7.row v10.Chart.Points),aL (Y X2.row v10.Chart.Segments),aL (Y X4.row v10.Fleet),aI v10.Regime.Gap,aB v10.Regime.NoMeet]++dm v10.Crew.row++ [aL (Y (rL X0.row) v11),.dat (.clo F_w0 caps_w0),.undef,.undef,.own 90002,aI v12,aI v13,aB v14])),(5,(dm x19.row))] [(90000,4,Y X0.row (v15++([x19]:P X0))),(90001,1,Y rI (v16++([v9]:P U))),(90002,1,Y rI v17),(5504,4,Y X0.row ([x19]:P X0)),(5952,1,Y rI ([v9]:P U))]):=by
 intro f
 induction f with
 | zero=>intro b0 b1 b2 b3 b4 b9 b10 b11 b16 b17 h; simp at h
 | succ f ih=>
  intro b0 b1 b2 b3 b4 b9 b10 b11 b16 b17;refine Ai ⟨?_,?_,?_,?_,?_,?_,?_,?_,?_,?_,?_,?_,?_,?_,?_,?_,?_,?_,?_,?_,?_,?_,⟨⟩⟩<;>try first | (intro h; cases h; done) | (intro _ hw; simp at hw; done) | (intro h0 hw; obtain rfl:=hz h0 rfl; (try obtain rfl:=hq hw 0 rfl rfl); (try obtain rfl:=hq hw 2 rfl rfl); (try obtain rfl:=hq hw 3 rfl rfl); (try obtain rfl:=hq hw 4 rfl rfl); (try obtain rfl:=hq hw 9 rfl rfl); (try obtain rfl:=hq hw 10 rfl rfl); (try obtain rfl:=hq hw 16 rfl rfl); refine np ?_; simp only[Bi,A6,A7,A2,C,E,F,G,H,J]; exact ih _ _ _ _ _ _ _ _ _ _)
  ·intro h0 hw;obtain rfl:=hq hw 0 rfl rfl;obtain rfl:=hq hw 2 rfl rfl;obtain rfl:=hq hw 3 rfl rfl;obtain rfl:=hq hw 4 rfl rfl;obtain rfl:=hq hw 17 rfl rfl;refine np ?_;try simp only[Bi,A6,A7,A2,C,E,F,G,H,J]
   exact B1a F_w0 caps_w0 a0 x8 v9 v10 v11 v12 v13 v14 v15 v16 v17 x19 h22 h23 _ b1 b9 b10 b11 b16 L L
theorem di(F_w0:FuncId)(caps_w0:P D)(a0:Xg)(x8:P X0)(v9)(v10:X5)(v11)(v12)(v13)(v14)(v15:P X0)(v16:P U)(v17)(x19)(h22:(A3 v15.length ([x19]:P X0).length 48)=T)(h23:(A3 v16.length ([v9]:P U).length 8)=T):∀(f:W) (b0 b1:V) (b2 b3:V) (b4 b9:V) (b10 b11 b12:V),Ad Z Ge (Er F_w0 caps_w0 a0 x8 v9 v10 v11 v12 v13 v14 v15 v16 v17 x19) f [b0,b1,b2,b3,b4,T,T,T,T,b9,b10,b11,b12,T,T,L,L,L,L,L,L,L] (Bi a0 x8 v9 x19 (vc (.undef)) (vc (.own 90001)) b0 b1 b2 b3 b4 T T T T b9 b10 b11 b12 T T L L L L L [(99999999999,([aI v10.Forecast.Tide.Mean,aL (Y I v10.Forecast.Tide.Parts),aL (Y zB v10.Forecast.Surges),aL (Y X7.row v10.Chart.Points),aL (Y X2.row v10.Chart.Segments),aL (Y X4.row v10.Fleet),aI v10.Regime.Gap,aB v10.Regime.NoMeet]++dm v10.Crew.row++ [aL (Y (rL X0.row) v11),.dat (.clo F_w0 caps_w0),.undef,.own 90001,.own 90002,aI v12,aI v13,aB v14])),(5,(dm x19.row))] [(90000,4,Y X0.row (v15++([x19]:P X0))),(90001,1,Y rI v16),(90002,1,Y rI v17),(5504,4,Y X0.row ([x19]:P X0)),(5952,1,Y rI ([v9]:P U))]):=by
 intro f
 induction f with
 | zero=>intro b0 b1 b2 b3 b4 b9 b10 b11 b12 h; simp at h
 | succ f ih=>
  intro b0 b1 b2 b3 b4 b9 b10 b11 b12;refine Ai ⟨?_,?_,?_,?_,?_,?_,?_,?_,?_,?_,?_,?_,?_,?_,?_,?_,?_,?_,?_,?_,?_,?_,⟨⟩⟩<;>try first | (intro h; cases h; done) | (intro _ hw; simp at hw; done) | (intro h0 hw; obtain rfl:=hz h0 rfl; (try obtain rfl:=hq hw 2 rfl rfl); (try obtain rfl:=hq hw 3 rfl rfl); (try obtain rfl:=hq hw 9 rfl rfl); (try obtain rfl:=hq hw 10 rfl rfl); (try obtain rfl:=hq hw 11 rfl rfl); refine np ?_; simp only[Bi,A6,A7,A2,C,E,F,G,H,J]; exact ih _ _ _ _ _ _ _ _ _)
  ·intro h0 hw;obtain rfl:=hq hw 12 rfl rfl;refine np ?_;try simp only[h23,Bi,A6,A7,A2,C,E,F,G,H,J]
   exact B1b F_w0 caps_w0 a0 x8 v9 v10 v11 v12 v13 v14 v15 v16 v17 x19 h22 h23 _ b0 b1 b2 b3 b4 b9 b10 b11 L L
theorem B1c(F_w0:FuncId)(caps_w0:P D)(a0:Xg)(x8:P X0)(v9)(v10:X5)(v11)(v12)(v13)(v14)(v15:P X0)(v16:P U)(v17)(x19)(h22:(A3 v15.length ([x19]:P X0).length 48)=T)(h23:(A3 v16.length ([v9]:P U).length 8)=T):∀(f:W) (b0 b1:V) (b2 b3:V) (b4 b9:V) (b10 b11:V) (b12 b13:V),Ad Z Ge (Er F_w0 caps_w0 a0 x8 v9 v10 v11 v12 v13 v14 v15 v16 v17 x19) f [b0,b1,b2,b3,b4,T,T,T,T,b9,b10,b11,b12,b13,L,L,L,L,L,L,L,L] (Bi a0 x8 v9 x19 (vc (.undef)) (vc (.own 90001)) b0 b1 b2 b3 b4 T T T T b9 b10 b11 b12 b13 L L L L L L [(99999999999,([aI v10.Forecast.Tide.Mean,aL (Y I v10.Forecast.Tide.Parts),aL (Y zB v10.Forecast.Surges),aL (Y X7.row v10.Chart.Points),aL (Y X2.row v10.Chart.Segments),aL (Y X4.row v10.Fleet),aI v10.Regime.Gap,aB v10.Regime.NoMeet]++dm v10.Crew.row++ [aL (Y (rL X0.row) v11),.dat (.clo F_w0 caps_w0),.undef,.own 90001,.own 90002,aI v12,aI v13,aB v14])),(5,(dm x19.row))] [(90000,4,Y X0.row (v15++([x19]:P X0))),(90001,1,Y rI v16),(90002,1,Y rI v17),(5504,4,Y X0.row ([x19]:P X0))]):=by
 intro f
 induction f with
 | zero=>intro b0 b1 b2 b3 b4 b9 b10 b11 b12 b13 h; simp at h
 | succ f ih=>
  intro b0 b1 b2 b3 b4 b9 b10 b11 b12 b13;refine Ai ⟨?_,?_,?_,?_,?_,?_,?_,?_,?_,?_,?_,?_,?_,?_,?_,?_,?_,?_,?_,?_,?_,?_,⟨⟩⟩<;>try first | (intro h; cases h; done) | (intro _ hw; simp at hw; done) | (intro h0 hw; obtain rfl:=hz h0 rfl; (try obtain rfl:=hq hw 2 rfl rfl); (try obtain rfl:=hq hw 3 rfl rfl); (try obtain rfl:=hq hw 9 rfl rfl); (try obtain rfl:=hq hw 10 rfl rfl); (try obtain rfl:=hq hw 11 rfl rfl); refine np ?_; simp only[Bi,A6,A7,A2,C,E,F,G,H,J]; exact ih _ _ _ _ _ _ _ _ _ _)
  ·intro h0 hw;obtain rfl:=hq hw 13 rfl rfl;refine np ?_;try simp only[Bi,A6,A7,A2,C,E,F,G,H,J]
   refine As (es:=Y rI ([v9]:P U)) X (by simp only[St.fresh,zF,zG,Ak]; simp[AV.cells,V1.cells,AC.uses]) ?_;try simp only[A2,C,E,F,G,H,J]
   exact di F_w0 caps_w0 a0 x8 v9 v10 v11 v12 v13 v14 v15 v16 v17 x19 h22 h23 _ b0 b1 b2 b3 b4 b9 b10 b11 b12
theorem dj(F_w0:FuncId)(caps_w0:P D)(a0:Xg)(x8:P X0)(v9)(v10:X5)(v11)(v12)(v13)(v14)(v15:P X0)(v16:P U)(v17)(x19)(h22:(A3 v15.length ([x19]:P X0).length 48)=T)(h23:(A3 v16.length ([v9]:P U).length 8)=T):∀(f:W) (b0 b1:V) (b2 b3:V) (b4 b5:V) (b9 b10:V) (b11 b12:V),Ad Z Ge (Er F_w0 caps_w0 a0 x8 v9 v10 v11 v12 v13 v14 v15 v16 v17 x19) f [b0,b1,b2,b3,b4,b5,T,T,L,b9,b10,b11,b12,T,T,L,L,L,L,L,L,L] (Bi a0 x8 v9 x19 (vc (.own 90000)) (vc (.own 90001)) b0 b1 b2 b3 b4 b5 T T L b9 b10 b11 b12 T T L L L L L [(99999999999,([aI v10.Forecast.Tide.Mean,aL (Y I v10.Forecast.Tide.Parts),aL (Y zB v10.Forecast.Surges),aL (Y X7.row v10.Chart.Points),aL (Y X2.row v10.Chart.Segments),aL (Y X4.row v10.Fleet),aI v10.Regime.Gap,aB v10.Regime.NoMeet]++dm v10.Crew.row++ [aL (Y (rL X0.row) v11),.dat (.clo F_w0 caps_w0),.own 90000,.own 90001,.own 90002,aI v12,aI v13,aB v14])),(5,(dm x19.row))] [(90000,4,Y X0.row v15),(90001,1,Y rI v16),(90002,1,Y rI v17),(5504,4,Y X0.row ([x19]:P X0)),(5952,1,Y rI ([v9]:P U))]):=by
 intro f
 induction f with
 | zero=>intro b0 b1 b2 b3 b4 b5 b9 b10 b11 b12 h; simp at h
 | succ f ih=>
  intro b0 b1 b2 b3 b4 b5 b9 b10 b11 b12;refine Ai ⟨?_,?_,?_,?_,?_,?_,?_,?_,?_,?_,?_,?_,?_,?_,?_,?_,?_,?_,?_,?_,?_,?_,⟨⟩⟩<;>try first | (intro h; cases h; done) | (intro _ hw; simp at hw; done) | (intro h0 hw; obtain rfl:=hz h0 rfl; (try obtain rfl:=hq hw 2 rfl rfl); (try obtain rfl:=hq hw 3 rfl rfl); (try obtain rfl:=hq hw 4 rfl rfl); (try obtain rfl:=hq hw 9 rfl rfl); (try obtain rfl:=hq hw 10 rfl rfl); (try obtain rfl:=hq hw 11 rfl rfl); refine np ?_; simp only[Bi,A6,A7,A2,C,E,F,G,H,J]; exact ih _ _ _ _ _ _ _ _ _ _)
  ·intro h0 hw;obtain rfl:=hq hw 5 rfl rfl;refine np ?_;try simp only[h22,Bi,A6,A7,A2,C,E,F,G,H,J]
   exact di F_w0 caps_w0 a0 x8 v9 v10 v11 v12 v13 v14 v15 v16 v17 x19 h22 h23 _ b0 b1 b2 b3 b4 b9 b10 b11 b12
theorem B1e(F_w0:FuncId)(caps_w0:P D)(a0:Xg)(x8:P X0)(v9)(v10:X5)(v11)(v12)(v13)(v14)(v15:P X0)(v16:P U)(v17)(x19)(h22:(A3 v15.length ([x19]:P X0).length 48)=T)(h23:(A3 v16.length ([v9]:P U).length 8)=T):∀(f:W) (b0 b1:V) (b2 b3:V) (b4 b5:V) (b9 b10:V) (b11 b12 b13:V),Ad Z Ge (Er F_w0 caps_w0 a0 x8 v9 v10 v11 v12 v13 v14 v15 v16 v17 x19) f [b0,b1,b2,b3,b4,b5,T,T,L,b9,b10,b11,b12,b13,L,L,L,L,L,L,L,L] (Bi a0 x8 v9 x19 (vc (.own 90000)) (vc (.own 90001)) b0 b1 b2 b3 b4 b5 T T L b9 b10 b11 b12 b13 L L L L L L [(99999999999,([aI v10.Forecast.Tide.Mean,aL (Y I v10.Forecast.Tide.Parts),aL (Y zB v10.Forecast.Surges),aL (Y X7.row v10.Chart.Points),aL (Y X2.row v10.Chart.Segments),aL (Y X4.row v10.Fleet),aI v10.Regime.Gap,aB v10.Regime.NoMeet]++dm v10.Crew.row++ [aL (Y (rL X0.row) v11),.dat (.clo F_w0 caps_w0),.own 90000,.own 90001,.own 90002,aI v12,aI v13,aB v14])),(5,(dm x19.row))] [(90000,4,Y X0.row v15),(90001,1,Y rI v16),(90002,1,Y rI v17),(5504,4,Y X0.row ([x19]:P X0))]):=by
 intro f
 induction f with
 | zero=>intro b0 b1 b2 b3 b4 b5 b9 b10 b11 b12 b13 h; simp at h
 | succ f ih=>
  intro b0 b1 b2 b3 b4 b5 b9 b10 b11 b12 b13;refine Ai ⟨?_,?_,?_,?_,?_,?_,?_,?_,?_,?_,?_,?_,?_,?_,?_,?_,?_,?_,?_,?_,?_,?_,⟨⟩⟩<;>try first | (intro h; cases h; done) | (intro _ hw; simp at hw; done) | (intro h0 hw; obtain rfl:=hz h0 rfl; (try obtain rfl:=hq hw 2 rfl rfl); (try obtain rfl:=hq hw 3 rfl rfl); (try obtain rfl:=hq hw 4 rfl rfl); (try obtain rfl:=hq hw 9 rfl rfl); (try obtain rfl:=hq hw 10 rfl rfl); (try obtain rfl:=hq hw 11 rfl rfl); refine np ?_; simp only[Bi,A6,A7,A2,C,E,F,G,H,J]; exact ih _ _ _ _ _ _ _ _ _ _ _)
  ·intro h0 hw;obtain rfl:=hq hw 5 rfl rfl;refine np ?_;try simp only[h22,Bi,A6,A7,A2,C,E,F,G,H,J]
   exact B1c F_w0 caps_w0 a0 x8 v9 v10 v11 v12 v13 v14 v15 v16 v17 x19 h22 h23 _ b0 b1 b2 b3 b4 b9 b10 b11 b12 b13
  ·intro h0 hw;obtain rfl:=hq hw 13 rfl rfl;refine np ?_;try simp only[Bi,A6,A7,A2,C,E,F,G,H,J]
   refine As (es:=Y rI ([v9]:P U)) X (by simp only[St.fresh,zF,zG,Ak]; simp[AV.cells,V1.cells,AC.uses]) ?_;try simp only[A2,C,E,F,G,H,J]
   exact dj F_w0 caps_w0 a0 x8 v9 v10 v11 v12 v13 v14 v15 v16 v17 x19 h22 h23 _ b0 b1 b2 b3 b4 b5 b9 b10 b11 b12
theorem B1f(F_w0:FuncId)(caps_w0:P D)(a0:Xg)(x8:P X0)(v9)(v10:X5)(v11)(v12)(v13)(v14)(v15:P X0)(v16:P U)(v17)(x19)(h22:(A3 v15.length ([x19]:P X0).length 48)=T)(h23:(A3 v16.length ([v9]:P U).length 8)=T):∀(f:W) (b0 b1:V) (b2 b3:V) (b4 b5:V) (b6 b9:V) (b10 b11 b12:V),Ad Z Ge (Er F_w0 caps_w0 a0 x8 v9 v10 v11 v12 v13 v14 v15 v16 v17 x19) f [b0,b1,b2,b3,b4,b5,b6,L,L,b9,b10,b11,b12,T,T,L,L,L,L,L,L,L] (Bi a0 x8 v9 x19 (vc (.own 90000)) (vc (.own 90001)) b0 b1 b2 b3 b4 b5 b6 L L b9 b10 b11 b12 T T L L L L L [(99999999999,([aI v10.Forecast.Tide.Mean,aL (Y I v10.Forecast.Tide.Parts),aL (Y zB v10.Forecast.Surges),aL (Y X7.row v10.Chart.Points),aL (Y X2.row v10.Chart.Segments),aL (Y X4.row v10.Fleet),aI v10.Regime.Gap,aB v10.Regime.NoMeet]++dm v10.Crew.row++ [aL (Y (rL X0.row) v11),.dat (.clo F_w0 caps_w0),.own 90000,.own 90001,.own 90002,aI v12,aI v13,aB v14])),(5,(dm x19.row))] [(90000,4,Y X0.row v15),(90001,1,Y rI v16),(90002,1,Y rI v17),(5952,1,Y rI ([v9]:P U))]):=by
 intro f
 induction f with
 | zero=>intro b0 b1 b2 b3 b4 b5 b6 b9 b10 b11 b12 h; simp at h
 | succ f ih=>
  intro b0 b1 b2 b3 b4 b5 b6 b9 b10 b11 b12;refine Ai ⟨?_,?_,?_,?_,?_,?_,?_,?_,?_,?_,?_,?_,?_,?_,?_,?_,?_,?_,?_,?_,?_,?_,⟨⟩⟩<;>try first | (intro h; cases h; done) | (intro _ hw; simp at hw; done) | (intro h0 hw; obtain rfl:=hz h0 rfl; (try obtain rfl:=hq hw 2 rfl rfl); (try obtain rfl:=hq hw 3 rfl rfl); (try obtain rfl:=hq hw 4 rfl rfl); (try obtain rfl:=hq hw 9 rfl rfl); (try obtain rfl:=hq hw 10 rfl rfl); (try obtain rfl:=hq hw 11 rfl rfl); refine np ?_; simp only[Bi,A6,A7,A2,C,E,F,G,H,J]; exact ih _ _ _ _ _ _ _ _ _ _ _)
  ·intro h0 hw;obtain rfl:=hq hw 6 rfl rfl;refine⟨[],[(O,.keep [0,3,4,5,61,62,63,79,80,81,82,83,84,85,86,87,88,89,90,91,92,93,94,95,96,97,98] [99999999999,5] [90000,90001,90002,5504,5952])],X,X,?_⟩;try simp only[Bi,A6,A7,zI,zH,A2,C,E,F,G,H,J]
   refine As (es:=Y X0.row ([x19]:P X0)) X (by simp only[St.fresh,zF,zG,Ak]; simp[AV.cells,V1.cells,AC.uses]) ?_;try simp only[A2,C,E,F,G,H,J]
   exact dj F_w0 caps_w0 a0 x8 v9 v10 v11 v12 v13 v14 v15 v16 v17 x19 h22 h23 _ b0 b1 b2 b3 b4 b5 b9 b10 b11 b12
theorem B1g(F_w0:FuncId)(caps_w0:P D)(a0:Xg)(x8:P X0)(v9)(v10:X5)(v11)(v12)(v13)(v14)(v15:P X0)(v16:P U)(v17)(x19)(h22:(A3 v15.length ([x19]:P X0).length 48)=T)(h23:(A3 v16.length ([v9]:P U).length 8)=T):∀(f:W) (b0 b1:V) (b2 b3:V) (b4 b5:V) (b6 b9:V) (b10 b11:V) (b12 b13:V),Ad Z Ge (Er F_w0 caps_w0 a0 x8 v9 v10 v11 v12 v13 v14 v15 v16 v17 x19) f [b0,b1,b2,b3,b4,b5,b6,L,L,b9,b10,b11,b12,b13,L,L,L,L,L,L,L,L] (Bi a0 x8 v9 x19 (vc (.own 90000)) (vc (.own 90001)) b0 b1 b2 b3 b4 b5 b6 L L b9 b10 b11 b12 b13 L L L L L L [(99999999999,([aI v10.Forecast.Tide.Mean,aL (Y I v10.Forecast.Tide.Parts),aL (Y zB v10.Forecast.Surges),aL (Y X7.row v10.Chart.Points),aL (Y X2.row v10.Chart.Segments),aL (Y X4.row v10.Fleet),aI v10.Regime.Gap,aB v10.Regime.NoMeet]++dm v10.Crew.row++ [aL (Y (rL X0.row) v11),.dat (.clo F_w0 caps_w0),.own 90000,.own 90001,.own 90002,aI v12,aI v13,aB v14])),(5,(dm x19.row))] [(90000,4,Y X0.row v15),(90001,1,Y rI v16),(90002,1,Y rI v17)]):=by
 intro f
 induction f with
 | zero=>intro b0 b1 b2 b3 b4 b5 b6 b9 b10 b11 b12 b13 h; simp at h
 | succ f ih=>
  intro b0 b1 b2 b3 b4 b5 b6 b9 b10 b11 b12 b13;refine Ai ⟨?_,?_,?_,?_,?_,?_,?_,?_,?_,?_,?_,?_,?_,?_,?_,?_,?_,?_,?_,?_,?_,?_,⟨⟩⟩<;>try first | (intro _ hw; simp at hw; done) | (intro h0 hw; obtain rfl:=hz h0 rfl; (try obtain rfl:=hq hw 2 rfl rfl); (try obtain rfl:=hq hw 3 rfl rfl); (try obtain rfl:=hq hw 4 rfl rfl); (try obtain rfl:=hq hw 9 rfl rfl); (try obtain rfl:=hq hw 10 rfl rfl); (try obtain rfl:=hq hw 11 rfl rfl); refine np ?_; simp only[Bi,A6,A7,A2,C,E,F,G,H,J]; exact ih _ _ _ _ _ _ _ _ _ _ _ _)
  ·intro h0 hw;obtain rfl:=hq hw 6 rfl rfl;refine np ?_;try simp only[Bi,A6,A7,A2,C,E,F,G,H,J]
   refine As (es:=Y X0.row ([x19]:P X0)) X (by simp only[St.fresh,zF,zG,Ak]; simp[AV.cells,V1.cells,AC.uses]) ?_;try simp only[A2,C,E,F,G,H,J]
   exact B1e F_w0 caps_w0 a0 x8 v9 v10 v11 v12 v13 v14 v15 v16 v17 x19 h22 h23 _ b0 b1 b2 b3 b4 b5 b9 b10 b11 b12 b13
  ·intro h0 hw;obtain rfl:=hq hw 13 rfl rfl;refine np ?_;try simp only[Bi,A6,A7,A2,C,E,F,G,H,J]
   refine As (es:=Y rI ([v9]:P U)) X (by simp only[St.fresh,zF,zG,Ak]; simp[AV.cells,V1.cells,AC.uses]) ?_;try simp only[A2,C,E,F,G,H,J]
   exact B1f F_w0 caps_w0 a0 x8 v9 v10 v11 v12 v13 v14 v15 v16 v17 x19 h22 h23 _ b0 b1 b2 b3 b4 b5 b6 b9 b10 b11 b12
abbrev BL(a0:Xg)(x8:P X0)(v9:U)(wo5_ wo11_:AV)(c0_ c1_:V)(c2_ c3_:V)(c4_ c5_:V)(c6_ c7_:V)(c8_ c9_:V)(c10_ c11_:V)(c12_ c13_:V)(c14_ c15_:V)(c17_ c18_:V)(bx_:P (W × P AC))(rs_:Rows):St:=⟨[(0,vc (.pb 99999999999 0)),(3,vc (aI (a0.plan.length:U))),(61,vc (aL (Y X0.row x8))),(62,vc (aI (x8.length:U))),(63,vc (aI v9)),(101,bif c0_ then vc (.pb 99999999999 0) else .undef),(102,bif c1_ then vc (.pb 99999999999 0) else .undef),(103,bif c2_ then vc (.pb 99999999999 0) else .undef),(104,bif c3_ then vc (.pb 99999999999 0) else .undef),(105,bif c4_ then vc (.pb 99999999999 14) else .undef),(106,bif c5_ then wo5_ else .undef),(107,bif c6_ then vc (aI (a0.plan.length:U)) else .undef),(108,bif c7_ then vc (.own 90000) else .undef),(109,bif c8_ then vc (.pb 99999999999 0) else .undef),(110,bif c9_ then vc (.pb 99999999999 0) else .undef),(111,bif c10_ then vc (.pb 99999999999 15) else .undef),(112,bif c11_ then wo11_ else .undef),(113,bif c12_ then vc (aI (a0.plan.length:U)) else .undef),(114,bif c13_ then vc (.own 90001) else .undef),(115,bif c14_ then vc (.pb 99999999999 0) else .undef),(116,bif c15_ then vc (.pb 99999999999 14) else .undef),(117,bif c17_ then vc (.pb 99999999999 0) else .undef),(118,bif c18_ then vc (.pb 99999999999 15) else .undef)],bx_,rs_⟩
abbrev Gc(F_w0:FuncId)(caps_w0:P D)(a0:Xg)(x8:P X0)(v9:U)(r24:Xg)(p25 p26:W × W):St:=(BL a0 x8 v9 (vc (.undef)) (vc (.undef)) T T T T T T T T T T T T T T T T T T [(99999999999,([aI r24.h.Forecast.Tide.Mean,aL (Y I r24.h.Forecast.Tide.Parts),aL (Y zB r24.h.Forecast.Surges),aL (Y X7.row r24.h.Chart.Points),aL (Y X2.row r24.h.Chart.Segments),aL (Y X4.row r24.h.Fleet),aI r24.h.Regime.Gap,aB r24.h.Regime.NoMeet]++dm r24.h.Crew.row++ [aL (Y (rL X0.row) r24.choices),.dat (.clo F_w0 caps_w0),.own 90000,.own 90001,.own 90002,aI r24.least.i0,aI r24.least.i1,aB r24.found]))] [(90000,4,Y X0.row (r24.plan.take p25.2)),(90001,1,Y rI (r24.choice.take p26.2)),(90002,1,Y rI r24.best)])
theorem B1h(F_w0:FuncId)(caps_w0:P D)(a0:Xg)(x8:P X0)(v9:U)(r24:Xg)(p25)(p26)(h25:bnd (r24.plan.length:U) (a0.plan.length:U) 0 r24.plan.length=N p25)(h26:bnd (r24.choice.length:U) (a0.plan.length:U) 0 r24.choice.length=N p26):∀(f:W) (b17:V),Ad Z JX (Gc F_w0 caps_w0 a0 x8 v9 r24 p25 p26) f [T,T,T,T,T,T,T,T,T,T,T,T,T,T,T,T,T,b17,T,T] (BL a0 x8 v9 (vc (.undef)) (vc (.undef)) T T T T T T T T T T T T T T T T b17 T [(99999999999,([aI r24.h.Forecast.Tide.Mean,aL (Y I r24.h.Forecast.Tide.Parts),aL (Y zB r24.h.Forecast.Surges),aL (Y X7.row r24.h.Chart.Points),aL (Y X2.row r24.h.Chart.Segments),aL (Y X4.row r24.h.Fleet),aI r24.h.Regime.Gap,aB r24.h.Regime.NoMeet]++dm r24.h.Crew.row++ [aL (Y (rL X0.row) r24.choices),.dat (.clo F_w0 caps_w0),.own 90000,.own 90001,.own 90002,aI r24.least.i0,aI r24.least.i1,aB r24.found]))] [(90000,4,Y X0.row (r24.plan.take p25.2)),(90001,1,Y rI (r24.choice.take p26.2)),(90002,1,Y rI r24.best)]):=by
 intro f
 induction f with
 | zero=>
  intro b17 h;obtain rfl:b17=T:=zE.1 h b17 (by simp);rfl
 | succ f ih=>
  intro b17;refine Ai ⟨?_,?_,?_,?_,?_,?_,?_,?_,?_,?_,?_,?_,?_,?_,?_,?_,?_,?_,?_,?_,⟨⟩⟩<;>try first | (intro h; cases h; done) | (intro h0 hw; obtain rfl:=hz h0 rfl; refine np ?_; simp only[BL,A6,A7,A2,C,E,F,G,H,J]; exact ih _)
theorem dk(F_w0:FuncId)(caps_w0:P D)(a0:Xg)(x8:P X0)(v9:U)(r24:Xg)(p25)(p26)(h25:bnd (r24.plan.length:U) (a0.plan.length:U) 0 r24.plan.length=N p25)(h26:bnd (r24.choice.length:U) (a0.plan.length:U) 0 r24.choice.length=N p26):∀(f:W) (b1 b8:V) (b9 b10:V) (b14 b17 b18:V),Ad Z JX (Gc F_w0 caps_w0 a0 x8 v9 r24 p25 p26) f [T,b1,T,T,T,T,T,T,b8,b9,b10,T,T,T,b14,T,T,b17,b18,L] (BL a0 x8 v9 (vc (.undef)) (vc (.undef)) T b1 T T T T T T b8 b9 b10 T T T b14 T b17 b18 [(99999999999,([aI r24.h.Forecast.Tide.Mean,aL (Y I r24.h.Forecast.Tide.Parts),aL (Y zB r24.h.Forecast.Surges),aL (Y X7.row r24.h.Chart.Points),aL (Y X2.row r24.h.Chart.Segments),aL (Y X4.row r24.h.Fleet),aI r24.h.Regime.Gap,aB r24.h.Regime.NoMeet]++dm r24.h.Crew.row++ [aL (Y (rL X0.row) r24.choices),.dat (.clo F_w0 caps_w0),.own 90000,.undef,.own 90002,aI r24.least.i0,aI r24.least.i1,aB r24.found]))] [(90000,4,Y X0.row (r24.plan.take p25.2)),(90001,1,Y rI (r24.choice.take p26.2)),(90002,1,Y rI r24.best)]):=by
 intro f
 induction f with
 | zero=>intro b1 b8 b9 b10 b14 b17 b18 h; simp at h
 | succ f ih=>
  intro b1 b8 b9 b10 b14 b17 b18;refine Ai ⟨?_,?_,?_,?_,?_,?_,?_,?_,?_,?_,?_,?_,?_,?_,?_,?_,?_,?_,?_,?_,⟨⟩⟩<;>try first | (intro h; cases h; done) | (intro h0 hw; obtain rfl:=hz h0 rfl; (try obtain rfl:=hq hw 1 rfl rfl); (try obtain rfl:=hq hw 8 rfl rfl); (try obtain rfl:=hq hw 9 rfl rfl); (try obtain rfl:=hq hw 10 rfl rfl); (try obtain rfl:=hq hw 14 rfl rfl); (try obtain rfl:=hq hw 17 rfl rfl); refine np ?_; simp only[BL,A6,A7,A2,C,E,F,G,H,J]; exact ih _ _ _ _ _ _ _)
  ·intro h0 hw;obtain rfl:=hq hw 1 rfl rfl;obtain rfl:=hq hw 8 rfl rfl;obtain rfl:=hq hw 9 rfl rfl;obtain rfl:=hq hw 10 rfl rfl;obtain rfl:=hq hw 14 rfl rfl;obtain rfl:=hq hw 18 rfl rfl;refine np ?_;try simp only[BL,A6,A7,A2,C,E,F,G,H,J]
   exact B1h F_w0 caps_w0 a0 x8 v9 r24 p25 p26 h25 h26 _ b17
theorem dl(F_w0:FuncId)(caps_w0:P D)(a0:Xg)(x8:P X0)(v9:U)(r24:Xg)(p25)(p26)(h25:bnd (r24.plan.length:U) (a0.plan.length:U) 0 r24.plan.length=N p25)(h26:bnd (r24.choice.length:U) (a0.plan.length:U) 0 r24.choice.length=N p26):∀(f:W) (b0 b1:V) (b2 b3:V) (b4 b8:V) (b9 b10:V) (b14 b15:V),Ad Z JX (Gc F_w0 caps_w0 a0 x8 v9 r24 p25 p26) f [b0,b1,b2,b3,b4,T,T,T,b8,b9,b10,T,T,T,b14,b15,L,L,L,L] (BL a0 x8 v9 (vc (.undef)) (vc (.undef)) b0 b1 b2 b3 b4 T T T b8 b9 b10 T T T b14 b15 L L [(99999999999,([aI r24.h.Forecast.Tide.Mean,aL (Y I r24.h.Forecast.Tide.Parts),aL (Y zB r24.h.Forecast.Surges),aL (Y X7.row r24.h.Chart.Points),aL (Y X2.row r24.h.Chart.Segments),aL (Y X4.row r24.h.Fleet),aI r24.h.Regime.Gap,aB r24.h.Regime.NoMeet]++dm r24.h.Crew.row++ [aL (Y (rL X0.row) r24.choices),.dat (.clo F_w0 caps_w0),.undef,.undef,.own 90002,aI r24.least.i0,aI r24.least.i1,aB r24.found]))] [(90000,4,Y X0.row (r24.plan.take p25.2)),(90001,1,Y rI (r24.choice.take p26.2)),(90002,1,Y rI r24.best)]):=by
 intro f
 induction f with
 | zero=>intro b0 b1 b2 b3 b4 b8 b9 b10 b14 b15 h; simp at h
 | succ f ih=>
  intro b0 b1 b2 b3 b4 b8 b9 b10 b14 b15;refine Ai ⟨?_,?_,?_,?_,?_,?_,?_,?_,?_,?_,?_,?_,?_,?_,?_,?_,?_,?_,?_,?_,⟨⟩⟩<;>try first | (intro h; cases h; done) | (intro _ hw; simp at hw; done) | (intro h0 hw; obtain rfl:=hz h0 rfl; (try obtain rfl:=hq hw 0 rfl rfl); (try obtain rfl:=hq hw 2 rfl rfl); (try obtain rfl:=hq hw 3 rfl rfl); (try obtain rfl:=hq hw 4 rfl rfl); (try obtain rfl:=hq hw 8 rfl rfl); (try obtain rfl:=hq hw 9 rfl rfl); (try obtain rfl:=hq hw 14 rfl rfl); refine np ?_; simp only[BL,A6,A7,A2,C,E,F,G,H,J]; exact ih _ _ _ _ _ _ _ _ _ _)
  ·intro h0 hw;obtain rfl:=hq hw 0 rfl rfl;obtain rfl:=hq hw 2 rfl rfl;obtain rfl:=hq hw 3 rfl rfl;obtain rfl:=hq hw 4 rfl rfl;obtain rfl:=hq hw 15 rfl rfl;refine np ?_;try simp only[BL,A6,A7,A2,C,E,F,G,H,J]
   exact dk F_w0 caps_w0 a0 x8 v9 r24 p25 p26 h25 h26 _ b1 b8 b9 b10 b14 L L
theorem B1i(F_w0:FuncId)(caps_w0:P D)(a0:Xg)(x8:P X0)(v9:U)(r24:Xg)(p25)(p26)(h25:bnd (r24.plan.length:U) (a0.plan.length:U) 0 r24.plan.length=N p25)(h26:bnd (r24.choice.length:U) (a0.plan.length:U) 0 r24.choice.length=N p26):∀(f:W) (b1 b8:V) (b9 b10:V) (b12 b14:V),Ad Z JX (Gc F_w0 caps_w0 a0 x8 v9 r24 p25 p26) f [T,b1,T,T,T,T,T,T,b8,b9,b10,T,b12,L,b14,T,T,L,L,L] (BL a0 x8 v9 (vc (.undef)) (vc (.own 90001)) T b1 T T T T T T b8 b9 b10 T b12 L b14 T L L [(99999999999,([aI r24.h.Forecast.Tide.Mean,aL (Y I r24.h.Forecast.Tide.Parts),aL (Y zB r24.h.Forecast.Surges),aL (Y X7.row r24.h.Chart.Points),aL (Y X2.row r24.h.Chart.Segments),aL (Y X4.row r24.h.Fleet),aI r24.h.Regime.Gap,aB r24.h.Regime.NoMeet]++dm r24.h.Crew.row++ [aL (Y (rL X0.row) r24.choices),.dat (.clo F_w0 caps_w0),.own 90000,.own 90001,.own 90002,aI r24.least.i0,aI r24.least.i1,aB r24.found]))] [(90000,4,Y X0.row (r24.plan.take p25.2)),(90001,1,Y rI r24.choice),(90002,1,Y rI r24.best)]):=by
 intro f
 induction f with
 | zero=>intro b1 b8 b9 b10 b12 b14 h; simp at h
 | succ f ih=>
  intro b1 b8 b9 b10 b12 b14;refine Ai ⟨?_,?_,?_,?_,?_,?_,?_,?_,?_,?_,?_,?_,?_,?_,?_,?_,?_,?_,?_,?_,⟨⟩⟩<;>try first | (intro h; cases h; done) | (intro _ hw; simp at hw; done) | (intro h0 hw; obtain rfl:=hz h0 rfl; (try obtain rfl:=hq hw 8 rfl rfl); (try obtain rfl:=hq hw 9 rfl rfl); refine np ?_; simp only[BL,A6,A7,A2,C,E,F,G,H,J]; exact ih _ _ _ _ _ _)
  ·intro h0 hw;obtain rfl:=hq hw 12 rfl rfl;refine⟨[],[(O,.cut 114)],X,X,?_⟩;try simp only[BL,A6,A7,zI,zH,A2,C,E,F,G,H,J]
   refine H8 X X h26 (by rfl) ?_;try simp only[A2,C,E,F,G,H,J]
   exact dk F_w0 caps_w0 a0 x8 v9 r24 p25 p26 h25 h26 _ b1 b8 b9 b10 b14 L L
theorem B1j(F_w0:FuncId)(caps_w0:P D)(a0:Xg)(x8:P X0)(v9:U)(r24:Xg)(p25)(p26)(h25:bnd (r24.plan.length:U) (a0.plan.length:U) 0 r24.plan.length=N p25)(h26:bnd (r24.choice.length:U) (a0.plan.length:U) 0 r24.choice.length=N p26):∀(f:W) (b0 b1:V) (b2 b3:V) (b4 b8:V) (b9 b10:V) (b11 b12:V) (b14 b15:V),Ad Z JX (Gc F_w0 caps_w0 a0 x8 v9 r24 p25 p26) f [b0,b1,b2,b3,b4,T,T,T,b8,b9,b10,b11,b12,L,b14,b15,L,L,L,L] (BL a0 x8 v9 (vc (.undef)) (vc (.own 90001)) b0 b1 b2 b3 b4 T T T b8 b9 b10 b11 b12 L b14 b15 L L [(99999999999,([aI r24.h.Forecast.Tide.Mean,aL (Y I r24.h.Forecast.Tide.Parts),aL (Y zB r24.h.Forecast.Surges),aL (Y X7.row r24.h.Chart.Points),aL (Y X2.row r24.h.Chart.Segments),aL (Y X4.row r24.h.Fleet),aI r24.h.Regime.Gap,aB r24.h.Regime.NoMeet]++dm r24.h.Crew.row++ [aL (Y (rL X0.row) r24.choices),.dat (.clo F_w0 caps_w0),.undef,.own 90001,.own 90002,aI r24.least.i0,aI r24.least.i1,aB r24.found]))] [(90000,4,Y X0.row (r24.plan.take p25.2)),(90001,1,Y rI r24.choice),(90002,1,Y rI r24.best)]):=by
 intro f
 induction f with
 | zero=>intro b0 b1 b2 b3 b4 b8 b9 b10 b11 b12 b14 b15 h; simp at h
 | succ f ih=>
  intro b0 b1 b2 b3 b4 b8 b9 b10 b11 b12 b14 b15;refine Ai ⟨?_,?_,?_,?_,?_,?_,?_,?_,?_,?_,?_,?_,?_,?_,?_,?_,?_,?_,?_,?_,⟨⟩⟩<;>try first | (intro h; cases h; done) | (intro _ hw; simp at hw; done) | (intro h0 hw; obtain rfl:=hz h0 rfl; (try obtain rfl:=hq hw 0 rfl rfl); (try obtain rfl:=hq hw 2 rfl rfl); (try obtain rfl:=hq hw 3 rfl rfl); (try obtain rfl:=hq hw 4 rfl rfl); (try obtain rfl:=hq hw 8 rfl rfl); (try obtain rfl:=hq hw 9 rfl rfl); (try obtain rfl:=hq hw 10 rfl rfl); (try obtain rfl:=hq hw 11 rfl rfl); (try obtain rfl:=hq hw 14 rfl rfl); refine np ?_; simp only[BL,A6,A7,A2,C,E,F,G,H,J]; exact ih _ _ _ _ _ _ _ _ _ _ _ _)
  ·intro h0 hw;obtain rfl:=hq hw 11 rfl rfl;obtain rfl:=hq hw 12 rfl rfl;refine⟨[],[(O,.cut 114)],X,X,?_⟩;try simp only[BL,A6,A7,zI,zH,A2,C,E,F,G,H,J]
   refine H8 X X h26 (by rfl) ?_;try simp only[A2,C,E,F,G,H,J]
   exact dl F_w0 caps_w0 a0 x8 v9 r24 p25 p26 h25 h26 _ b0 b1 b2 b3 b4 b8 b9 b10 b14 b15
  ·intro h0 hw;obtain rfl:=hq hw 0 rfl rfl;obtain rfl:=hq hw 2 rfl rfl;obtain rfl:=hq hw 3 rfl rfl;obtain rfl:=hq hw 4 rfl rfl;obtain rfl:=hq hw 11 rfl rfl;obtain rfl:=hq hw 15 rfl rfl;refine np ?_;try simp only[BL,A6,A7,A2,C,E,F,G,H,J]
   exact B1i F_w0 caps_w0 a0 x8 v9 r24 p25 p26 h25 h26 _ b1 b8 b9 b10 b12 b14
theorem B1k(F_w0:FuncId)(caps_w0:P D)(a0:Xg)(x8:P X0)(v9:U)(r24:Xg)(p25)(p26)(h25:bnd (r24.plan.length:U) (a0.plan.length:U) 0 r24.plan.length=N p25)(h26:bnd (r24.choice.length:U) (a0.plan.length:U) 0 r24.choice.length=N p26):∀(f:W) (b0 b1:V) (b2 b3:V) (b4 b5:V) (b6 b8:V) (b9 b10:V),Ad Z JX (Gc F_w0 caps_w0 a0 x8 v9 r24 p25 p26) f [b0,b1,b2,b3,b4,b5,b6,L,b8,b9,b10,T,T,T,L,L,L,L,L,L] (BL a0 x8 v9 (vc (.own 90000)) (vc (.undef)) b0 b1 b2 b3 b4 b5 b6 L b8 b9 b10 T T T L L L L [(99999999999,([aI r24.h.Forecast.Tide.Mean,aL (Y I r24.h.Forecast.Tide.Parts),aL (Y zB r24.h.Forecast.Surges),aL (Y X7.row r24.h.Chart.Points),aL (Y X2.row r24.h.Chart.Segments),aL (Y X4.row r24.h.Fleet),aI r24.h.Regime.Gap,aB r24.h.Regime.NoMeet]++dm r24.h.Crew.row++ [aL (Y (rL X0.row) r24.choices),.dat (.clo F_w0 caps_w0),.own 90000,.undef,.own 90002,aI r24.least.i0,aI r24.least.i1,aB r24.found]))] [(90000,4,Y X0.row r24.plan),(90001,1,Y rI (r24.choice.take p26.2)),(90002,1,Y rI r24.best)]):=by
 intro f
 induction f with
 | zero=>intro b0 b1 b2 b3 b4 b5 b6 b8 b9 b10 h; simp at h
 | succ f ih=>
  intro b0 b1 b2 b3 b4 b5 b6 b8 b9 b10;refine Ai ⟨?_,?_,?_,?_,?_,?_,?_,?_,?_,?_,?_,?_,?_,?_,?_,?_,?_,?_,?_,?_,⟨⟩⟩<;>try first | (intro h; cases h; done) | (intro _ hw; simp at hw; done) | (intro h0 hw; obtain rfl:=hz h0 rfl; (try obtain rfl:=hq hw 2 rfl rfl); (try obtain rfl:=hq hw 3 rfl rfl); (try obtain rfl:=hq hw 4 rfl rfl); (try obtain rfl:=hq hw 8 rfl rfl); (try obtain rfl:=hq hw 9 rfl rfl); refine np ?_; simp only[BL,A6,A7,A2,C,E,F,G,H,J]; exact ih _ _ _ _ _ _ _ _ _ _)
  ·intro h0 hw;obtain rfl:=hq hw 5 rfl rfl;obtain rfl:=hq hw 6 rfl rfl;refine⟨[],[(O,.cut 108)],X,X,?_⟩;try simp only[BL,A6,A7,zI,zH,A2,C,E,F,G,H,J]
   refine H8 X X h25 (by rfl) ?_;try simp only[A2,C,E,F,G,H,J]
   exact dl F_w0 caps_w0 a0 x8 v9 r24 p25 p26 h25 h26 _ b0 b1 b2 b3 b4 b8 b9 b10 L L
theorem B1l(F_w0:FuncId)(caps_w0:P D)(a0:Xg)(x8:P X0)(v9:U)(r24:Xg)(p25)(p26)(h25:bnd (r24.plan.length:U) (a0.plan.length:U) 0 r24.plan.length=N p25)(h26:bnd (r24.choice.length:U) (a0.plan.length:U) 0 r24.choice.length=N p26):∀(f:W) (b0 b1:V) (b2 b3:V) (b4 b5:V) (b6 b8:V) (b9 b10:V) (b11 b12:V),Ad Z JX (Gc F_w0 caps_w0 a0 x8 v9 r24 p25 p26) f [b0,b1,b2,b3,b4,b5,b6,L,b8,b9,b10,b11,b12,L,L,L,L,L,L,L] (BL a0 x8 v9 (vc (.own 90000)) (vc (.own 90001)) b0 b1 b2 b3 b4 b5 b6 L b8 b9 b10 b11 b12 L L L L L [(99999999999,([aI r24.h.Forecast.Tide.Mean,aL (Y I r24.h.Forecast.Tide.Parts),aL (Y zB r24.h.Forecast.Surges),aL (Y X7.row r24.h.Chart.Points),aL (Y X2.row r24.h.Chart.Segments),aL (Y X4.row r24.h.Fleet),aI r24.h.Regime.Gap,aB r24.h.Regime.NoMeet]++dm r24.h.Crew.row++ [aL (Y (rL X0.row) r24.choices),.dat (.clo F_w0 caps_w0),.own 90000,.own 90001,.own 90002,aI r24.least.i0,aI r24.least.i1,aB r24.found]))] [(90000,4,Y X0.row r24.plan),(90001,1,Y rI r24.choice),(90002,1,Y rI r24.best)]):=by
 intro f
 induction f with
 | zero=>intro b0 b1 b2 b3 b4 b5 b6 b8 b9 b10 b11 b12 h; simp at h
 | succ f ih=>
  intro b0 b1 b2 b3 b4 b5 b6 b8 b9 b10 b11 b12;refine Ai ⟨?_,?_,?_,?_,?_,?_,?_,?_,?_,?_,?_,?_,?_,?_,?_,?_,?_,?_,?_,?_,⟨⟩⟩<;>try first | (intro _ hw; simp at hw; done) | (intro h0 hw; obtain rfl:=hz h0 rfl; (try obtain rfl:=hq hw 2 rfl rfl); (try obtain rfl:=hq hw 3 rfl rfl); (try obtain rfl:=hq hw 4 rfl rfl); (try obtain rfl:=hq hw 8 rfl rfl); (try obtain rfl:=hq hw 9 rfl rfl); (try obtain rfl:=hq hw 10 rfl rfl); refine np ?_; simp only[BL,A6,A7,A2,C,E,F,G,H,J]; exact ih _ _ _ _ _ _ _ _ _ _ _ _)
  ·intro h0 hw;obtain rfl:=hq hw 5 rfl rfl;obtain rfl:=hq hw 6 rfl rfl;refine⟨[],[(O,.cut 108)],X,X,?_⟩;try simp only[BL,A6,A7,zI,zH,A2,C,E,F,G,H,J]
   refine H8 X X h25 (by rfl) ?_;try simp only[A2,C,E,F,G,H,J]
   exact B1j F_w0 caps_w0 a0 x8 v9 r24 p25 p26 h25 h26 _ b0 b1 b2 b3 b4 b8 b9 b10 b11 b12 L L
  ·intro h0 hw;obtain rfl:=hq hw 11 rfl rfl;obtain rfl:=hq hw 12 rfl rfl;refine⟨[],[(O,.cut 114)],X,X,?_⟩;try simp only[BL,A6,A7,zI,zH,A2,C,E,F,G,H,J]
   refine H8 X X h26 (by rfl) ?_;try simp only[A2,C,E,F,G,H,J]
   exact B1k F_w0 caps_w0 a0 x8 v9 r24 p25 p26 h25 h26 _ b0 b1 b2 b3 b4 b5 b6 b8 b9 b10
def fp:=fun F_w0 caps_w0 (a0:Xg) x8 (k_:U→X5→(P (P X0))→U→U→V→(P X0)→(P U)→(P U)→Q Xg)=>∀{v9 v10 v11 v12 v13 v14 v15 v16 v17} {zr},k_ v9 v10 v11 v12 v13 v14 v15 v16 v17=N zr→Kh Z 148 RD 21 [0,3,61,62,63] [99999999999] [90000,90001,90002] ⟨[(0,vc (.pb 99999999999 0)),pI 3 (a0.plan.length:U),pL 61 X0.row x8,pI 62 (x8.length:U),pI 63 v9],[(99999999999,([aI v10.Forecast.Tide.Mean,aM I v10.Forecast.Tide.Parts,aM zB v10.Forecast.Surges,aM X7.row v10.Chart.Points,aM X2.row v10.Chart.Segments,aM X4.row v10.Fleet,aI v10.Regime.Gap,aB v10.Regime.NoMeet]++dm v10.Crew.row++ [aM (rL X0.row) v11,.dat (.clo F_w0 caps_w0),.own 90000,.own 90001,.own 90002,aI v12,aI v13,aB v14]))],[(90000,4,Y X0.row v15),(90001,1,Y rI v16),(90002,1,Y rI v17)]⟩ (Dj [] [] (Dg F_w0 caps_w0 zr) (Dh zr))
def fo:=fun F_w0 caps_w0 (a0:Xg) (r1:Xk) (k_:V→Q Xg)=>∀{v5} {zr},k_ v5=N zr→Kh Z 148 RD 8 [0,2] [99999999999,2] [90000,90001,90002] ⟨[(0,vc (.pb 99999999999 0)),pB 2],[(99999999999,([aI a0.h.Forecast.Tide.Mean,aM I a0.h.Forecast.Tide.Parts,aM zB a0.h.Forecast.Surges,aM X7.row a0.h.Chart.Points,aM X2.row a0.h.Chart.Segments,aM X4.row a0.h.Fleet,aI a0.h.Regime.Gap,aB a0.h.Regime.NoMeet]++dm a0.h.Crew.row++ [aM (rL X0.row) a0.choices,.dat (.clo F_w0 caps_w0),.own 90000,.own 90001,.own 90002,aI a0.least.i0,aI a0.least.i1,aB v5])),(2,[aI r1.i0,aI r1.i1])],[(90000,4,Y X0.row a0.plan),(90001,1,Y rI a0.choice),(90002,1,Y rI a0.best)]⟩ (Dj [] [] (Dg F_w0 caps_w0 zr) (Dh zr))
theorem B1m{w0:(P X0)→Q Xk}{rec_:Xg→Q Xg}{F_w0 caps_w0}(hF_w0:B4 Z F_w0=T)(h_w0:∀z0 zr,w0 z0=N zr→FC Z F_w0 ([.sc (.sl (Y X0.row z0))]++caps_w0.map .sc) [.ag [.v (.int .i64 zr.i0),.v (.int .i64 zr.i1)]])(h_rec:∀(a0:Xg) zr,rec_ a0=N zr→FCz Z 148 [.p] (Dg F_w0 caps_w0 a0) (Dh a0) (Dg F_w0 caps_w0 zr) (Dh zr) []){a0 x8}{n:W}:fp F_w0 caps_w0 a0 x8 (E9 w0 rec_ a0 x8 n):=by
 induction n with
 | zero=>intro _ _ _ _ _ _ _ _ _ r h; cases h
 | succ n ih=>
  intro v9 v10 v11 v12 v13 v14 v15 v16 v17 r h σ hσ S hS;refine ev hS ?_;rw[E9] at h;refine AE (Ax ?_);obtain⟨h18,h⟩|⟨h18,h⟩:=ic h
  ·obtain⟨x19,h19,h⟩:=ob h;try simp only[hσ,h18,h19,C,E,F,G,H,J]
   refine BM ?_;try simp only[h18,h19,C,E,F,G,H,J]
   refine Ay ?_;obtain⟨r20,h20,h⟩:=ob h;try simp only[h18,h19,C,E,F,G,H,J]
   refine Rl (Ae A4f h20) (by first | rfl | kernel_rfl) (BD X) X (uf X) ?_;obtain⟨h21,h⟩|⟨h21,h⟩:=ic h
   ·try simp only[h18,h19,h21,C,E,F,G,H,J]
    obtain⟨h22,h⟩:=B3 h;obtain⟨h23,h⟩:=B3 h;refine Ee (ks:= [0,3,4,5,61,62,63]) (bs:= [99999999999,5]) (rs:= [90000,90001,90002]) (τ:=(Er F_w0 caps_w0 a0 x8 v9 v10 v11 v12 v13 v14 v15 v16 v17 x19)) X (B1g F_w0 caps_w0 a0 x8 v9 v10 v11 v12 v13 v14 v15 v16 v17 x19 h22 h23 _ L L L L L L L L L L L L) ?_;simp only[Er,Bi,A6];try simp only[h18,h19,h21,h22,h23,C,E,F,G,H,J]
    refine Rk ?_;obtain⟨r24,h24,h⟩:=ob h;try simp only[h18,h19,h21,h22,h23,C,E,F,G,H,J]
    refine H7 (h_rec _ _ h24) 99999999999 [90000,90001,90002] rfl X X X (by decide) X X X ?_;try simp only[h18,h19,h21,h22,h23,C,E,F,G,H,J]
    obtain⟨p25,h25,h⟩:=ob h;obtain⟨p26,h26,h⟩:=ob h;refine Ee (ks:= [0,3,61,62,63]) (bs:= [99999999999]) (rs:= [90000,90001,90002]) (τ:=(Gc F_w0 caps_w0 a0 x8 v9 r24 p25 p26)) X (B1l F_w0 caps_w0 a0 x8 v9 r24 p25 p26 h25 h26 _ L L L L L L L L L L L L) ?_;simp only[Gc,BL,A6];try simp only[h18,h19,h21,h22,h23,C,E,F,G,H,J]
    refine ih h ?_ (by kernel_rfl);try simp only[h18,h19,h21,h22,h23,C,E,F,G,H,J,pL,aM,zA]
   ·try simp only[h18,h19,h21,C,E,F,G,H,J]
    refine ih h ?_ (by kernel_rfl);try simp only[h18,h19,h21,C,E,F,G,H,J,pL,aM,zA]
  ·try simp only[hσ,h18,C,E,F,G,H,J]
   cases h;exact⟨trivial,[90000,90001,90002],by decide,by decide,X,X⟩
theorem dn{w0:(P X0)→Q Xk}{rec_:Xg→Q Xg}{F_w0 caps_w0}(hF_w0:B4 Z F_w0=T)(h_w0:∀z0 zr,w0 z0=N zr→FC Z F_w0 ([.sc (.sl (Y X0.row z0))]++caps_w0.map .sc) [.ag [.v (.int .i64 zr.i0),.v (.int .i64 zr.i1)]])(h_rec:∀(a0:Xg) zr,rec_ a0=N zr→FCz Z 148 [.p] (Dg F_w0 caps_w0 a0) (Dh a0) (Dg F_w0 caps_w0 zr) (Dh zr) []){a0 r1}:fo F_w0 caps_w0 a0 r1 (In w0 rec_ a0 r1):=by
 intro v5 r h σ hσ S hS;refine ev hS ?_;refine Ax ?_;unfold In at h;obtain⟨h6,h⟩|⟨h6,h⟩:=ic h
 ·try simp only[hσ,h6,C,E,F,G,H,J]
  obtain⟨r7,h7,h⟩:=ob h;refine Ee (ks:= [0,2]) (bs:= [99999999999,2]) (rs:= [90000,90001,90002]) (τ:=(JU F_w0 caps_w0 a0 r1 r7)) X (B08 F_w0 caps_w0 a0 r1 v5 r7 h7 _ L L L L L L L L) ?_;simp only[JU,CU,A6];try simp only[h6,C,E,F,G,H,J]
  cases h;exact⟨trivial,[90000,90001,3008],by decide,by decide,X,X⟩
 ·obtain⟨x8,h8,h⟩:=ob h;try simp only[hσ,h6,h8,C,E,F,G,H,J]
  refine B1m hF_w0 h_w0 h_rec h ?_ (by kernel_rfl);try simp only[h6,h8,C,E,F,G,H,J,pL,aM,zA]
theorem ou:B1 Z 148=N ((C3 Z 148 RD).strip,[],120):=by kernel_rfl
theorem A4n(w0:(P X0)→Q Xk)(rec_:Xg→Q Xg)(a0 r:Xg)(F_w0:FuncId)(caps_w0:P D)(hF_w0:B4 Z F_w0=T)(h_w0:∀z0 zr,w0 z0=N zr→FC Z F_w0 ([.sc (.sl (Y X0.row z0))]++caps_w0.map .sc) [.ag [.v (.int .i64 zr.i0),.v (.int .i64 zr.i1)]])(h_rec:∀(a0:Xg) zr,rec_ a0=N zr→FCz Z 148 [.p] (Dg F_w0 caps_w0 a0) (Dh a0) (Dg F_w0 caps_w0 zr) (Dh zr) [])(h:N7 w0 rec_ a0=N r):FCz Z 148 [.p] (Dg F_w0 caps_w0 a0) (Dh a0) (Dg F_w0 caps_w0 r) (Dh r) []:=by
 unfold N7 at h;refine PZ (σ:=⟨[(0,vc (.pb 99999999999 0))],[(99999999999,[aI a0.h.Forecast.Tide.Mean,aL (Y I a0.h.Forecast.Tide.Parts),aL (Y zB a0.h.Forecast.Surges),aL (Y X7.row a0.h.Chart.Points),aL (Y X2.row a0.h.Chart.Segments),aL (Y X4.row a0.h.Fleet),aI a0.h.Regime.Gap,aB a0.h.Regime.NoMeet,aI a0.h.Crew.Tugs,aI a0.h.Crew.Pilots,aI a0.h.Crew.Rest,aL (Y rI a0.h.Crew.Moves),aL (Y (rL X0.row) a0.choices),.dat (.clo F_w0 caps_w0),.own 90000,.own 90001,.own 90002,aI a0.least.i0,aI a0.least.i1,aB a0.found])],[(90000,4,Y X0.row a0.plan),(90001,1,Y rI a0.choice),(90002,1,Y rI a0.best)]⟩) A4 ou X X X X ?_;refine Cb RD ?_;intro S hS;refine ev hS ?_;try simp only[C,E,F,G,H,J]
 refine Ay ?_;obtain⟨r1,h1,h⟩:=ob h;try simp only[C,E,F,G,H,J]
 refine rW (h_w0 _ _ h1) hF_w0 (by first | rfl | kernel_rfl) (by first | rfl | kernel_rfl) (BD X) X (uf X) ?_;try simp only[C,E,F,G,H,J]
 refine Tz (m:= .box 2 [aI (0:U),aI (0:U)]) X X (Sb X X) ?_;try simp only[C,E,F,G,H,J]
 refine Ay ?_;try simp only[C,E,F,G,H,J]
 refine Ay ?_;obtain⟨h2,h⟩|⟨h2,h⟩:=ic h
 ·obtain⟨r3,h3,h⟩:=ob h;try simp only[h2,C,E,F,G,H,J]
  refine Cc (Ae A4s h3) ?_;obtain⟨h4,h⟩|⟨h4,h⟩:=ic h
  ·try simp only[h2,h4,C,E,F,G,H,J]
   refine dn hF_w0 h_w0 h_rec h ?_ (by kernel_rfl);try simp only[h2,h4,C,E,F,G,H,J,pL,aM,zA]
  ·try simp only[h2,h4,C,E,F,G,H,J]
   cases h;exact⟨trivial,[90000,90001,90002],by decide,by decide,X,X⟩
 ·try simp only[h2,C,E,F,G,H,J]
  refine dn hF_w0 h_w0 h_rec h ?_ (by kernel_rfl);try simp only[h2,C,E,F,G,H,J,pL,aM,zA]
theorem A4o(w0:(P X0)→Q Xk)(F_w0:FuncId)(caps_w0:P D)(hF_w0:B4 Z F_w0=T)(h_w0:∀z0 zr,w0 z0=N zr→FC Z F_w0 ([.sc (.sl (Y X0.row z0))]++caps_w0.map .sc) [.ag [.v (.int .i64 zr.i0),.v (.int .i64 zr.i1)]]):∀(n:W) (a0 r:Xg),DI w0 n a0=N r→FCz Z 148 [.p] (Dg F_w0 caps_w0 a0) (Dh a0) (Dg F_w0 caps_w0 r) (Dh r) []:=by
 intro n
 induction n with
 | zero=>intro _ r h; cases h
 | succ n ih=>intro a0 r h; rw[DI] at h; exact A4n w0 (DI w0 n) a0 r F_w0 caps_w0 hF_w0 h_w0 ih h
theorem A4m{w0}{a0}{r}(F_w0:FuncId)(caps_w0:P D)(hF_w0:B4 Z F_w0=T)(h_w0:∀z0 zr,w0 z0=N zr→FC Z F_w0 ([.sc (.sl (Y X0.row z0))]++caps_w0.map .sc) [.ag [.v (.int .i64 zr.i0),.v (.int .i64 zr.i1)]])(h:Tr w0 a0=N r):FCz Z 148 [.p] (Dg F_w0 caps_w0 a0) (Dh a0) (Dg F_w0 caps_w0 r) (Dh r) []:=A4o w0 F_w0 caps_w0 hF_w0 h_w0 bigN a0 r h
def eG:P (P W × AItem):= [([],(O,.mv 17 (S 9))),([0],(O,.nilc 18 (S 17))),([1],(O,.faddr 19 (S 18) 16)),([2],(O,.load 20 (S 19) L 1)),([],(O,.mv 21 (S 9))),([4],(O,.nilc 22 (S 21))),([5],(O,.faddr 23 (S 22) 17)),([6],(O,.load 24 (S 23) T 2)),([],(O,.mv 25 (S 9))),([8],(O,.nilc 26 (S 25))),([9],(O,.faddr 27 (S 26) 19)),([10],(O,.load 28 (S 27) L 1)),([3,0,1,2,3],(O,.mv 6 (S 20))),([7,12,0,1,2,3,4,5,6,7,12],(O,.store (S 7) (S 24) 2)),([11,13,0,1,2,3,4,5,6,7,8,9,10,11,12,13],(O,.mv 8 (S 28)))]
def sv:Hw:=([],[(3,5,(O,.ownb 14 14 143232 4)),(3,6,(O,.ownb 14 15 143296 1)),(3,7,(O,.ownb 14 16 143360 1))])
abbrev JO(r1:Xg)(c0_ c1_:V)(c2_ c3_:V)(c4_ c5_:V)(c6_ c7_:V)(c8_ c9_:V)(c10_ c11_:V)(c12_ c14_:V)(bx_:P (W × P AC))(rs_:Rows):St:=⟨[(7,vc (.pb 7 0)),(9,vc (.pb 14 0)),(17,bif c0_ then vc (.pb 14 0) else .undef),(18,bif c1_ then vc (.pb 14 0) else .undef),(19,bif c2_ then vc (.pb 14 16) else .undef),(20,bif c3_ then vc (.own 143360) else .undef),(21,bif c4_ then vc (.pb 14 0) else .undef),(22,bif c5_ then vc (.pb 14 0) else .undef),(23,bif c6_ then vc (.pb 14 17) else .undef),(24,bif c7_ then va [aI r1.least.i0,aI r1.least.i1] else .undef),(25,bif c8_ then vc (.pb 14 0) else .undef),(26,bif c9_ then vc (.pb 14 0) else .undef),(27,bif c10_ then vc (.pb 14 19) else .undef),(28,bif c11_ then vc (aB r1.found) else .undef),(6,bif c12_ then vc (.own 143360) else .undef),(8,bif c14_ then vc (aB r1.found) else .undef)],bx_,rs_⟩
abbrev Sw(F_a2:FuncId)(caps_a2:P D)(r1:Xg):St:=(JO r1 T T T T T T T T T T T T T T [(7,[aI r1.least.i0,aI r1.least.i1]),(14,([aI r1.h.Forecast.Tide.Mean,aL (Y I r1.h.Forecast.Tide.Parts),aL (Y zB r1.h.Forecast.Surges),aL (Y X7.row r1.h.Chart.Points),aL (Y X2.row r1.h.Chart.Segments),aL (Y X4.row r1.h.Fleet),aI r1.h.Regime.Gap,aB r1.h.Regime.NoMeet]++dm r1.h.Crew.row++ [aL (Y (rL X0.row) r1.choices),.dat (.clo F_a2 caps_a2),.own 143232,.own 143296,.own 143360,aI r1.least.i0,aI r1.least.i1,aB r1.found]))] [(143232,4,Y X0.row r1.plan),(143296,1,Y rI r1.choice),(143360,1,Y rI r1.best)])
theorem B1n(F_a2:FuncId)(caps_a2:P D)(r1:Xg):∀(f:W) (b8 b9:V) (b10 b11 b14:V),Ad Z eG (Sw F_a2 caps_a2 r1) f [T,T,T,T,T,T,T,T,b8,b9,b10,b11,T,T,b14] (JO r1 T T T T T T T T b8 b9 b10 b11 T b14 [(7,[aI r1.least.i0,aI r1.least.i1]),(14,([aI r1.h.Forecast.Tide.Mean,aL (Y I r1.h.Forecast.Tide.Parts),aL (Y zB r1.h.Forecast.Surges),aL (Y X7.row r1.h.Chart.Points),aL (Y X2.row r1.h.Chart.Segments),aL (Y X4.row r1.h.Fleet),aI r1.h.Regime.Gap,aB r1.h.Regime.NoMeet]++dm r1.h.Crew.row++ [aL (Y (rL X0.row) r1.choices),.dat (.clo F_a2 caps_a2),.own 143232,.own 143296,.own 143360,aI r1.least.i0,aI r1.least.i1,aB r1.found]))] [(143232,4,Y X0.row r1.plan),(143296,1,Y rI r1.choice),(143360,1,Y rI r1.best)]):=by
 intro f
 induction f with
 | zero=>
  intro b8 b9 b10 b11 b14 h;obtain rfl:b8=T:=zE.1 h b8 (by simp);obtain rfl:b9=T:=zE.1 h b9 (by simp);obtain rfl:b10=T:=zE.1 h b10 (by simp);obtain rfl:b11=T:=zE.1 h b11 (by simp);obtain rfl:b14=T:=zE.1 h b14 (by simp);rfl
 | succ f ih=>
  intro b8 b9 b10 b11 b14;refine Ai ⟨?_,?_,?_,?_,?_,?_,?_,?_,?_,?_,?_,?_,?_,?_,?_,⟨⟩⟩<;>try first | (intro h; cases h; done) | (intro h0 hw; obtain rfl:=hz h0 rfl; (try obtain rfl:=hq hw 8 rfl rfl); (try obtain rfl:=hq hw 9 rfl rfl); (try obtain rfl:=hq hw 10 rfl rfl); (try obtain rfl:=hq hw 11 rfl rfl); refine np ?_; simp only[JO,A6,A7,A2,C,E,F,G,H,J]; exact ih _ _ _ _ _)
theorem B1o(F_a2:FuncId)(caps_a2:P D)(r1:Xg):∀(f:W) (b0 b1:V) (b2 b3:V) (b4 b5:V) (b6 b7:V) (b8 b9:V) (b10 b11 b12:V),Ad Z eG (Sw F_a2 caps_a2 r1) f [b0,b1,b2,b3,b4,b5,b6,b7,b8,b9,b10,b11,b12,L,L] (JO r1 b0 b1 b2 b3 b4 b5 b6 b7 b8 b9 b10 b11 b12 L [(7,[aI (0:U),aI (0:U)]),(14,([aI r1.h.Forecast.Tide.Mean,aL (Y I r1.h.Forecast.Tide.Parts),aL (Y zB r1.h.Forecast.Surges),aL (Y X7.row r1.h.Chart.Points),aL (Y X2.row r1.h.Chart.Segments),aL (Y X4.row r1.h.Fleet),aI r1.h.Regime.Gap,aB r1.h.Regime.NoMeet]++dm r1.h.Crew.row++ [aL (Y (rL X0.row) r1.choices),.dat (.clo F_a2 caps_a2),.own 143232,.own 143296,.own 143360,aI r1.least.i0,aI r1.least.i1,aB r1.found]))] [(143232,4,Y X0.row r1.plan),(143296,1,Y rI r1.choice),(143360,1,Y rI r1.best)]):=by
 intro f
 induction f with
 | zero=>intro b0 b1 b2 b3 b4 b5 b6 b7 b8 b9 b10 b11 b12 h; simp at h
 | succ f ih=>
  intro b0 b1 b2 b3 b4 b5 b6 b7 b8 b9 b10 b11 b12;refine Ai ⟨?_,?_,?_,?_,?_,?_,?_,?_,?_,?_,?_,?_,?_,?_,?_,⟨⟩⟩<;>try first | (intro _ hw; simp at hw; done) | (intro h0 hw; obtain rfl:=hz h0 rfl; (try obtain rfl:=hq hw 0 rfl rfl); (try obtain rfl:=hq hw 1 rfl rfl); (try obtain rfl:=hq hw 2 rfl rfl); (try obtain rfl:=hq hw 3 rfl rfl); (try obtain rfl:=hq hw 4 rfl rfl); (try obtain rfl:=hq hw 5 rfl rfl); (try obtain rfl:=hq hw 6 rfl rfl); (try obtain rfl:=hq hw 8 rfl rfl); (try obtain rfl:=hq hw 9 rfl rfl); (try obtain rfl:=hq hw 10 rfl rfl); refine np ?_; simp only[JO,A6,A7,A2,C,E,F,G,H,J]; exact ih _ _ _ _ _ _ _ _ _ _ _ _ _)
  ·intro h0 hw;obtain rfl:=hq hw 0 rfl rfl;obtain rfl:=hq hw 1 rfl rfl;obtain rfl:=hq hw 2 rfl rfl;obtain rfl:=hq hw 3 rfl rfl;obtain rfl:=hq hw 4 rfl rfl;obtain rfl:=hq hw 5 rfl rfl;obtain rfl:=hq hw 6 rfl rfl;obtain rfl:=hq hw 7 rfl rfl;obtain rfl:=hq hw 12 rfl rfl;refine np ?_;try simp only[JO,A6,A7,A2,C,E,F,G,H,J]
   exact B1n F_a2 caps_a2 r1 _ b8 b9 b10 b11 L
theorem A4i{a0}{a1}{a2}{r}(F_a2:FuncId)(caps_a2:P D)(hF_a2:B4 Z F_a2=T)(h_a2:∀z0 zr,a2 z0=N zr→FC Z F_a2 ([.sc (.sl (Y X0.row z0))]++caps_a2.map .sc) [.ag [.v (.int .i64 zr.i0),.v (.int .i64 zr.i1)]])(h:N3 a0 a1 a2=N r):FC Z 97 [.ag (X5.row a0),.sc (.sl (Y (rL X0.row) a1)),.sc (.clo F_a2 caps_a2)] [.sc (.o 1 (Y rI r.1)),.ag [.v (.int .i64 r.2.1.i0),.v (.int .i64 r.2.1.i1)],.sc (.v (.bool r.2.2))]:=by
 unfold N3 at h;refine A5 A4 sv [6,.c 7 T 2,8] 29 ?_;intro S hS;refine ev hS ?_;simp only[C,E,F,G,H,J];try simp only[C,E,F,G,H,J]
 refine Bg ?_;try simp only[C,E,F,G,H,J]
 refine BM ?_;try simp only[C,E,F,G,H,J]
 refine Bg ?_;try simp only[C,E,F,G,H,J]
 refine FT (cs':= [aI a0.Forecast.Tide.Mean,aL (Y I a0.Forecast.Tide.Parts),aL (Y zB a0.Forecast.Surges),aL (Y X7.row a0.Chart.Points),aL (Y X2.row a0.Chart.Segments),aL (Y X4.row a0.Fleet),aI a0.Regime.Gap,aB a0.Regime.NoMeet,aI a0.Crew.Tugs,aI a0.Crew.Pilots,aI a0.Crew.Rest,aL (Y rI a0.Crew.Moves),aL (Y (rL X0.row) a1),.dat (.clo F_a2 caps_a2),.own 143232,.nil,.nil,aI (0:U),aI (0:U),aB L]) X X X X ?_;try simp only[C,E,F,G,H,J]
 refine FT (cs':= [aI a0.Forecast.Tide.Mean,aL (Y I a0.Forecast.Tide.Parts),aL (Y zB a0.Forecast.Surges),aL (Y X7.row a0.Chart.Points),aL (Y X2.row a0.Chart.Segments),aL (Y X4.row a0.Fleet),aI a0.Regime.Gap,aB a0.Regime.NoMeet,aI a0.Crew.Tugs,aI a0.Crew.Pilots,aI a0.Crew.Rest,aL (Y rI a0.Crew.Moves),aL (Y (rL X0.row) a1),.dat (.clo F_a2 caps_a2),.own 143232,.own 143296,.nil,aI (0:U),aI (0:U),aB L]) X X X X ?_;try simp only[C,E,F,G,H,J]
 refine FT (cs':= [aI a0.Forecast.Tide.Mean,aL (Y I a0.Forecast.Tide.Parts),aL (Y zB a0.Forecast.Surges),aL (Y X7.row a0.Chart.Points),aL (Y X2.row a0.Chart.Segments),aL (Y X4.row a0.Fleet),aI a0.Regime.Gap,aB a0.Regime.NoMeet,aI a0.Crew.Tugs,aI a0.Crew.Pilots,aI a0.Crew.Rest,aL (Y rI a0.Crew.Moves),aL (Y (rL X0.row) a1),.dat (.clo F_a2 caps_a2),.own 143232,.own 143296,.own 143360,aI (0:U),aI (0:U),aB L]) X X X X ?_;try simp only[C,E,F,G,H,J]
 refine Rk ?_;obtain⟨r1,h1,h⟩:=ob h;try simp only[C,E,F,G,H,J]
 refine H7 (A4m F_a2 caps_a2 hF_a2 h_a2 h1) 14 [143232,143296,143360] rfl X X X (by decide) X X X ?_;try simp only[C,E,F,G,H,J]
 refine Ee (ks:= [7,9]) (bs:= [7,14]) (rs:= [143232,143296,143360]) (τ:=(Sw F_a2 caps_a2 r1)) X (B1o F_a2 caps_a2 r1 _ L L L L L L L L L L L L L) ?_;simp only[Sw,JO,A6];try simp only[C,E,F,G,H,J]
 cases h;try simp only[PE,C,E,F,G,H,J]
 trivial
def YS:Hw:=([(8,[3,6,7,8],[],[])],[])
def en:=fun a0 (k_:U→U→Q U)=>∀{v1 v2} {zr},k_ v1 v2=N zr→Kh Z 149 YS 8 [3,6,7,8] [] [] ⟨[pI 3 v1,pL 6 X0.row a0,pI 7 (a0.length:U),pI 8 v2],[],[]⟩ (A8 [2] [.sc (.v (.int .i64 zr))])
theorem B1p{a0}{n:W}:en a0 (HX a0 n):=by
 induction n with
 | zero=>intro _ _ r h; cases h
 | succ n ih=>
  intro v1 v2 r h σ hσ;rw[HX] at h;exact gc
instance B4h:Ct 149 (∀{a0} {r},Mq a0=N r→FC Z 149 [.sc (.sl (Y X0.row a0))] [.sc (.v (.int .i64 r))]):=by
 refine⟨fun h=> ?_⟩;unfold Mq at h;refine A5 A4 YS [2] 18 ?_;have k0:= @B1p;exact gc
theorem A37{a0}{r}(h:Kz a0=N r):FC Z 98 [.sc (.sl (Y X0.row a0))] [.ag [.v (.int .i64 r.i0),.v (.int .i64 r.i1)]]:=by
 unfold Kz at h;refine A5 A4 h0 [.c 2 T 2] 6 ?_;exact gc
def YT:Hw:=([(8,[0,5,9,10,11],[],[512])],[])
def fT:=fun a0 a1 (k_:U→(P X0)→Q (P X0))=>∀{v1 v2} {zr},k_ v1 v2=N zr→Kh Z 99 YT 8 [0,5,9,10,11] [] [512] ⟨[pL 0 (rL X0.row) a0,pW 5 512,pL 9 rI a1,pI 10 (a1.length:U),pI 11 v1],[],[(512,4,Y X0.row v2)]⟩ (A8 [4] [.sc (.o 4 (Y X0.row zr))])
theorem B1r{a0 a1}{n:W}:fT a0 a1 (Ie a0 a1 n):=by
 induction n with
 | zero=>intro _ _ r h; cases h
 | succ n ih=>
  intro v1 v2 r h σ hσ;rw[Ie] at h;have s0:=fun(x6:X0)=> @Al (Y X0.row ([x6]:P X0))
  exact gc
instance A38:Ct 99 (∀{a0} {a1} {r},Ic a0 a1=N r→FC Z 99 [.sc (.sl (Y (rL X0.row) a0)),.sc (.sl (Y rI a1))] [.sc (.o 4 (Y X0.row r))]):=by
 refine⟨fun h=> ?_⟩;unfold Ic at h;refine A5 A4 YT [4] 28 ?_;have s0:= @Al (Y X0.row ([]:P X0));have k0:= @B1r;exact gc
def TU:Hw:=([(5,[1,2,3,24],[3],[]),(16,[2,3,8,26,27,28],[3],[1600])],[(27,5,(O,.frz 2304)),(40,2,(O,.frz 1600)),(40,3,(O,.frz 2752))])
def eg:=fun a2 a1 (a0:X5) (k_:U→(P (P X0))→Q ((P X0) × V))=>∀{v6 v7} {zr},k_ v6 v7=N zr→Kh Z 56 TU 16 [2,3,8,26,27,28] [3] [1600] ⟨[pL 2 X9.row a2,pB 3,pW 8 1600,pL 26 zJ a1,pI 27 (a1.length:U),pI 28 v6],[(3,([aI a0.Forecast.Tide.Mean,aM I a0.Forecast.Tide.Parts,aM zB a0.Forecast.Surges,aM X7.row a0.Chart.Points,aM X2.row a0.Chart.Segments,aM X4.row a0.Fleet,aI a0.Regime.Gap,aB a0.Regime.NoMeet]++dm a0.Crew.row))],[(1600,1,Y (rL X0.row) v7)]⟩ (A8 [6,7] [.sc (.o 4 (Y X0.row zr.1)),.sc (.v (.bool zr.2))])
def ef:=fun a1 a2 (a0:X5) (k_:V→Q ((P X0) × V))=>∀{v4} {zr},k_ v4=N zr→Kh Z 56 TU 5 [1,2,3,24] [3] [] ⟨[pL 1 zJ a1,pL 2 X9.row a2,pB 3,(24,vc (aB v4))],[(3,([aI a0.Forecast.Tide.Mean,aM I a0.Forecast.Tide.Parts,aM zB a0.Forecast.Surges,aM X7.row a0.Chart.Points,aM X2.row a0.Chart.Segments,aM X4.row a0.Fleet,aI a0.Regime.Gap,aB a0.Regime.NoMeet]++dm a0.Crew.row))],[]⟩ (A8 [6,7] [.sc (.o 4 (Y X0.row zr.1)),.sc (.v (.bool zr.2))])
theorem B1s{a2 a1 a0}{n:W}:eg a2 a1 a0 (HU a2 a1 a0 n):=by
 induction n with
 | zero=>intro _ _ r h; cases h
 | succ n ih=>
  intro v6 v7 r h σ hσ S hS;refine ev hS ?_;rw[HU] at h;refine AE (Ax ?_);obtain⟨h8,h⟩|⟨h8,h⟩:=ic h
  ·obtain⟨x9,h9,h⟩:=ob h;try simp only[hσ,h8,h9,C,E,F,G,H,J]
   refine BM ?_;obtain⟨r10,h10,h⟩:=ob h;try simp only[h8,h9,C,E,F,G,H,J]
   refine AA (Ae A32 h10) ?_;try simp only[h8,h9,C,E,F,G,H,J]
   refine Cj ?_;try simp only[h8,h9,C,E,F,G,H,J]
   refine Bf (es:=Y (rL X0.row) ([r10]:P (P X0))) ?_;obtain⟨h11,h⟩:=B3 h;try simp only[h8,h9,h11,C,E,F,G,H,J]
   refine ih h ?_ (by kernel_rfl);try simp only[h8,h9,h11,C,E,F,G,H,J,pL,aM,zA]
  ·obtain⟨r12,h12,h⟩:=ob h;try simp only[hσ,h8,C,E,F,G,H,J]
   refine BO (A4i 98 [] (by kernel_rfl) (fun z0 zr zh=>A37 zh) h12) X (D0 X ⟨D1,X,X,X,⟨⟩⟩) X (uf X) ?_;try simp only[h8,C,E,F,G,H,J]
   refine BM ?_;obtain⟨h13,h⟩|⟨h13,h⟩:=ic h
   ·try simp only[h8,h13,C,E,F,G,H,J]
    refine Cj ?_;try simp only[h8,h13,C,E,F,G,H,J]
    refine Cj ?_;obtain⟨r14,h14,h⟩:=ob h;try simp only[h8,h13,C,E,F,G,H,J]
    refine AA (Ae A38 h14) ?_;try simp only[h8,h13,C,E,F,G,H,J]
    cases h;trivial
   ·try simp only[h8,h13,C,E,F,G,H,J]
    cases h;trivial
theorem B1t{a1 a2 a0}:ef a1 a2 a0 (Mp a1 a2 a0):=by
 intro v4 r h σ hσ;unfold Mp at h;have s0:= @Al (Y (rL X0.row) ([]:P (P X0)));have k0:= @B1s;exact gc
instance A3x:Ct 56 (∀{a0} {a1} {a2} {r},Mo a0 a1 a2=N r→FC Z 56 [.ag (X5.row a0),.sc (.sl (Y zJ a1)),.sc (.sl (Y X9.row a2))] [.sc (.o 4 (Y X0.row r.1)),.sc (.v (.bool r.2))]):=by
 refine⟨fun h=> ?_⟩;unfold Mo at h;refine A5 A4 TU [6,7] 52 ?_;have k0:= @B1t;exact gc
theorem A3z{a0}{c0}{c1}{c2}{r}(h:Mu a0 c0 c1 c2=N r):FC Z 55 [.sc (.sl (Y rI a0)),.sc (.pd (X5.row c0)),.sc (.pd ((rL zJ) c1)),.sc (.pd ((rL X9.row) c2))] [.sc (.v (.bool r))]:=by
 unfold Mu at h;refine A5 A4 h0 [5] 18 ?_;intro S hS;refine ev hS ?_;simp only[C,E,F,G,H,J];try simp only[C,E,F,G,H,J]
 refine Ay ?_;obtain⟨r1,h1,h⟩:=ob h;try simp only[C,E,F,G,H,J]
 refine Cc (FC.asV (rs':= [.sc (.v (.sl (Y zJ r1)))]) (Ae A35 h1) X) ?_;obtain⟨r2,h2,h⟩:=ob h;try simp only[C,E,F,G,H,J]
 refine Cc (Ae A3x h2) ?_;try simp only[C,E,F,G,H,J]
 cases h;exact t0
def YU:Hw:=([(6,[0,1,7,8],[],[])],[])
def gl:=fun a0 a1 (k_:U→Q U)=>∀{v1} {zr},k_ v1=N zr→Kh Z 101 YU 6 [0,1,7,8] [] [] ⟨[pL 0 rI a0,pI 1 a1,pI 7 (a0.length:U),pI 8 v1],[],[]⟩ (A8 [4] [.sc (.v (.int .i64 zr))])
theorem B1u{a0 a1}{n:W}:gl a0 a1 (IR a0 a1 n):=by
 induction n with
 | zero=>intro _ r h; cases h
 | succ n ih=>
  intro v1 r h σ hσ;rw[IR] at h;exact gc
instance B68:Ct 101 (∀{a0} {a1} {r},QU a0 a1=N r→FC Z 101 [.sc (.sl (Y rI a0)),.sc (.int .i64 a1)] [.sc (.v (.int .i64 r))]):=by
 refine⟨fun h=> ?_⟩;unfold QU at h;refine A5 A4 YU [4] 19 ?_;have k0:= @B1u;exact gc
instance B67:Ct 58 (∀{a0} {a1} {r},NR a0 a1=N r→FC Z 58 [.sc (.sl (Y rI a0)),.sc (.int .i64 a1)] [.sc (.v (.bool r))]):=by
 refine⟨fun h=> ?_⟩;unfold NR at h;refine A5 A4 h0 [4] 9 ?_;exact gc
def TW:Hw:=([(5,[3,4,5,21],[3,4,5],[]),(18,[8,9,27,28],[],[1600])],[(11,1,(O,.frzb 3)),(11,2,(O,.frzb 4)),(11,3,(O,.frzb 5))])
def eu:=fun r6 (a1:P Xb) (k_:U→(P U)→Q ((P U) × V))=>∀{v7 v8} {zr},k_ v7 v8=N zr→Kh Z 16 TW 18 [8,9,27,28] [] [1600] ⟨[pL 8 rI r6,pW 9 1600,pI 27 (a1.length:U),pI 28 v7],[],[(1600,1,Y rI v8)]⟩ (A8 [6,7] [.sc (.o 1 (Y rI zr.1)),.sc (.v (.bool zr.2))])
def eq:=fun(a0:X5) a1 a2 (k_:V→Q ((P U) × V))=>∀{v4} {zr},k_ v4=N zr→Kh Z 16 TW 5 [3,4,5,21] [3,4,5] [] ⟨[pB 3,pB 4,pB 5,(21,vc (aB v4))],[(3,([aI a0.Forecast.Tide.Mean,aM I a0.Forecast.Tide.Parts,aM zB a0.Forecast.Surges,aM X7.row a0.Chart.Points,aM X2.row a0.Chart.Segments,aM X4.row a0.Fleet,aI a0.Regime.Gap,aB a0.Regime.NoMeet]++dm a0.Crew.row)),(4,[aM zJ a1]),(5,[aM X9.row a2])],[]⟩ (A8 [6,7] [.sc (.o 1 (Y rI zr.1)),.sc (.v (.bool zr.2))])
theorem B1v{r6 a1}{n:W}:eu r6 a1 (Fg r6 a1 n):=by
 induction n with
 | zero=>intro _ _ r h; cases h
 | succ n ih=>
  intro v7 v8 r h σ hσ;rw[Fg] at h;have s0:= @Al (Y rI ([v7]:P U));exact gc
theorem B1w{a0 a1 a2}:eq a0 a1 a2 (Ms a0 a1 a2):=by
 intro v4 r h σ hσ S hS;refine ev hS ?_;refine Ax ?_;unfold Ms at h;obtain⟨h5,h⟩|⟨h5,h⟩:=ic h
 ·try simp only[hσ,h5,C,E,F,G,H,J]
  cases h;trivial
 ·try simp only[hσ,h5,C,E,F,G,H,J]
  refine Rm X X ?_;try simp only[h5,zK,C,E,F,G,H,J]
  refine Rm X X ?_;try simp only[h5,zK,C,E,F,G,H,J]
  refine Rm X X ?_;obtain⟨r6,h6,h⟩:=ob h;try simp only[h5,zK,C,E,F,G,H,J]
  refine AA (A4j 55 [.pd (X5.row a0),.pd ((rL zJ) a1),.pd ((rL X9.row) a2)] (by kernel_rfl) (fun z0 zr zh=>A3z zh) h6) ?_;try simp only[h5,zK,C,E,F,G,H,J]
  refine Bf (es:=Y rI ([]:P U)) ?_;try simp only[h5,zK,C,E,F,G,H,J]
  refine B1v h ?_ (by kernel_rfl);try simp only[h5,zK,C,E,F,G,H,J,pL,aM,zA]
instance cw:Ct 16 (∀{a0} {a1} {a2} {r},Ff a0 a1 a2=N r→FC Z 16 [.ag (X5.row a0),.sc (.sl (Y zJ a1)),.sc (.sl (Y X9.row a2))] [.sc (.o 1 (Y rI r.1)),.sc (.v (.bool r.2))]):=by
 refine⟨fun h=> ?_⟩;unfold Ff at h;refine A5 A4 TW [6,7] 41 ?_;have k0:= @B1w;exact gc
def YW:Hw:=([(14,[0,1,5],[],[])],[])
def gC:=fun a0 a1 (k_:U→Q V)=>∀{v2} {zr},k_ v2=N zr→Kh Z 17 YW 14 [0,1,5] [] [] ⟨[pL 0 rI a0,pL 1 rI a1,pI 5 v2],[],[]⟩ (A8 [4] [.sc (.v (.bool zr))])
theorem B1x{a0 a1}{n:W}:gC a0 a1 (Iw a0 a1 n):=by
 induction n with
 | zero=>intro _ r h; cases h
 | succ n ih=>
  intro v2 r h σ hσ;rw[Iw] at h;exact gc
instance Vc:Ct 17 (∀{a0} {a1} {r},Fu a0 a1=N r→FC Z 17 [.sc (.sl (Y rI a0)),.sc (.sl (Y rI a1))] [.sc (.v (.bool r))]):=by
 refine⟨fun h=> ?_⟩;unfold Fu at h;refine A5 A4 YW [4] 26 ?_;have k0:= @B1x;exact gc
instance B50:Ct 165 (∀{a0} {a1} {r},Nj a0 a1=N r→FC Z 165 [.ag (I a0),.ag (I a1)] [.sc (.v (.bool r))]):=by
 refine⟨fun h=> ?_⟩;unfold Nj at h;refine A5 A4 h0 [4] 20 ?_;exact gc
def YY:Hw:=([(14,[0,1,5],[],[])],[])
def gD:=fun a0 a1 (k_:U→Q V)=>∀{v2} {zr},k_ v2=N zr→Kh Z 128 YY 14 [0,1,5] [] [] ⟨[pL 0 I a0,pL 1 I a1,pI 5 v2],[],[]⟩ (A8 [4] [.sc (.v (.bool zr))])
theorem B1y{a0 a1}{n:W}:gD a0 a1 (Ix a0 a1 n):=by
 induction n with
 | zero=>intro _ r h; cases h
 | succ n ih=>
  intro v2 r h σ hσ;rw[Ix] at h;exact gc
instance B51:Ct 128 (∀{a0} {a1} {r},Nk a0 a1=N r→FC Z 128 [.sc (.sl (Y I a0)),.sc (.sl (Y I a1))] [.sc (.v (.bool r))]):=by
 refine⟨fun h=> ?_⟩;unfold Nk at h;refine A5 A4 YY [4] 27 ?_;have k0:= @B1y;exact gc
instance B6b:Ct 84 (∀{a0} {a1} {r},QB a0 a1=N r→FC Z 84 [.ag (Xm.row a0),.ag (Xm.row a1)] [.sc (.v (.bool r))]):=by
 refine⟨fun h=> ?_⟩;unfold QB at h;refine A5 A4 h0 [4] 16 ?_;exact gc
instance B59:Ct 129 (∀{a0} {a1} {r},Ns a0 a1=N r→FC Z 129 [.ag (zB a0),.ag (zB a1)] [.sc (.v (.bool r))]):=by
 refine⟨fun h=> ?_⟩;unfold Ns at h;refine A5 A4 h0 [4] 20 ?_;exact gc
def YZ:Hw:=([(14,[0,1,5],[],[])],[])
def gH:=fun a0 a1 (k_:U→Q V)=>∀{v2} {zr},k_ v2=N zr→Kh Z 85 YZ 14 [0,1,5] [] [] ⟨[pL 0 zB a0,pL 1 zB a1,pI 5 v2],[],[]⟩ (A8 [4] [.sc (.v (.bool zr))])
theorem B1z{a0 a1}{n:W}:gH a0 a1 (IB a0 a1 n):=by
 induction n with
 | zero=>intro _ r h; cases h
 | succ n ih=>
  intro v2 r h σ hσ;rw[IB] at h;exact gc
instance B6a:Ct 85 (∀{a0} {a1} {r},Nt a0 a1=N r→FC Z 85 [.sc (.sl (Y zB a0)),.sc (.sl (Y zB a1))] [.sc (.v (.bool r))]):=by
 refine⟨fun h=> ?_⟩;unfold Nt at h;refine A5 A4 YZ [4] 27 ?_;have k0:= @B1z;exact gc
instance B5z:Ct 40 (∀{a0} {a1} {r},Nh a0 a1=N r→FC Z 40 [.ag (Xe.row a0),.ag (Xe.row a1)] [.sc (.v (.bool r))]):=by
 refine⟨fun h=> ?_⟩;unfold Nh at h;refine A5 A4 h0 [4] 17 ?_;exact gc
instance B52:Ct 130 (∀{a0} {a1} {r},Nl a0 a1=N r→FC Z 130 [.ag (X7.row a0),.ag (X7.row a1)] [.sc (.v (.bool r))]):=by
 refine⟨fun h=> ?_⟩;unfold Nl at h;refine A5 A4 h0 [4] 15 ?_;exact gc
def Z0:Hw:=([(14,[0,1,5],[],[])],[])
def gE:=fun a0 a1 (k_:U→Q V)=>∀{v2} {zr},k_ v2=N zr→Kh Z 86 Z0 14 [0,1,5] [] [] ⟨[pL 0 X7.row a0,pL 1 X7.row a1,pI 5 v2],[],[]⟩ (A8 [4] [.sc (.v (.bool zr))])
theorem B10{a0 a1}{n:W}:gE a0 a1 (Iy a0 a1 n):=by
 induction n with
 | zero=>intro _ r h; cases h
 | succ n ih=>
  intro v2 r h σ hσ;rw[Iy] at h;exact gc
instance B53:Ct 86 (∀{a0} {a1} {r},Nm a0 a1=N r→FC Z 86 [.sc (.sl (Y X7.row a0)),.sc (.sl (Y X7.row a1))] [.sc (.v (.bool r))]):=by
 refine⟨fun h=> ?_⟩;unfold Nm at h;refine A5 A4 Z0 [4] 27 ?_;have k0:= @B10;exact gc
instance B55:Ct 131 (∀{a0} {a1} {r},Nn a0 a1=N r→FC Z 131 [.ag (X2.row a0),.ag (X2.row a1)] [.sc (.v (.bool r))]):=by
 refine⟨fun h=> ?_⟩;unfold Nn at h;refine A5 A4 h0 [4] 30 ?_;exact gc
def Z1:Hw:=([(14,[0,1,5],[],[])],[])
def gF:=fun a0 a1 (k_:U→Q V)=>∀{v2} {zr},k_ v2=N zr→Kh Z 87 Z1 14 [0,1,5] [] [] ⟨[pL 0 X2.row a0,pL 1 X2.row a1,pI 5 v2],[],[]⟩ (A8 [4] [.sc (.v (.bool zr))])
theorem B11{a0 a1}{n:W}:gF a0 a1 (Iz a0 a1 n):=by
 induction n with
 | zero=>intro _ r h; cases h
 | succ n ih=>
  intro v2 r h σ hσ;rw[Iz] at h;exact gc
instance B56:Ct 87 (∀{a0} {a1} {r},Np a0 a1=N r→FC Z 87 [.sc (.sl (Y X2.row a0)),.sc (.sl (Y X2.row a1))] [.sc (.v (.bool r))]):=by
 refine⟨fun h=> ?_⟩;unfold Np at h;refine A5 A4 Z1 [4] 27 ?_;have k0:= @B11;exact gc
instance B5w:Ct 41 (∀{a0} {a1} {r},Nf a0 a1=N r→FC Z 41 [.ag (X1.row a0),.ag (X1.row a1)] [.sc (.v (.bool r))]):=by
 refine⟨fun h=> ?_⟩;unfold Nf at h;refine A5 A4 h0 [4] 17 ?_;exact gc
instance B57:Ct 88 (∀{a0} {a1} {r},Nq a0 a1=N r→FC Z 88 [.ag (X4.row a0),.ag (X4.row a1)] [.sc (.v (.bool r))]):=by
 refine⟨fun h=> ?_⟩;unfold Nq at h;refine A5 A4 h0 [4] 35 ?_;exact gc
def Z2:Hw:=([(14,[0,1,5],[],[])],[])
def gG:=fun a0 a1 (k_:U→Q V)=>∀{v2} {zr},k_ v2=N zr→Kh Z 42 Z2 14 [0,1,5] [] [] ⟨[pL 0 X4.row a0,pL 1 X4.row a1,pI 5 v2],[],[]⟩ (A8 [4] [.sc (.v (.bool zr))])
theorem B13{a0 a1}{n:W}:gG a0 a1 (IA a0 a1 n):=by
 induction n with
 | zero=>intro _ r h; cases h
 | succ n ih=>
  intro v2 r h σ hσ;rw[IA] at h;exact gc
instance B58:Ct 42 (∀{a0} {a1} {r},Nr a0 a1=N r→FC Z 42 [.sc (.sl (Y X4.row a0)),.sc (.sl (Y X4.row a1))] [.sc (.v (.bool r))]):=by
 refine⟨fun h=> ?_⟩;unfold Nr at h;refine A5 A4 Z2 [4] 27 ?_;have k0:= @B13;exact gc
instance B54:Ct 43 (∀{a0} {a1} {r},QA a0 a1=N r→FC Z 43 [.ag (Xi.row a0),.ag (Xi.row a1)] [.sc (.v (.bool r))]):=by
 refine⟨fun h=> ?_⟩;unfold QA at h;refine A5 A4 h0 [4] 15 ?_;exact gc
instance B5y:Ct 44 (∀{a0} {a1} {r},Qz a0 a1=N r→FC Z 44 [.ag (Xn.row a0),.ag (Xn.row a1)] [.sc (.v (.bool r))]):=by
 refine⟨fun h=> ?_⟩;unfold Qz at h;refine A5 A4 h0 [4] 26 ?_;exact gc
instance A4w:Ct 11 (∀{a0} {a1} {r},Ni a0 a1=N r→FC Z 11 [.ag (X5.row a0),.ag (X5.row a1)] [.sc (.v (.bool r))]):=by
 refine⟨fun h=> ?_⟩;unfold Ni at h;refine A5 A4 h0 [4] 35 ?_;exact gc
instance B5v:Ct 45 (∀{a0} {a1} {r},Qy a0 a1=N r→FC Z 45 [.ag (zJ a0),.ag (zJ a1)] [.sc (.v (.bool r))]):=by
 refine⟨fun h=> ?_⟩;unfold Qy at h;refine A5 A4 h0 [4] 30 ?_;exact gc
def Z3:Hw:=([(14,[0,1,5],[],[])],[])
def gA:=fun a0 a1 (k_:U→Q V)=>∀{v2} {zr},k_ v2=N zr→Kh Z 12 Z3 14 [0,1,5] [] [] ⟨[pL 0 zJ a0,pL 1 zJ a1,pI 5 v2],[],[]⟩ (A8 [4] [.sc (.v (.bool zr))])
theorem B14{a0 a1}{n:W}:gA a0 a1 (Iu a0 a1 n):=by
 induction n with
 | zero=>intro _ r h; cases h
 | succ n ih=>
  intro v2 r h σ hσ;rw[Iu] at h;exact gc
instance A4u:Ct 12 (∀{a0} {a1} {r},Nd a0 a1=N r→FC Z 12 [.sc (.sl (Y zJ a0)),.sc (.sl (Y zJ a1))] [.sc (.v (.bool r))]):=by
 refine⟨fun h=> ?_⟩;unfold Nd at h;refine A5 A4 Z3 [4] 27 ?_;have k0:= @B14;exact gc
instance B5x:Ct 59 (∀{a0} {a1} {r},Ng a0 a1=N r→FC Z 59 [.ag (X9.row a0),.ag (X9.row a1)] [.sc (.v (.bool r))]):=by
 refine⟨fun h=> ?_⟩;unfold Ng at h;refine A5 A4 h0 [4] 20 ?_;exact gc
def Z4:Hw:=([(14,[0,1,5],[],[])],[])
def gB:=fun a0 a1 (k_:U→Q V)=>∀{v2} {zr},k_ v2=N zr→Kh Z 18 Z4 14 [0,1,5] [] [] ⟨[pL 0 X9.row a0,pL 1 X9.row a1,pI 5 v2],[],[]⟩ (A8 [4] [.sc (.v (.bool zr))])
theorem B15{a0 a1}{n:W}:gB a0 a1 (Iv a0 a1 n):=by
 induction n with
 | zero=>intro _ r h; cases h
 | succ n ih=>
  intro v2 r h σ hσ;rw[Iv] at h;exact gc
instance A4v:Ct 18 (∀{a0} {a1} {r},KK a0 a1=N r→FC Z 18 [.sc (.sl (Y X9.row a0)),.sc (.sl (Y X9.row a1))] [.sc (.v (.bool r))]):=by
 refine⟨fun h=> ?_⟩;unfold KK at h;refine A5 A4 Z4 [4] 27 ?_;have k0:= @B15;exact gc
def TY:Hw:=([(6,[0,1,5],[],[99999999999])],[])
def gM:=fun(k_:U→U→(P Xd)→Q (U × P Xd))=>∀{v1 v2 v3} {zr},k_ v1 v2 v3=N zr→Kh Z 150 TY 6 [0,1,5] [] [99999999999] ⟨[pW 0 99999999999,pI 1 v1,pI 5 v2],[],[(99999999999,3,Y I v3)]⟩ (E1 [4] (.int .i64 zr.1) [(3,Y I zr.2)] [(0,0)])
theorem B16{n:W}:gM (Fy n):=by
 induction n with
 | zero=>intro _ _ _ r h; cases h
 | succ n ih=>
  intro v1 v2 v3 r h σ hσ S hS;refine ev hS ?_;rw[Fy] at h;refine AE (Ax ?_);obtain⟨h4,h⟩|⟨h4,h⟩:=ic h
  ·obtain⟨x5,h5,h⟩:=ob h;have h5n:=Au h5;try simp only[hσ,h4,h5,C,E,F,G,H,J]
   refine AS (row:=I) (y:=(⟨v1,x5.Period,x5.Phase⟩:Xd)) X X h5n X X (by rfl) ?_;obtain⟨x6,h6,h⟩:=ob h;have h6n:=Au h6;try simp only[h4,h5,h6,C,E,F,G,H,J]
   refine AS (row:=I) (y:=(⟨x6.Amp,(zL .i64 (v1+(1:U))),x6.Phase⟩:Xd)) X X h6n X X (by rfl) ?_;obtain⟨x7,h7,h⟩:=ob h;have h7n:=Au h7;try simp only[h4,h5,h6,h7,C,E,F,G,H,J]
   refine AS (row:=I) (y:=(⟨x7.Amp,x7.Period,(zL .i64 ((zL .i64 (v1+(1:U)))+(1:U)))⟩:Xd)) X X h7n X X (by rfl) ?_;try simp only[h4,h5,h6,h7,C,E,F,G,H,J]
   refine ih h ?_ (by kernel_rfl);try simp only[h4,h5,h6,h7,C,E,F,G,H,J,pL,aM,zA]
  ·try simp only[hσ,h4,C,E,F,G,H,J]
   cases h;exact⟨⟨X,⟨⟩⟩,⟨⟨⟨_,X,X⟩,X⟩,⟨⟩⟩⟩
theorem ov:B1 Z 150=N ((C3 Z 150 TY).strip,[4],34):=by kernel_rfl
theorem ve:∀(n:W) (v1 v2:U) (v3:P Xd) (r:U × P Xd),Fy n v1 v2 v3=N r→r.2.length=v3.length:=by
 intro n
 induction n with
 | zero=>intro _ _ _ r h; cases h
 | succ n ih=>
  intro v1 v2 v3 r h;rw[Fy] at h;obtain⟨h4,h⟩|⟨h4,h⟩:=ic h
  ·obtain⟨x5,h5,h⟩:=ob h;obtain⟨x6,h6,h⟩:=ob h;obtain⟨x7,h7,h⟩:=ob h;have hl:=ih _ _ _ _ h;try simp only[zC] at hl
   omega
  ·cases h;all_goals (try dsimp only); first | done | omega | (simp only[zC] at *; omega) | simp_all
theorem Ui{a0}{a1}{r}(h:KT a0 a1=N r):r.2.length=a0.length:=by
 unfold KT at h;have hl:=ve _ _ _ _ _ h;try simp only[zC] at hl
 omega
theorem A43{a0}{a1}{r}(h:KT a0 a1=N r):Co Z 150 [.sc (.r 0),.sc (.d (.int .i64 a1))] [(3,Y I a0)] [(3,Y I r.2)] (.int .i64 r.1):=by
 unfold KT at h;refine Di (ps:= [(0,0)]) (σ:=⟨[(0,vc (.own 99999999999)),(1,vc (aI a1))],[],[(99999999999,3,Y I a0)]⟩) A4 ov X X X (AQ Bu) X ?_;refine Cb TY ?_;have k0:= @B16;exact gc
theorem ow:B1 Z 102=N ((C3 Z 102 h0).strip,[4],10):=by kernel_rfl
theorem Un{a0}{a1}{r}(h:KZ a0 a1=N r):r.2.length=a0.Parts.length:=by
 unfold KZ at h;obtain⟨r1,h1,h⟩:=ob h;have lrr1:=(Ui h1);cases h;all_goals (try dsimp only); first | done | omega | (simp only[zC] at *; omega) | simp_all
theorem A48{a0}{a1}{r}(h:KZ a0 a1=N r):Co Z 102 [.ag [.d (.int .i64 a0.Mean),.r 0],.sc (.d (.int .i64 a1))] [(3,Y I a0.Parts)] [(3,Y I r.2)] (.int .i64 r.1):=by
 unfold KZ at h;refine Di (ps:= [(0,1)]) (σ:=⟨[(0,va [aI a0.Mean,.own 99999999999]),(1,vc (aI a1))],[],[(99999999999,3,Y I a0.Parts)]⟩) A4 ow X X X (AQ Bu) X ?_;refine Cb h0 ?_;intro S hS;refine ev hS ?_;try simp only[C,E,F,G,H,J]
 refine Bg ?_;obtain⟨r1,h1,h⟩:=ob h;try simp only[C,E,F,G,H,J]
 have lrr1:=(Ui h1);refine D8 (ids:= [99999999999]) (A43 h1) X X X (AQ Bu) (C9 (Ui h1) Dc) ?_;try simp only[C,E,F,G,H,J]
 cases h;exact⟨⟨X,⟨⟩⟩,⟨⟨⟨_,X,X⟩,X⟩,⟨⟩⟩⟩
def TZ:Hw:=([(6,[0,1,5],[],[99999999999])],[])
def gQ:=fun(k_:U→U→(P Xa)→Q (U × P Xa))=>∀{v1 v2 v3} {zr},k_ v1 v2 v3=N zr→Kh Z 103 TZ 6 [0,1,5] [] [99999999999] ⟨[pW 0 99999999999,pI 1 v1,pI 5 v2],[],[(99999999999,3,Y zB v3)]⟩ (E1 [4] (.int .i64 zr.1) [(3,Y zB zr.2)] [(0,0)])
theorem B18{n:W}:gQ (FD n):=by
 induction n with
 | zero=>intro _ _ _ r h; cases h
 | succ n ih=>
  intro v1 v2 v3 r h σ hσ S hS;refine ev hS ?_;rw[FD] at h;refine AE (Ax ?_);obtain⟨h4,h⟩|⟨h4,h⟩:=ic h
  ·obtain⟨x5,h5,h⟩:=ob h;have h5n:=Au h5;try simp only[hσ,h4,h5,C,E,F,G,H,J]
   refine AS (row:=zB) (y:=(⟨v1,x5.Low,x5.High⟩:Xa)) X X h5n X X (by rfl) ?_;obtain⟨x6,h6,h⟩:=ob h;have h6n:=Au h6;try simp only[h4,h5,h6,C,E,F,G,H,J]
   refine AS (row:=zB) (y:=(⟨x6.From,(zL .i64 (v1+(1:U))),x6.High⟩:Xa)) X X h6n X X (by rfl) ?_;obtain⟨x7,h7,h⟩:=ob h;have h7n:=Au h7;try simp only[h4,h5,h6,h7,C,E,F,G,H,J]
   refine AS (row:=zB) (y:=(⟨x7.From,x7.Low,(zL .i64 ((zL .i64 (v1+(1:U)))+(1:U)))⟩:Xa)) X X h7n X X (by rfl) ?_;try simp only[h4,h5,h6,h7,C,E,F,G,H,J]
   refine ih h ?_ (by kernel_rfl);try simp only[h4,h5,h6,h7,C,E,F,G,H,J,pL,aM,zA]
  ·try simp only[hσ,h4,C,E,F,G,H,J]
   cases h;exact⟨⟨X,⟨⟩⟩,⟨⟨⟨_,X,X⟩,X⟩,⟨⟩⟩⟩
theorem ox:B1 Z 103=N ((C3 Z 103 TZ).strip,[4],34):=by kernel_rfl
theorem vj:∀(n:W) (v1 v2:U) (v3:P Xa) (r:U × P Xa),FD n v1 v2 v3=N r→r.2.length=v3.length:=by
 intro n
 induction n with
 | zero=>intro _ _ _ r h; cases h
 | succ n ih=>
  intro v1 v2 v3 r h;rw[FD] at h;obtain⟨h4,h⟩|⟨h4,h⟩:=ic h
  ·obtain⟨x5,h5,h⟩:=ob h;obtain⟨x6,h6,h⟩:=ob h;obtain⟨x7,h7,h⟩:=ob h;have hl:=ih _ _ _ _ h;try simp only[zC] at hl
   omega
  ·cases h;all_goals (try dsimp only); first | done | omega | (simp only[zC] at *; omega) | simp_all
theorem Um{a0}{a1}{r}(h:KX a0 a1=N r):r.2.length=a0.length:=by
 unfold KX at h;have hl:=vj _ _ _ _ _ h;try simp only[zC] at hl
 omega
theorem A47{a0}{a1}{r}(h:KX a0 a1=N r):Co Z 103 [.sc (.r 0),.sc (.d (.int .i64 a1))] [(3,Y zB a0)] [(3,Y zB r.2)] (.int .i64 r.1):=by
 unfold KX at h;refine Di (ps:= [(0,0)]) (σ:=⟨[(0,vc (.own 99999999999)),(1,vc (aI a1))],[],[(99999999999,3,Y zB a0)]⟩) A4 ox X X X (AQ Bu) X ?_;refine Cb TZ ?_;have k0:= @B18;exact gc
theorem oy:B1 Z 60=N ((C3 Z 60 h0).strip,[4],14):=by kernel_rfl
theorem S8{a0}{a1}{r}(h:KR a0 a1=N r):r.2.1.length=a0.Tide.Parts.length∧r.2.2.length=a0.Surges.length:=by
 unfold KR at h;obtain⟨r1,h1,h⟩:=ob h;have lrr1:=(Un h1);obtain⟨r2,h2,h⟩:=ob h;have lrr2:=(Um h2);cases h;all_goals (try dsimp only); first | done | omega | (simp only[zC] at *; omega) | simp_all
theorem A41{a0}{a1}{r}(h:KR a0 a1=N r):Co Z 60 [.ag [.d (.int .i64 a0.Tide.Mean),.r 0,.r 1],.sc (.d (.int .i64 a1))] [(3,Y I a0.Tide.Parts),(3,Y zB a0.Surges)] [(3,Y I r.2.1),(3,Y zB r.2.2)] (.int .i64 r.1):=by
 unfold KR at h;refine Di (ps:= [(0,1),(0,2)]) (σ:=⟨[(0,va [aI a0.Tide.Mean,.own 99999999999,.own 100000000000]),(1,vc (aI a1))],[],[(99999999999,3,Y I a0.Tide.Parts),(100000000000,3,Y zB a0.Surges)]⟩) A4 oy X X X (AQ (AQ Bu)) X ?_;refine Cb h0 ?_;intro S hS;refine ev hS ?_;try simp only[C,E,F,G,H,J]
 refine Bg ?_;obtain⟨r1,h1,h⟩:=ob h;try simp only[C,E,F,G,H,J]
 have lrr1:=(Un h1);refine D8 (ids:= [99999999999]) (A48 h1) X X X (AQ Bu) (C9 (Un h1) Dc) ?_;obtain⟨r2,h2,h⟩:=ob h;try simp only[C,E,F,G,H,J]
 have lrr2:=(Um h2);refine D8 (ids:= [100000000000]) (A47 h2) X X X (AQ Bu) (C9 (Um h2) Dc) ?_;try simp only[C,E,F,G,H,J]
 cases h;exact⟨⟨X,⟨⟩⟩,⟨⟨⟨_,X,X⟩,X⟩,⟨⟨⟨_,X,X⟩,X⟩,⟨⟩⟩⟩⟩
def Z5:Hw:=([(14,[0,3],[],[])],[])
def gR:=fun(k_:U→(P UInt8)→Q (P UInt8))=>∀{v2 v3} {zr},k_ v2 v3=N zr→Kh Z 106 Z5 14 [0,3] [] [] ⟨[pI 0 v2,(3,vc (aS v3))],[],[]⟩ (A8 [2] [.sc (.v (.str zr))])
theorem B19{n:W}:gR (IE n):=by
 induction n with
 | zero=>intro _ _ r h; cases h
 | succ n ih=>
  intro v2 v3 r h σ hσ S hS;refine ev hS ?_;rw[IE] at h;refine AE (Ax ?_);obtain⟨h4,h⟩|⟨h4,h⟩:=ic h
  ·try simp only[hσ,h4,C,E,F,G,H,J]
   refine Bf (es:=Y r8 ([(IntKind.u8.wrap (zL .i64 ((48:U)+(zL .i64 (Int.tmod v2 (10:U))))))]:P U)) ?_;obtain⟨h5,h⟩:=B3 h;try simp only[h4,h5,C,E,F,G,H,J]
   refine ih h ?_ (by kernel_rfl);try simp only[h4,h5,C,E,F,G,H,J,pL,aM,zA]
  ·obtain⟨h6,h⟩:=B3 h;try simp only[hσ,h4,h6,C,E,F,G,H,J]
   cases h;exact t0
instance dF:Ct 106 (∀{a0} {r},KY a0=N r→FC Z 106 [.sc (.int .i64 a0)] [.sc (.v (.str r))]):=by
 refine⟨fun h=> ?_⟩;unfold KY at h;refine A5 A4 Z5 [2] 20 ?_;have k0:= @B19;exact gc
def U0:Hw:=([(6,[0,1,5],[],[99999999999])],[])
def gN:=fun(k_:U→U→(P X7)→Q (U × P X7))=>∀{v1 v2 v3} {zr},k_ v1 v2 v3=N zr→Kh Z 104 U0 6 [0,1,5] [] [99999999999] ⟨[pW 0 99999999999,pI 1 v1,pI 5 v2],[],[(99999999999,2,Y X7.row v3)]⟩ (E1 [4] (.int .i64 zr.1) [(2,Y X7.row zr.2)] [(0,0)])
theorem B2a{n:W}:gN (Fz n):=by
 induction n with
 | zero=>intro _ _ _ r h; cases h
 | succ n ih=>
  intro v1 v2 v3 r h σ hσ S hS;refine ev hS ?_;rw[Fz] at h;refine AE (Ax ?_);obtain⟨h4,h⟩|⟨h4,h⟩:=ic h
  ·obtain⟨r5,h5,h⟩:=ob h;try simp only[hσ,h4,C,E,F,G,H,J]
   refine AA (Ae dF h5) ?_;obtain⟨x6,h6,h⟩:=ob h;have h6n:=Au h6;try simp only[h4,h6,C,E,F,G,H,J]
   refine AS (row:=X7.row) (y:=(⟨r5,x6.Wait⟩:X7)) X X h6n X X (by rfl) ?_;obtain⟨x7,h7,h⟩:=ob h;have h7n:=Au h7;try simp only[h4,h6,h7,C,E,F,G,H,J]
   refine AS (row:=X7.row) (y:=(⟨x7.Name,((zL .i64 (Int.tmod (zL .i64 (v1+(1:U))) (3:U)))==(0:U))⟩:X7)) X X h7n X X (by rfl) ?_;try simp only[h4,h6,h7,C,E,F,G,H,J]
   refine ih h ?_ (by kernel_rfl);try simp only[h4,h6,h7,C,E,F,G,H,J,pL,aM,zA]
  ·try simp only[hσ,h4,C,E,F,G,H,J]
   cases h;exact⟨⟨X,⟨⟩⟩,⟨⟨⟨_,X,X⟩,X⟩,⟨⟩⟩⟩
theorem oz:B1 Z 104=N ((C3 Z 104 U0).strip,[4],30):=by kernel_rfl
theorem vf:∀(n:W) (v1 v2:U) (v3:P X7) (r:U × P X7),Fz n v1 v2 v3=N r→r.2.length=v3.length:=by
 intro n
 induction n with
 | zero=>intro _ _ _ r h; cases h
 | succ n ih=>
  intro v1 v2 v3 r h;rw[Fz] at h;obtain⟨h4,h⟩|⟨h4,h⟩:=ic h
  ·obtain⟨r5,h5,h⟩:=ob h;obtain⟨x6,h6,h⟩:=ob h;obtain⟨x7,h7,h⟩:=ob h;have hl:=ih _ _ _ _ h;try simp only[zC] at hl
   omega
  ·cases h;all_goals (try dsimp only); first | done | omega | (simp only[zC] at *; omega) | simp_all
theorem Uj{a0}{a1}{r}(h:KU a0 a1=N r):r.2.length=a0.length:=by
 unfold KU at h;have hl:=vf _ _ _ _ _ h;try simp only[zC] at hl
 omega
theorem A44{a0}{a1}{r}(h:KU a0 a1=N r):Co Z 104 [.sc (.r 0),.sc (.d (.int .i64 a1))] [(2,Y X7.row a0)] [(2,Y X7.row r.2)] (.int .i64 r.1):=by
 unfold KU at h;refine Di (ps:= [(0,0)]) (σ:=⟨[(0,vc (.own 99999999999)),(1,vc (aI a1))],[],[(99999999999,2,Y X7.row a0)]⟩) A4 oz X X X (AQ Bu) X ?_;refine Cb U0 ?_;have k0:= @B2a;exact gc
def U1:Hw:=([(6,[0,1,5],[],[99999999999])],[])
def gO:=fun(k_:U→U→(P X2)→Q (U × P X2))=>∀{v1 v2 v3} {zr},k_ v1 v2 v3=N zr→Kh Z 105 U1 6 [0,1,5] [] [99999999999] ⟨[pW 0 99999999999,pI 1 v1,pI 5 v2],[],[(99999999999,5,Y X2.row v3)]⟩ (E1 [4] (.int .i64 zr.1) [(5,Y X2.row zr.2)] [(0,0)])
theorem B2b{n:W}:gO (FA n):=by
 induction n with
 | zero=>intro _ _ _ r h; cases h
 | succ n ih=>
  intro v1 v2 v3 r h σ hσ S hS;refine ev hS ?_;rw[FA] at h;refine AE (Ax ?_);obtain⟨h4,h⟩|⟨h4,h⟩:=ic h
  ·obtain⟨x5,h5,h⟩:=ob h;have h5n:=Au h5;try simp only[hσ,h4,h5,C,E,F,G,H,J]
   refine AS (row:=X2.row) (y:=(⟨v1,x5.B,x5.Depth,x5.Minutes,x5.Meet⟩:X2)) X X h5n X X (by rfl) ?_;obtain⟨x6,h6,h⟩:=ob h;have h6n:=Au h6;try simp only[h4,h5,h6,C,E,F,G,H,J]
   refine AS (row:=X2.row) (y:=(⟨x6.A,(zL .i64 (v1+(1:U))),x6.Depth,x6.Minutes,x6.Meet⟩:X2)) X X h6n X X (by rfl) ?_;obtain⟨x7,h7,h⟩:=ob h;have h7n:=Au h7;try simp only[h4,h5,h6,h7,C,E,F,G,H,J]
   refine AS (row:=X2.row) (y:=(⟨x7.A,x7.B,(zL .i64 ((zL .i64 (v1+(1:U)))+(1:U))),x7.Minutes,x7.Meet⟩:X2)) X X h7n X X (by rfl) ?_;obtain⟨x8,h8,h⟩:=ob h;have h8n:=Au h8;try simp only[h4,h5,h6,h7,h8,C,E,F,G,H,J]
   refine AS (row:=X2.row) (y:=(⟨x8.A,x8.B,x8.Depth,(zL .i64 ((zL .i64 ((zL .i64 (v1+(1:U)))+(1:U)))+(1:U))),x8.Meet⟩:X2)) X X h8n X X (by rfl) ?_;obtain⟨x9,h9,h⟩:=ob h;have h9n:=Au h9;try simp only[h4,h5,h6,h7,h8,h9,C,E,F,G,H,J]
   refine AS (row:=X2.row) (y:=(⟨x9.A,x9.B,x9.Depth,x9.Minutes,((zL .i64 (Int.tmod (zL .i64 ((zL .i64 ((zL .i64 ((zL .i64 (v1+(1:U)))+(1:U)))+(1:U)))+(1:U))) (3:U)))==(0:U))⟩:X2)) X X h9n X X (by rfl) ?_;try simp only[h4,h5,h6,h7,h8,h9,C,E,F,G,H,J]
   refine ih h ?_ (by kernel_rfl);try simp only[h4,h5,h6,h7,h8,h9,C,E,F,G,H,J,pL,aM,zA]
  ·try simp only[hσ,h4,C,E,F,G,H,J]
   cases h;exact⟨⟨X,⟨⟩⟩,⟨⟨⟨_,X,X⟩,X⟩,⟨⟩⟩⟩
theorem pA:B1 Z 105=N ((C3 Z 105 U1).strip,[4],50):=by kernel_rfl
theorem vg:∀(n:W) (v1 v2:U) (v3:P X2) (r:U × P X2),FA n v1 v2 v3=N r→r.2.length=v3.length:=by
 intro n
 induction n with
 | zero=>intro _ _ _ r h; cases h
 | succ n ih=>
  intro v1 v2 v3 r h;rw[FA] at h;obtain⟨h4,h⟩|⟨h4,h⟩:=ic h
  ·obtain⟨x5,h5,h⟩:=ob h;obtain⟨x6,h6,h⟩:=ob h;obtain⟨x7,h7,h⟩:=ob h;obtain⟨x8,h8,h⟩:=ob h;obtain⟨x9,h9,h⟩:=ob h;have hl:=ih _ _ _ _ h;try simp only[zC] at hl
   omega
  ·cases h;all_goals (try dsimp only); first | done | omega | (simp only[zC] at *; omega) | simp_all
theorem Uk{a0}{a1}{r}(h:KV a0 a1=N r):r.2.length=a0.length:=by
 unfold KV at h;have hl:=vg _ _ _ _ _ h;try simp only[zC] at hl
 omega
theorem A45{a0}{a1}{r}(h:KV a0 a1=N r):Co Z 105 [.sc (.r 0),.sc (.d (.int .i64 a1))] [(5,Y X2.row a0)] [(5,Y X2.row r.2)] (.int .i64 r.1):=by
 unfold KV at h;refine Di (ps:= [(0,0)]) (σ:=⟨[(0,vc (.own 99999999999)),(1,vc (aI a1))],[],[(99999999999,5,Y X2.row a0)]⟩) A4 pA X X X (AQ Bu) X ?_;refine Cb U1 ?_;have k0:= @B2b;exact gc
theorem pC:B1 Z 61=N ((C3 Z 61 h0).strip,[4],14):=by kernel_rfl
theorem S7{a0}{a1}{r}(h:KO a0 a1=N r):r.2.1.length=a0.Points.length∧r.2.2.length=a0.Segments.length:=by
 unfold KO at h;obtain⟨r1,h1,h⟩:=ob h;have lrr1:=(Uj h1);obtain⟨r2,h2,h⟩:=ob h;have lrr2:=(Uk h2);cases h;all_goals (try dsimp only); first | done | omega | (simp only[zC] at *; omega) | simp_all
theorem A4y{a0}{a1}{r}(h:KO a0 a1=N r):Co Z 61 [.ag [.r 0,.r 1],.sc (.d (.int .i64 a1))] [(2,Y X7.row a0.Points),(5,Y X2.row a0.Segments)] [(2,Y X7.row r.2.1),(5,Y X2.row r.2.2)] (.int .i64 r.1):=by
 unfold KO at h;refine Di (ps:= [(0,0),(0,1)]) (σ:=⟨[(0,va [.own 99999999999,.own 100000000000]),(1,vc (aI a1))],[],[(99999999999,2,Y X7.row a0.Points),(100000000000,5,Y X2.row a0.Segments)]⟩) A4 pC X X X (AQ (AQ Bu)) X ?_;refine Cb h0 ?_;intro S hS;refine ev hS ?_;try simp only[C,E,F,G,H,J]
 refine Bg ?_;obtain⟨r1,h1,h⟩:=ob h;try simp only[C,E,F,G,H,J]
 have lrr1:=(Uj h1);refine D8 (ids:= [99999999999]) (A44 h1) X X X (AQ Bu) (C9 (Uj h1) Dc) ?_;obtain⟨r2,h2,h⟩:=ob h;try simp only[C,E,F,G,H,J]
 have lrr2:=(Uk h2);refine D8 (ids:= [100000000000]) (A45 h2) X X X (AQ Bu) (C9 (Uk h2) Dc) ?_;try simp only[C,E,F,G,H,J]
 cases h;exact⟨⟨X,⟨⟩⟩,⟨⟨⟨_,X,X⟩,X⟩,⟨⟨⟨_,X,X⟩,X⟩,⟨⟩⟩⟩⟩
def U2:Hw:=([(6,[0,1,5],[],[99999999999])],[])
def gP:=fun(k_:U→U→(P X4)→Q (U × P X4))=>∀{v1 v2 v3} {zr},k_ v1 v2 v3=N zr→Kh Z 62 U2 6 [0,1,5] [] [99999999999] ⟨[pW 0 99999999999,pI 1 v1,pI 5 v2],[],[(99999999999,6,Y X4.row v3)]⟩ (E1 [4] (.int .i64 zr.1) [(6,Y X4.row zr.2)] [(0,0)])
theorem B2c{n:W}:gP (FB n):=by
 induction n with
 | zero=>intro _ _ _ r h; cases h
 | succ n ih=>
  intro v1 v2 v3 r h σ hσ S hS;refine ev hS ?_;rw[FB] at h;refine AE (Ax ?_);obtain⟨h4,h⟩|⟨h4,h⟩:=ic h
  ·obtain⟨r5,h5,h⟩:=ob h;try simp only[hσ,h4,C,E,F,G,H,J]
   refine AA (Ae dF h5) ?_;obtain⟨x6,h6,h⟩:=ob h;have h6n:=Au h6;try simp only[h4,h6,C,E,F,G,H,J]
   refine AS (row:=X4.row) (y:=(⟨r5,x6.Length,x6.Draught,x6.Line,x6.Tugs,x6.Slow⟩:X4)) X X h6n X X (by rfl) ?_;obtain⟨x7,h7,h⟩:=ob h;have h7n:=Au h7;try simp only[h4,h6,h7,C,E,F,G,H,J]
   refine AS (row:=X4.row) (y:=(⟨x7.Name,(zL .i64 (v1+(1:U))),x7.Draught,x7.Line,x7.Tugs,x7.Slow⟩:X4)) X X h7n X X (by rfl) ?_;obtain⟨x8,h8,h⟩:=ob h;have h8n:=Au h8;try simp only[h4,h6,h7,h8,C,E,F,G,H,J]
   refine AS (row:=X4.row) (y:=(⟨x8.Name,x8.Length,(zL .i64 ((zL .i64 (v1+(1:U)))+(1:U))),x8.Line,x8.Tugs,x8.Slow⟩:X4)) X X h8n X X (by rfl) ?_;obtain⟨x9,h9,h⟩:=ob h;have h9n:=Au h9;try simp only[h4,h6,h7,h8,h9,C,E,F,G,H,J]
   refine AS (row:=X4.row) (y:=(⟨x9.Name,x9.Length,x9.Draught,(zL .i64 ((zL .i64 ((zL .i64 (v1+(1:U)))+(1:U)))+(1:U))),x9.Tugs,x9.Slow⟩:X4)) X X h9n X X (by rfl) ?_;obtain⟨x10,h10,h⟩:=ob h;have h10n:=Au h10;try simp only[h4,h6,h7,h8,h9,h10,C,E,F,G,H,J]
   refine AS (row:=X4.row) (y:=(⟨x10.Name,x10.Length,x10.Draught,x10.Line,(zL .i64 ((zL .i64 ((zL .i64 ((zL .i64 (v1+(1:U)))+(1:U)))+(1:U)))+(1:U))),x10.Slow⟩:X4)) X X h10n X X (by rfl) ?_;obtain⟨x11,h11,h⟩:=ob h;have h11n:=Au h11;try simp only[h4,h6,h7,h8,h9,h10,h11,C,E,F,G,H,J]
   refine AS (row:=X4.row) (y:=(⟨x11.Name,x11.Length,x11.Draught,x11.Line,x11.Tugs,((zL .i64 (Int.tmod (zL .i64 ((zL .i64 ((zL .i64 ((zL .i64 ((zL .i64 (v1+(1:U)))+(1:U)))+(1:U)))+(1:U)))+(1:U))) (3:U)))==(0:U))⟩:X4)) X X h11n X X (by rfl) ?_;try simp only[h4,h6,h7,h8,h9,h10,h11,C,E,F,G,H,J]
   refine ih h ?_ (by kernel_rfl);try simp only[h4,h6,h7,h8,h9,h10,h11,C,E,F,G,H,J,pL,aM,zA]
  ·try simp only[hσ,h4,C,E,F,G,H,J]
   cases h;exact⟨⟨X,⟨⟩⟩,⟨⟨⟨_,X,X⟩,X⟩,⟨⟩⟩⟩
theorem pD:B1 Z 62=N ((C3 Z 62 U2).strip,[4],58):=by kernel_rfl
theorem vh:∀(n:W) (v1 v2:U) (v3:P X4) (r:U × P X4),FB n v1 v2 v3=N r→r.2.length=v3.length:=by
 intro n
 induction n with
 | zero=>intro _ _ _ r h; cases h
 | succ n ih=>
  intro v1 v2 v3 r h;rw[FB] at h;obtain⟨h4,h⟩|⟨h4,h⟩:=ic h
  ·obtain⟨r5,h5,h⟩:=ob h;obtain⟨x6,h6,h⟩:=ob h;obtain⟨x7,h7,h⟩:=ob h;obtain⟨x8,h8,h⟩:=ob h;obtain⟨x9,h9,h⟩:=ob h;obtain⟨x10,h10,h⟩:=ob h;obtain⟨x11,h11,h⟩:=ob h;have hl:=ih _ _ _ _ h;try simp only[zC] at hl
   omega
  ·cases h;all_goals (try dsimp only); first | done | omega | (simp only[zC] at *; omega) | simp_all
theorem Ul{a0}{a1}{r}(h:KW a0 a1=N r):r.2.length=a0.length:=by
 unfold KW at h;have hl:=vh _ _ _ _ _ h;try simp only[zC] at hl
 omega
theorem A46{a0}{a1}{r}(h:KW a0 a1=N r):Co Z 62 [.sc (.r 0),.sc (.d (.int .i64 a1))] [(6,Y X4.row a0)] [(6,Y X4.row r.2)] (.int .i64 r.1):=by
 unfold KW at h;refine Di (ps:= [(0,0)]) (σ:=⟨[(0,vc (.own 99999999999)),(1,vc (aI a1))],[],[(99999999999,6,Y X4.row a0)]⟩) A4 pD X X X (AQ Bu) X ?_;refine Cb U2 ?_;have k0:= @B2c;exact gc
def U3:Hw:=([(6,[0,1,5],[],[99999999999])],[])
def gL:=fun(k_:U→U→(P U)→Q (U × P U))=>∀{v1 v2 v3} {zr},k_ v1 v2 v3=N zr→Kh Z 22 U3 6 [0,1,5] [] [99999999999] ⟨[pW 0 99999999999,pI 1 v1,pI 5 v2],[],[(99999999999,1,Y rI v3)]⟩ (E1 [4] (.int .i64 zr.1) [(1,Y rI zr.2)] [(0,0)])
theorem B2d{n:W}:gL (DJ n):=by
 induction n with
 | zero=>intro _ _ _ r h; cases h
 | succ n ih=>
  intro v1 v2 v3 r h σ hσ S hS;refine ev hS ?_;rw[DJ] at h;refine AE (Ax ?_);obtain⟨h4,h⟩|⟨h4,h⟩:=ic h
  ·obtain⟨x5,h5,h⟩:=ob h;have h5n:=Au h5;try simp only[hσ,h4,h5,C,E,F,G,H,J]
   refine AS (row:=rI) (y:=v1) X X h5n X X (by rfl) ?_;try simp only[h4,h5,C,E,F,G,H,J]
   refine ih h ?_ (by kernel_rfl);try simp only[h4,h5,C,E,F,G,H,J,pL,aM,zA]
  ·try simp only[hσ,h4,C,E,F,G,H,J]
   cases h;exact⟨⟨X,⟨⟩⟩,⟨⟨⟨_,X,X⟩,X⟩,⟨⟩⟩⟩
theorem pE:B1 Z 22=N ((C3 Z 22 U3).strip,[4],19):=by kernel_rfl
theorem vd:∀(n:W) (v1 v2:U) (v3:P U) (r:U × P U),DJ n v1 v2 v3=N r→r.2.length=v3.length:=by
 intro n
 induction n with
 | zero=>intro _ _ _ r h; cases h
 | succ n ih=>
  intro v1 v2 v3 r h;rw[DJ] at h;obtain⟨h4,h⟩|⟨h4,h⟩:=ic h
  ·obtain⟨x5,h5,h⟩:=ob h;have hl:=ih _ _ _ _ h;try simp only[zC] at hl
   omega
  ·cases h;all_goals (try dsimp only); first | done | omega | (simp only[zC] at *; omega) | simp_all
theorem Pj{a0}{a1}{r}(h:Fx a0 a1=N r):r.2.length=a0.length:=by
 unfold Fx at h;have hl:=vd _ _ _ _ _ h;try simp only[zC] at hl
 omega
theorem dE{a0}{a1}{r}(h:Fx a0 a1=N r):Co Z 22 [.sc (.r 0),.sc (.d (.int .i64 a1))] [(1,Y rI a0)] [(1,Y rI r.2)] (.int .i64 r.1):=by
 unfold Fx at h;refine Di (ps:= [(0,0)]) (σ:=⟨[(0,vc (.own 99999999999)),(1,vc (aI a1))],[],[(99999999999,1,Y rI a0)]⟩) A4 pE X X X (AQ Bu) X ?_;refine Cb U3 ?_;have k0:= @B2d;exact gc
theorem pF:B1 Z 63=N ((C3 Z 63 h0).strip,[4],10):=by kernel_rfl
theorem Uh{a0}{a1}{r}(h:KQ a0 a1=N r):r.2.length=a0.Moves.length:=by
 unfold KQ at h;obtain⟨r1,h1,h⟩:=ob h;have lrr1:=(Pj h1);cases h;all_goals (try dsimp only); first | done | omega | (simp only[zC] at *; omega) | simp_all
theorem A40{a0}{a1}{r}(h:KQ a0 a1=N r):Co Z 63 [.ag [.d (.int .i64 a0.Tugs),.d (.int .i64 a0.Pilots),.d (.int .i64 a0.Rest),.r 0],.sc (.d (.int .i64 a1))] [(1,Y rI a0.Moves)] [(1,Y rI r.2)] (.int .i64 r.1):=by
 unfold KQ at h;refine Di (ps:= [(0,3)]) (σ:=⟨[(0,va [aI a0.Tugs,aI a0.Pilots,aI a0.Rest,.own 99999999999]),(1,vc (aI a1))],[],[(99999999999,1,Y rI a0.Moves)]⟩) A4 pF X X X (AQ Bu) X ?_;refine Cb h0 ?_;intro S hS;refine ev hS ?_;try simp only[C,E,F,G,H,J]
 refine Bg ?_;obtain⟨r1,h1,h⟩:=ob h;try simp only[C,E,F,G,H,J]
 have lrr1:=(Pj h1);refine D8 (ids:= [99999999999]) (dE h1) X X X (AQ Bu) (C9 (Pj h1) Dc) ?_;try simp only[C,E,F,G,H,J]
 cases h;exact⟨⟨X,⟨⟩⟩,⟨⟨⟨_,X,X⟩,X⟩,⟨⟩⟩⟩
end Go.Vi
