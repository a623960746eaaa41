/-
Walks. No condition.
-/
import Derived.Test.YtfmhammmkkbonaaGreatDoorCNf
import Derived.Test.YtfmhammmkkbonaaGreatDoorChecked
import Derived.Test.YtfmhammmkkbonaaGreatDoorCSh
import Derived.Test.YtfmhammmkkbonaaGreatDoorCVi43
import Derived.KernelRfl
import Derived.Test.YtfmhammmkkbonaaGreatDoorCWConsoleb
namespace Go.Vi
open Go.Proofs
set_option linter.all false
set_option maxRecDepth 20000
set_option maxHeartbeats 2000000
open Nat renaming reduceBEq → C, reduceMul → E, reduceAdd → F, reduceDiv → G, le_of_ble_eq_true → uf
open Int renaming reduceBEq → H
attribute [local irreducible] go B4 K9
open List renaming map → Z, map_nil → zA, all_eq_true → zE, length_map → zF, cons_append → zG, nil_append → zH
open Tryz renaming prog → I
open Xf renaming row → zB
open Xc renaming row → zC
open Xa renaming row → zD
open Bool renaming true → T, false → L
open Option renaming some → N, none → O
open _root_ renaming List → P, Option → Q, Int → U, Bool → V, Nat → W, UInt8 → X, rfl → Y
def UX:Hw:=([(14,[1,12,13,14],[],[])],[])
def bP:=fun a1 (k_:U→Q V)=>∀{v2} {zr},k_ v2=N zr→Kh I 154 UX 14 [1,12,13,14] [] [] ⟨[pL 1 rI a1,pL 12 rI a1,pI 13 (a1.length:U),pI 14 v2],[],[]⟩ (A6 [4] [.sc (.v (.bool zr))])
theorem A28{a1}{n:W}:bP a1 (Hx a1 n):=by
 induction n with
 | zero=>intro _ r h; cases h
 | succ n ih=>
  intro v2 r h σ hσ;rw[Hx] at h;exact gc
instance A63:Ct 154 (∀{a0} {a1} {r},Lg a0 a1=N r→FC I 154 [.sc (.sl (Z X3.row a0)),.sc (.sl (Z rI a1))] [.sc (.v (.bool r))]):=by
 refine⟨fun h=> ?_⟩;unfold Lg at h;refine A2 mixed UX [4] 33 ?_;have k0:= @A28;exact gc
def Ra:Hw:=([(8,[0,3,6,7,8],[],[]),(21,[0,3,4,6,7,8,24],[],[])],[])
def aX:=fun a0 v1 v2 (k_:V→Q U)=>∀{v7} {zr},k_ v7=N zr→Kh I 189 Ra 21 [0,3,4,6,7,8,24] [] [] ⟨[pL 0 X0.row a0,pI 3 v1,pI 4 v2,pL 6 X0.row a0,pI 7 (a0.length:U),pI 8 v2,(24,vc (aB v7))],[],[]⟩ (A6 [2] [.sc (.v (.int .i64 zr))])
def SZ:=fun a0 (k_:U→U→Q U)=>∀{v1 v2} {zr},k_ v1 v2=N zr→Kh I 189 Ra 8 [0,3,6,7,8] [] [] ⟨[pL 0 X0.row a0,pI 3 v1,pL 6 X0.row a0,pI 7 (a0.length:U),pI 8 v2],[],[]⟩ (A6 [2] [.sc (.v (.int .i64 zr))])
theorem ZA{a0 v1 v2}{Mz}(pN:SZ a0 Mz):aX a0 v1 v2 (Jd a0 v1 v2 Mz):=by
 intro v7 r h σ hσ;unfold Jd at h;have k0:= @pN;exact gc
theorem A29{a0}{n:W}:SZ a0 (Fb a0 n):=by
 induction n with
 | zero=>intro _ _ r h; cases h
 | succ n ih=>
  intro v1 v2 r h σ hσ S hS;refine ev hS ?_;rw[Fb] at h;refine AY (Aw ?_);obtain⟨h3,h⟩|⟨h3,h⟩:=ic h
  ·obtain⟨x4,h4,h⟩:=ob h;try simp only[hσ,h3,h4,C,E,F,G,H,J]
   refine B0 ?_;try simp only[h3,h4,C,E,F,G,H,J]
   refine Ai ?_;obtain⟨h5,h⟩|⟨h5,h⟩:=ic h
   ·try simp only[h3,h4,h5,C,E,F,G,H,J]
    refine ZA ih h ?_ (by kernel_rfl);try simp only[h3,h4,h5,C,E,F,G,H,J,pL,aM,zA]
   ·obtain⟨x6,h6,h⟩:=ob h;try simp only[h3,h4,h5,h6,C,E,F,G,H,J]
    refine ZA ih h ?_ (by kernel_rfl);try simp only[h3,h4,h5,h6,C,E,F,G,H,J,pL,aM,zA]
  ·try simp only[hσ,h3,C,E,F,G,H,J]
   cases h;exact t0
instance xn:Ct 189 (∀{a0} {r},NR a0=N r→FC I 189 [.sc (.sl (Z X0.row a0))] [.sc (.v (.int .i64 r))]):=by
 refine⟨fun h=> ?_⟩;unfold NR at h;refine A2 mixed Ra [2] 28 ?_;have k0:= @A29;exact gc
instance ye:Ct 155 (∀{a0} {a1} {r},L6 a0 a1=N r→FC I 155 [.ag (X1.row a0),.ag (X3.row a1)] [.sc (.v (.int .i64 r))]):=by
 refine⟨fun{a0} {a1} {r} h=> ?_⟩;unfold L6 at h;refine A2 mixed h0 [4] 18 ?_;intro S hS;refine ev hS ?_;simp only[C,E,F,G,H,J];try simp only[C,E,F,G,H,J]
 refine BZ ?_;try simp only[C,E,F,G,H,J]
 refine BZ ?_;obtain⟨r1,h1,h⟩:=ob h;try simp only[C,E,F,G,H,J]
 refine Ao (A8 Sy h1) ?_;obtain⟨h2,h⟩|⟨h2,h⟩:=ic h
 ·try simp only[h2,C,E,F,G,H,J]
  cases h;exact t0
 ·obtain⟨r3,h3,h⟩:=ob h;try simp only[h2,C,E,F,G,H,J]
  refine Ec (A8 xn h3) Y (Cm Y) Y (uf Y) ?_;obtain⟨x4,h4,h⟩:=ob h;have h4n:=Am h4;try simp only[h2,h4,h4n,C,E,F,G,H,J]
  cases h;exact t0
def OP:Hw:=([(8,[3,5,7,15,16,17],[3,5],[960]),(22,[3,5,7,9,15,16,17,23,24,25],[3,5,9],[960,1472]),(37,[3,5,7,9,12,15,16,17,23,24,25,52],[3,5,9],[960,1472])],[])
def bT:=fun v7 r1 v3 r6 v8 (a0:X1) (a2:X3) (x5:X0) (k_:U→V→Q U)=>∀{v15 v16} {zr},k_ v15 v16=N zr→Kh I 156 OP 37 [3,5,7,9,12,15,16,17,23,24,25,52] [3,5,9] [960,1472] ⟨[pB 3,pB 5,pI 7 v7,pB 9,pI 12 v15,pW 15 960,pI 16 (r1.length:U),pI 17 v3,pW 23 1472,pI 24 (r6.length:U),pI 25 v8,(52,vc (aB v16))],[(3,(dm a0.row)),(5,(dm a2.row)),(9,(dm x5.row))],[(960,4,Z X0.row r1),(1472,4,Z X0.row r6)]⟩ (A6 [6] [.sc (.v (.int .i64 zr))])
def T2:=fun r1 v3 r6 (a0:X1) (a2:X3) (x5:X0) (k_:U→U→Q U)=>∀{v7 v8} {zr},k_ v7 v8=N zr→Kh I 156 OP 22 [3,5,7,9,15,16,17,23,24,25] [3,5,9] [960,1472] ⟨[pB 3,pB 5,pI 7 v7,pB 9,pW 15 960,pI 16 (r1.length:U),pI 17 v3,pW 23 1472,pI 24 (r6.length:U),pI 25 v8],[(3,(dm a0.row)),(5,(dm a2.row)),(9,(dm x5.row))],[(960,4,Z X0.row r1),(1472,4,Z X0.row r6)]⟩ (A6 [6] [.sc (.v (.int .i64 zr))])
def T1:=fun r1 (a0:X1) (a2:X3) (k_:U→U→Q U)=>∀{v2 v3} {zr},k_ v2 v3=N zr→Kh I 156 OP 8 [3,5,7,15,16,17] [3,5] [960] ⟨[pB 3,pB 5,pI 7 v2,pW 15 960,pI 16 (r1.length:U),pI 17 v3],[(3,(dm a0.row)),(5,(dm a2.row))],[(960,4,Z X0.row r1)]⟩ (A6 [6] [.sc (.v (.int .i64 zr))])
theorem SI{v7 r1 v3 r6 v8 a0 a2 x5}{MA}(pQ:T2 r1 v3 r6 a0 a2 x5 MA):bT v7 r1 v3 r6 v8 a0 a2 x5 (Hz v7 r1 v3 r6 v8 a0 a2 x5 MA):=by
 intro v15 v16 r h σ hσ;unfold Hz at h;have k0:= @pQ;exact gc
theorem A3a{r1 v3 r6 a0 a2 x5}{Ii}(pP:T1 r1 a0 a2 Ii){n:W}:T2 r1 v3 r6 a0 a2 x5 (Ey r1 v3 r6 a0 a2 x5 Ii n):=by
 induction n with
 | zero=>intro _ _ r h; cases h
 | succ n ih=>
  intro v7 v8 r h σ hσ S hS;refine ev hS ?_;rw[Ey] at h;refine AY (Aw ?_);obtain⟨h9,h⟩|⟨h9,h⟩:=ic h
  ·obtain⟨x10,h10,h⟩:=ob h;have h10n:=Am h10;try simp only[hσ,h9,h10,h10n,C,E,F,G,H,J]
   refine B0 ?_;obtain⟨h11,h⟩|⟨h11,h⟩:=ic h
   ·obtain⟨r12,h12,h⟩:=ob h;try simp only[h9,h10,h10n,h11,C,E,F,G,H,J]
    refine Ao (A8 SA h12) ?_;try simp only[h9,h10,h10n,h11,C,E,F,G,H,J]
    refine SI ih h ?_ (by kernel_rfl);try simp only[h9,h10,h10n,h11,C,E,F,G,H,J,pL,aM,zA]
   ·obtain⟨h13,h⟩|⟨h13,h⟩:=ic h
    ·obtain⟨r14,h14,h⟩:=ob h;try simp only[h9,h10,h10n,h11,h13,C,E,F,G,H,J]
     refine Ao (A8 SA h14) ?_;try simp only[h9,h10,h10n,h11,h13,C,E,F,G,H,J]
     refine SI ih h ?_ (by kernel_rfl);try simp only[h9,h10,h10n,h11,h13,C,E,F,G,H,J,pL,aM,zA]
    ·try simp only[h9,h10,h10n,h11,h13,C,E,F,G,H,J]
     refine SI ih h ?_ (by kernel_rfl);try simp only[h9,h10,h10n,h11,h13,C,E,F,G,H,J,pL,aM,zA]
  ·try simp only[hσ,h9,C,E,F,G,H,J]
   refine pP h ?_ (by kernel_rfl);try simp only[h9,C,E,F,G,H,J,pL,aM,zA]
theorem A3b{r1 a0 a2}{n:W}:T1 r1 a0 a2 (Fh r1 a0 a2 n):=by
 induction n with
 | zero=>intro _ _ r h; cases h
 | succ n ih=>
  intro v2 v3 r h σ hσ S hS;refine ev hS ?_;rw[Fh] at h;refine AY (Aw ?_);obtain⟨h4,h⟩|⟨h4,h⟩:=ic h
  ·obtain⟨x5,h5,h⟩:=ob h;have h5n:=Am h5;try simp only[hσ,h4,h5,h5n,C,E,F,G,H,J]
   refine B0 ?_;obtain⟨r6,h6,h⟩:=ob h;try simp only[h4,h5,h5n,C,E,F,G,H,J]
   refine Ao (A8 Sy h6) ?_;try simp only[h4,h5,h5n,C,E,F,G,H,J]
   refine A3a ih h ?_ (by kernel_rfl);try simp only[h4,h5,h5n,C,E,F,G,H,J,pL,aM,zA]
  ·try simp only[hσ,h4,C,E,F,G,H,J]
   cases h;exact t0
instance yl:Ct 156 (∀{a0} {a1} {a2} {r},Ll a0 a1 a2=N r→FC I 156 [.ag (X1.row a0),.ag (X3.row a1),.ag (X3.row a2)] [.sc (.v (.int .i64 r))]):=by
 refine⟨fun h=> ?_⟩;unfold Ll at h;refine A2 mixed OP [6] 57 ?_;have k0:= @A3b;exact gc
def OQ:Hw:=([(5,[1,2,3,21],[3],[]),(16,[1,3,8,22,23,24],[3],[]),(40,[1,3,8,11,22,23,24],[3],[])],[])
def aP:=fun a1 v6 a2 v7 (a0:X1) (k_:U→Q (U × V))=>∀{v17} {zr},k_ v17=N zr→Kh I 122 OQ 40 [1,3,8,11,22,23,24] [3] [] ⟨[pL 1 X3.row a1,pB 3,pI 8 v6,pI 11 v17,pL 22 rI a2,pI 23 (a2.length:U),pI 24 v7],[(3,(dm a0.row))],[]⟩ (A6 [6,7] [.sc (.v (.int .i64 zr.1)),.sc (.v (.bool zr.2))])
def SU:=fun a1 a2 (a0:X1) (k_:U→U→Q (U × V))=>∀{v6 v7} {zr},k_ v6 v7=N zr→Kh I 122 OQ 16 [1,3,8,22,23,24] [3] [] ⟨[pL 1 X3.row a1,pB 3,pI 8 v6,pL 22 rI a2,pI 23 (a2.length:U),pI 24 v7],[(3,(dm a0.row))],[]⟩ (A6 [6,7] [.sc (.v (.int .i64 zr.1)),.sc (.v (.bool zr.2))])
def aO:=fun a1 a2 (a0:X1) (k_:V→Q (U × V))=>∀{v4} {zr},k_ v4=N zr→Kh I 122 OQ 5 [1,2,3,21] [3] [] ⟨[pL 1 X3.row a1,pL 2 rI a2,pB 3,(21,vc (aB v4))],[(3,(dm a0.row))],[]⟩ (A6 [6,7] [.sc (.v (.int .i64 zr.1)),.sc (.v (.bool zr.2))])
theorem SJ{a1 v6 a2 v7 a0}{P9}(pH:SU a1 a2 a0 P9):aP a1 v6 a2 v7 a0 (Ha a1 v6 a2 v7 a0 P9):=by
 intro v17 r h σ hσ;unfold Ha at h;have k0:= @pH;exact gc
theorem A3c{a1 a2 a0}{n:W}:SU a1 a2 a0 (Et a1 a2 a0 n):=by
 induction n with
 | zero=>intro _ _ r h; cases h
 | succ n ih=>
  intro v6 v7 r h σ hσ S hS;refine ev hS ?_;rw[Et] at h;refine AY (Aw ?_);obtain⟨h8,h⟩|⟨h8,h⟩:=ic h
  ·obtain⟨x9,h9,h⟩:=ob h;obtain⟨h10,h⟩|⟨h10,h⟩:=ic h
   ·try simp only[hσ,h8,h9,h10,C,E,F,G,H,J]
    refine Ai ?_;obtain⟨x11,h11,h⟩:=ob h;obtain⟨r12,h12,h⟩:=ob h;try simp only[h8,h9,h10,h11,C,E,F,G,H,J]
    refine AX (A8 ye h12) ?_;try simp only[h8,h9,h10,h11,C,E,F,G,H,J]
    refine SJ ih h ?_ (by kernel_rfl);try simp only[h8,h9,h10,h11,C,E,F,G,H,J,pL,aM,zA]
   ·obtain⟨h13,h⟩|⟨h13,h⟩:=ic h
    ·try simp only[hσ,h8,h9,h10,h13,C,E,F,G,H,J]
     refine Ai ?_;obtain⟨x14,h14,h⟩:=ob h;obtain⟨x15,h15,h⟩:=ob h;obtain⟨r16,h16,h⟩:=ob h;try simp only[h8,h9,h10,h13,h14,h15,C,E,F,G,H,J]
     refine AX (A8 yl h16) ?_;try simp only[h8,h9,h10,h13,h14,h15,C,E,F,G,H,J]
     refine SJ ih h ?_ (by kernel_rfl);try simp only[h8,h9,h10,h13,h14,h15,C,E,F,G,H,J,pL,aM,zA]
    ·try simp only[hσ,h8,h9,h10,h13,C,E,F,G,H,J]
     refine SJ ih h ?_ (by kernel_rfl);try simp only[h8,h9,h10,h13,C,E,F,G,H,J,pL,aM,zA]
  ·try simp only[hσ,h8,C,E,F,G,H,J]
   cases h;trivial
theorem A3d{a1 a2 a0}:aO a1 a2 a0 (KZ a1 a2 a0):=by
 intro v4 r h σ hσ;unfold KZ at h;have k0:= @A3c;exact gc
instance A6g:Ct 122 (∀{a0} {a1} {a2} {r},KY a0 a1 a2=N r→FC I 122 [.ag (X1.row a0),.sc (.sl (Z X3.row a1)),.sc (.sl (Z rI a2))] [.sc (.v (.int .i64 r.1)),.sc (.v (.bool r.2))]):=by
 refine⟨fun h=> ?_⟩;unfold KY at h;refine A2 mixed OQ [6,7] 60 ?_;have k0:= @A3d;exact gc
abbrev CM(a0:X1)(a1:P X3)(f:V)(k:U)(b:P U):P (P D):= [X1.row a0,[.sl (Z X3.row a1)],[.bool f],[.int .i64 k],[.sl (Z rI b)]]
abbrev KC(a0:X1)(a1:P X3)(f:V)(k:U)(b:P U):P (W × P AC):= [(99999999999,Z AC.dat (X1.row a0)),(100000000000,[AC.dat (.sl (Z X3.row a1))]),(100000000001,[AC.dat (.bool f)]),(100000000002,[AC.dat (.int .i64 k)]),(100000000003,[AC.dat (.sl (Z rI b))])]
theorem ze{a0 a1 m f k b r}(h:Of a0 a1 m f k b=N r):FCw I 121 [.r,.p 0,.p 1,.p 2,.p 3,.p 4] 1 (CM a0 a1 f k b) (Z rI m) (CM a0 a1 r.1 r.2.1 r.2.2) (Z rI m):=by
 unfold Of at h;refine SP (σ:=⟨[(0,vc (.own 99999999999)),(1,vc (.pb 99999999999 0)),(2,vc (.pb 100000000000 0)),(3,vc (.pb 100000000001 0)),(4,vc (.pb 100000000002 0)),(5,vc (.pb 100000000003 0))],KC a0 a1 f k b,[(99999999999,1,Z rI m)]⟩) (c:=Bq I 121 ([],[(5,2,(O,.frz 1728))])) (nt:=29) mixed (by kernel_rfl) Y Y ?_;refine Bx ([],[(5,2,(O,.frz 1728))]) ?_;exact gc
def KD:Hw:=([(4,[0,1,4],[99999999999,100000000000,100000000001,100000000002,100000000003],[99999999999]),(13,[0,1,4],[99999999999,100000000000,100000000001,100000000002,100000000003],[99999999999]),(24,[0,1,4,5],[99999999999,100000000000,100000000001,100000000002,100000000003],[99999999999])],[])
def cB:=fun a0 a1 m f k b (k_:U→Q (P U × V × U × P U))=>∀{v zr},k_ v=N zr→Kh I 120 KD 4 [0,1,4] [99999999999,100000000000,100000000001,100000000002,100000000003] [99999999999] ⟨[(0,vc (.own 99999999999)),(1,vc (.clo 121 [99999999999,100000000000,100000000001,100000000002,100000000003])),pI 4 v],KC a0 a1 f k b,[(99999999999,1,Z rI m)]⟩ (Kx 1 (CM a0 a1 zr.2.1 zr.2.2.1 zr.2.2.2) (Z rI zr.1))
def cC:=fun a0 a1 m f k b (k_:U→Q (P U × V × U × P U))=>∀{v zr},k_ v=N zr→Kh I 120 KD 13 [0,1,4] [99999999999,100000000000,100000000001,100000000002,100000000003] [99999999999] ⟨[(0,vc (.own 99999999999)),(1,vc (.clo 121 [99999999999,100000000000,100000000001,100000000002,100000000003])),pI 4 v],KC a0 a1 f k b,[(99999999999,1,Z rI m)]⟩ (Kx 1 (CM a0 a1 zr.2.1 zr.2.2.1 zr.2.2.2) (Z rI zr.1))
def cD:=fun a0 a1 i (k_:U→P U→V→U→P U→Q (P U × V × U × P U))=>∀{v m f k b zr},k_ v m f k b=N zr→Kh I 120 KD 24 [0,1,4,5] [99999999999,100000000000,100000000001,100000000002,100000000003] [99999999999] ⟨[(0,vc (.own 99999999999)),(1,vc (.clo 121 [99999999999,100000000000,100000000001,100000000002,100000000003])),pI 4 i,pI 5 v],KC a0 a1 f k b,[(99999999999,1,Z rI m)]⟩ (Kx 1 (CM a0 a1 zr.2.1 zr.2.2.1 zr.2.2.2) (Z rI zr.1))
theorem ra{rec_:P U→V→U→P U→Q (P U × V × U × P U)}(l_rec:∀{m f k b r},rec_ m f k b=N r→r.1.length=m.length){i:U}:∀{n v m f k b r},EB rec_ i n v m f k b=N r→r.1.length=m.length:=by
 intro n
 induction n with
 | zero=>intro _ _ _ _ _ _ h; cases h
 | succ n ih=>
  intro v m f k b r h;rw[EB] at h;obtain⟨_,h⟩|⟨_,h⟩:=ic h
  ·obtain⟨x1,h1,h⟩:=ob h;obtain⟨_,h⟩|⟨_,h⟩:=ic h
   ·obtain⟨x2,h2,h⟩:=ob h;obtain⟨x3,h3,h⟩:=ob h;obtain⟨r4,h4,h⟩:=ob h;obtain⟨x5,h5,h⟩:=ob h;obtain⟨x6,h6,h⟩:=ob h;have:=l_rec h4;have:=ih h;simp only[List.length_set] at *
    omega
   ·exact ih h
  ·cases h; rfl
theorem Wa{rec_:P U→V→U→P U→Q (P U × V × U × P U)}(l_rec:∀{m f k b r},rec_ m f k b=N r→r.1.length=m.length){a0 a1 m f k b v r}(h:Fm rec_ a0 a1 m f k b v=N r):r.1.length=m.length:=by
 unfold Fm at h;obtain⟨_,h⟩|⟨_,h⟩:=ic h
 ·obtain⟨r1,h1,h⟩:=ob h;cases h; rfl
 ·exact ra l_rec h
theorem rZ{rec_:P U→V→U→P U→Q (P U × V × U × P U)}(l_rec:∀{m f k b r},rec_ m f k b=N r→r.1.length=m.length){a0 a1 m f k b}:∀{n v r},EA rec_ a0 a1 m f k b n v=N r→r.1.length=m.length:=by
 intro n
 induction n with
 | zero=>intro _ _ h; cases h
 | succ n ih=>
  intro v r h;rw[EA] at h;obtain⟨_,h⟩|⟨_,h⟩:=ic h
  ·obtain⟨x1,h1,h⟩:=ob h;obtain⟨_,h⟩|⟨_,h⟩:=ic h
   ·exact ih h
   ·exact Wa l_rec h
  ·exact Wa l_rec h
theorem Wb{a0 a1}:∀{n m f k b r},Fo a0 a1 n m f k b=N r→r.1.length=m.length:=by
 intro n
 induction n with
 | zero=>intro _ _ _ _ _ h; cases h
 | succ n ih=>intro _ _ _ _ _ h; exact rZ ih h
theorem rY{a0 a1 m f k b r}(h:Oe a0 a1 m f k b=N r):r.1.length=m.length:=Wb h
section
variable {a0 : X1} {a1 : P X3} {rec_ : P U → V → U → P U → Q (P U × V × U × P U)} (h_rec : ∀ {m f k b r},rec_ m f k b = N r → FCw I 120 [.r,.clo 121 [0,1,2,3,4]] 1 (CM a0 a1 f k b) (Z rI m) (CM a0 a1 r.2.1 r.2.2.1 r.2.2.2) (Z rI r.1)) (l_rec : ∀ {m f k b r},rec_ m f k b = N r → r.1.length = m.length)
include h_rec l_rec
theorem A3f{i:U}{n:W}:cD a0 a1 i (EB rec_ i n):=by
 induction n with
 | zero=>intro _ _ _ _ _ _ h; cases h
 | succ n ih=>
  intro v m f k b zr h σ hσ S hS;refine ev hS ?_;rw[EB] at h;refine AY (Aw ?_);obtain⟨h71,h⟩|⟨h71,h⟩:=ic h
  ·obtain⟨x1,h1,h⟩:=ob h;obtain⟨h72,h⟩|⟨h72,h⟩:=ic h
   ·obtain⟨x2,h2,h⟩:=ob h;obtain⟨x3,h3,h⟩:=ob h;obtain⟨r4,h4,h⟩:=ob h;obtain⟨x5,h5,h⟩:=ob h;obtain⟨x6,h6,h⟩:=ob h;have n1:=Am h1;have n2:=Am h2;have n3:=Am h3;have n5:=Am h5;have n6:=Am h6;try simp only[hσ,h71,h1,n1,h72,h2,n2,C,E,F,G,H,J]
    refine Dq (row:=rI) (y:=v) Y Y n2 Y Y (by rfl) ?_;try simp only[hσ,h71,h1,n1,h72,h2,h3,C,E,F,G,H,J]
    refine Dq (row:=rI) (y:=i) Y Y n3 Y Y (by rfl) ?_;try simp only[hσ,h71,h1,n1,h72,h2,h3,C,E,F,G,H,J]
    refine Mj (Uz (h_rec h4) [99999999999,100000000000,100000000001,100000000002,100000000003] 99999999999 ?_ (by rw[zF,zF]; exact l_rec h4));simp only[St.behindW,DC];try simp only[hσ,h71,h5,C,E,F,G,H,J]
    refine Dq (row:=rI) (y:=(-1:U)) Y Y n5 Y Y (by rfl) ?_;try simp only[hσ,h71,h5,h6,C,E,F,G,H,J]
    refine Dq (row:=rI) (y:=(-1:U)) Y Y n6 Y Y (by rfl) ?_;try simp only[hσ,h71,h5,h6,C,E,F,G,H,J]
    refine ih h ?_ (by kernel_rfl);(try simp only[C,E,F,G,H,J,pL,aM,zA])<;>rfl
   ·have n1:=Am h1;try simp only[hσ,h71,h1,n1,h72,C,E,F,G,H,J]
    refine ih h ?_ (by kernel_rfl);(try simp only[h71,h1,h72,C,E,F,G,H,J,pL,aM,zA])<;>rfl
  ·try simp only[hσ,h71,C,E,F,G,H,J]
   cases h;repeat' constructor
theorem ZB{m f k b}:cC a0 a1 m f k b (Fm rec_ a0 a1 m f k b):=by
 intro v zr h σ hσ S hS;refine ev hS ?_;refine Aw ?_;unfold Fm at h;obtain⟨h71,h⟩|⟨h71,h⟩:=ic h
 ·obtain⟨r1,h1,h⟩:=ob h;try simp only[hσ,h71,C,E,F,G,H,J]
  refine ni (ze h1) [99999999999,100000000000,100000000001,100000000002,100000000003] 99999999999 ?_ Y (by kernel_rfl);simp only[St.behindW,DC];try simp only[hσ,h71,C,E,F,G,H,J]
  cases h;repeat' constructor
 ·try simp only[hσ,h71,C,E,F,G,H,J]
  refine A3f h_rec l_rec h ?_ (by kernel_rfl);(try simp only[h71,C,E,F,G,H,J,pL,aM,zA])<;>rfl
theorem A3g{m f k b}{n:W}:cB a0 a1 m f k b (EA rec_ a0 a1 m f k b n):=by
 induction n with
 | zero=>intro _ _ h; cases h
 | succ n ih=>
  intro v zr h σ hσ S hS;refine ev hS ?_;rw[EA] at h;refine AY (Aw ?_);obtain⟨h71,h⟩|⟨h71,h⟩:=ic h
  ·obtain⟨x1,h1,h⟩:=ob h;obtain⟨h72,h⟩|⟨h72,h⟩:=ic h
   ·have n1:=Am h1;try simp only[hσ,h71,h1,n1,h72,C,E,F,G,H,J]
    refine ih h ?_ (by kernel_rfl);(try simp only[h71,h1,h72,C,E,F,G,H,J,pL,aM,zA])<;>rfl
   ·have n1:=Am h1;try simp only[hσ,h71,h1,n1,h72,C,E,F,G,H,J]
    refine ZB h_rec l_rec h ?_ (by kernel_rfl);(try simp only[h71,h1,h72,C,E,F,G,H,J,pL,aM,zA])<;>rfl
  ·try simp only[hσ,h71,C,E,F,G,H,J]
   refine ZB h_rec l_rec h ?_ (by kernel_rfl);(try simp only[h71,C,E,F,G,H,J,pL,aM,zA])<;>rfl
end
theorem zd{a0 a1 m f k b r}{rec_:P U→V→U→P U→Q (P U × V × U × P U)}(h_rec:∀{m f k b r},rec_ m f k b=N r→FCw I 120 [.r,.clo 121 [0,1,2,3,4]] 1 (CM a0 a1 f k b) (Z rI m) (CM a0 a1 r.2.1 r.2.2.1 r.2.2.2) (Z rI r.1))(l_rec:∀{m f k b r},rec_ m f k b=N r→r.1.length=m.length)(h:EA rec_ a0 a1 m f k b bigN 0=N r):FCw I 120 [.r,.clo 121 [0,1,2,3,4]] 1 (CM a0 a1 f k b) (Z rI m) (CM a0 a1 r.2.1 r.2.2.1 r.2.2.2) (Z rI r.1):=by
 refine SP (σ:=⟨[(0,vc (.own 99999999999)),(1,vc (.clo 121 [99999999999,100000000000,100000000001,100000000002,100000000003]))],KC a0 a1 f k b,[(99999999999,1,Z rI m)]⟩) (c:=Bq I 120 KD) (nt:=55) mixed (by kernel_rfl) Y Y ?_;refine Bx KD ?_;intro S hS;refine ev hS ?_;try simp only[C,E,F,G,H,J]
 refine A3g h_rec l_rec h ?_ (by kernel_rfl);(try simp only[C,E,F,G,H,J,pL,aM,zA])<;>rfl
theorem zf{a0 a1}:∀(n:W) {m f k b r},Fo a0 a1 n m f k b=N r→FCw I 120 [.r,.clo 121 [0,1,2,3,4]] 1 (CM a0 a1 f k b) (Z rI m) (CM a0 a1 r.2.1 r.2.2.1 r.2.2.2) (Z rI r.1):=by
 intro n
 induction n with
 | zero=>intro _ _ _ _ _ h; cases h
 | succ n ih=>intro _ _ _ _ _ h; exact zd ih Wb h
theorem zb{a0 a1 m f k b r}(h:Oe a0 a1 m f k b=N r):FCw I 120 [.r,.clo 121 [0,1,2,3,4]] 1 (CM a0 a1 f k b) (Z rI m) (CM a0 a1 r.2.1 r.2.2.1 r.2.2.2) (Z rI r.1):=zf bigN h
def UZ:Hw:=([(16,[2,3,4,5,6,7,20,21],[2,3],[1152])],[])
def aK:=fun(a0:X1) a1 y4 (k_:U→(P U)→Q ((P U) × U × V))=>∀{v5 v6} {zr},k_ v5 v6=N zr→Kh I 83 UZ 16 [2,3,4,5,6,7,20,21] [2,3] [1152] ⟨[pB 2,pB 3,(4,vc (.nil)),pI 5 (0:U),(6,vc (aB L)),pW 7 1152,pI 20 y4,pI 21 v5],[(2,(dm a0.row)),(3,[aM X3.row a1])],[(1152,1,Z rI v6)]⟩ (A6 [4,5,6] [.sc (.v (.sl (Z rI zr.1))),.sc (.v (.int .i64 zr.2.1)),.sc (.v (.bool zr.2.2))])
theorem A3h{a0 a1 y4}{n:W}:aK a0 a1 y4 (H9 a0 a1 y4 n):=by
 induction n with
 | zero=>intro _ _ r h; cases h
 | succ n ih=>
  intro v5 v6 r h σ hσ S hS;refine ev hS ?_;rw[H9] at h;refine AY (Aw ?_);obtain⟨h7,h⟩|⟨h7,h⟩:=ic h
  ·obtain⟨x8,h8,h⟩:=ob h;have h8n:=Am h8;try simp only[hσ,h7,h8,C,E,F,G,H,J]
   refine Dq (row:=rI) (y:=(-1:U)) Y Y h8n Y Y (by rfl) ?_;try simp only[h7,h8,C,E,F,G,H,J]
   refine ih h ?_ (by kernel_rfl);try simp only[h7,h8,C,E,F,G,H,J,pL,aM,zA]
  ·try simp only[hσ,h7,C,E,F,G,H,J]
   refine B0 ?_;try simp only[h7,C,E,F,G,H,J]
   refine B0 ?_;try simp only[h7,C,E,F,G,H,J]
   refine B0 ?_;obtain⟨r9,h9,h⟩:=ob h;try simp only[h7,C,E,F,G,H,J]
   refine Mj (Uz (zb h9) [2,3,11,10,9] 1152 ?_ (by rw[zF,zF]; exact rY h9));simp only[St.behindW,DC];try simp only[h7,C,E,F,G,H,J]
   refine Ai ?_;try simp only[h7,C,E,F,G,H,J]
   cases h;trivial
instance A6e:Ct 83 (∀{a0} {a1} {r},KW a0 a1=N r→FC I 83 [.ag (X1.row a0),.sc (.sl (Z X3.row a1))] [.sc (.v (.sl (Z rI r.1))),.sc (.v (.int .i64 r.2.1)),.sc (.v (.bool r.2.2))]):=by
 refine⟨fun h=> ?_⟩;unfold KW at h;refine A2 mixed UZ [4,5,6] 34 ?_;have s0:= @Dv _ rI (0:U);have k0:= @A3h;exact gc
instance A8j:Ct 123 (∀{a0} {r},M7 a0=N r→FC I 123 [.sc (Nx a0)] [.sc (.v (.str r))]):=by
 refine⟨fun h=> ?_⟩;unfold M7 at h;refine A2 mixed h0 [2] 15 ?_;exact gc
def V0:Hw:=([(8,[3,7,8,9],[],[384])],[])
def cl:=fun a0 (k_:U→(P (P X))→Q (P X))=>∀{v1 v2} {zr},k_ v1 v2=N zr→Kh I 84 V0 8 [3,7,8,9] [] [384] ⟨[pW 3 384,pL 7 rA a0,pI 8 (a0.length:U),pI 9 v1],[],[(384,1,Z rS v2)]⟩ (A6 [2] [.sc (.v (.str zr))])
theorem A3i{a0}{n:W}:cl a0 (HZ a0 n):=by
 induction n with
 | zero=>intro _ _ r h; cases h
 | succ n ih=>
  intro v1 v2 r h σ hσ;rw[HZ] at h;have s0:=fun(r5:(P X))=> @AA (Z rS ([r5]:P (P X)))
  exact gc
instance A0k:Ct 84 (∀{a0} {r},Fx a0=N r→FC I 84 [.sc (.sl (Z rA a0))] [.sc (.v (.str r))]):=by
 refine⟨fun h=> ?_⟩;unfold Fx at h;refine A2 mixed V0 [2] 21 ?_;have s0:= @AA (Z rS ([]:P (P X)));have k0:= @A3i;exact gc
instance xh:Ct 56 (∀{a0} {a1} {r},KX a0 a1=N r→FC I 56 [.ag (X1.row a0),.sc (.sl (Z X3.row a1))] [.sc (.v (.str r))]):=by
 refine⟨fun h=> ?_⟩;unfold KX at h;refine A2 mixed h0 [4] 44 ?_;have s0:=fun(r3:(P U) × U × V) (r5:(P U) × U × V)=> @AA (Z rA ([(⟨T,([99,111,115,116]:P X),0⟩:Xj),(⟨L,[],r3.2.1⟩:Xj),(⟨T,([98,111,117,110,100]:P X),0⟩:Xj),(⟨L,[],r5.2.1⟩:Xj),(⟨T,([103,97,112]:P X),0⟩:Xj),(⟨L,[],(IntKind.i64.wrap (r3.2.1 - r5.2.1))⟩:Xj)]:P Xj))
 exact gc
instance Nc:Ct 55 (∀{a0} {r},EH a0=N r→FC I 55 [.sc (.str a0)] [.sc (.v (.str r))]):=by
 refine⟨fun h=> ?_⟩;unfold EH at h;refine A2 mixed h0 [2] 6 ?_;exact gc
def OR:Hw:=([(16,[0,1,5,17,18],[],[1024]),(30,[0,1,5,6,17,18,27,28,29],[],[1024,1728]),(47,[0,1,5,6,9,17,18,27,28,29,35,36,37],[],[1024,2176,1728])],[(7,1,(O,.frz 896)),(60,2,(O,.frz 2176))])
def cb:=fun a0 a1 v2 r5 v6 x9 v7 (k_:U→(P U)→Q (P (P U)))=>∀{v10 v11} {zr},k_ v10 v11=N zr→Kh I 124 OR 47 [0,1,5,6,9,17,18,27,28,29,35,36,37] [] [1024,2176,1728] ⟨[pI 0 a0,pI 1 a1,pW 5 1024,pI 6 v2,pW 9 2176,pI 17 a0,pI 18 v2,pW 27 1728,pI 28 (r5.length:U),pI 29 v6,pL 35 rI x9,pI 36 (x9.length:U),pI 37 v10],[],[(1024,1,Z (rL rI) v7),(2176,1,Z rI v11),(1728,1,Z (rL rI) r5)]⟩ (A6 [4] [.sc (.o 1 (Z (rL rI) zr))])
def Ta:=fun a0 a1 v2 r5 (k_:U→(P (P U))→Q (P (P U)))=>∀{v6 v7} {zr},k_ v6 v7=N zr→Kh I 124 OR 30 [0,1,5,6,17,18,27,28,29] [] [1024,1728] ⟨[pI 0 a0,pI 1 a1,pW 5 1024,pI 6 v2,pI 17 a0,pI 18 v2,pW 27 1728,pI 28 (r5.length:U),pI 29 v6],[],[(1024,1,Z (rL rI) v7),(1728,1,Z (rL rI) r5)]⟩ (A6 [4] [.sc (.o 1 (Z (rL rI) zr))])
def T9:=fun a0 a1 (k_:U→(P (P U))→Q (P (P U)))=>∀{v2 v3} {zr},k_ v2 v3=N zr→Kh I 124 OR 16 [0,1,5,17,18] [] [1024] ⟨[pI 0 a0,pI 1 a1,pW 5 1024,pI 17 a0,pI 18 v2],[],[(1024,1,Z (rL rI) v3)]⟩ (A6 [4] [.sc (.o 1 (Z (rL rI) zr))])
theorem A3j{rec_:U→U→Q (P (P U))}(h_rec:∀(a0 a1:U) zr,rec_ a0 a1=N zr→FC I 124 [.sc (.int .i64 a0),.sc (.int .i64 a1)] [.sc (.o 1 (Z (rL rI) zr))]){a0 a1 v2 r5 v6 x9 v7}{MF}(pY:Ta a0 a1 v2 r5 MF){n:W}:cb a0 a1 v2 r5 v6 x9 v7 (Oo rec_ a0 a1 v2 r5 v6 x9 v7 MF n):=by
 induction n with
 | zero=>intro _ _ r h; cases h
 | succ n ih=>
  intro v10 v11 r h σ hσ;rw[Oo] at h;have:Ct 124 _:=⟨h_rec⟩;have s0:=fun(x13:U)=> @AA (Z rI ([(IntKind.i64.wrap ((IntKind.i64.wrap (v2+(1:U)))+x13))]:P U))
  have s1:= @AA (Z (rL rI) ([v11]:P (P U)));have k0:= @pY;exact gc
theorem A3k{rec_:U→U→Q (P (P U))}(h_rec:∀(a0 a1:U) zr,rec_ a0 a1=N zr→FC I 124 [.sc (.int .i64 a0),.sc (.int .i64 a1)] [.sc (.o 1 (Z (rL rI) zr))]){a0 a1 v2 r5}{ME}(pX:T9 a0 a1 ME){n:W}:Ta a0 a1 v2 r5 (On rec_ a0 a1 v2 r5 ME n):=by
 induction n with
 | zero=>intro _ _ r h; cases h
 | succ n ih=>
  intro v6 v7 r h σ hσ S hS;refine ev hS ?_;rw[On] at h;refine AY (Aw ?_);obtain⟨h8,h⟩|⟨h8,h⟩:=ic h
  ·obtain⟨x9,h9,h⟩:=ob h;have h9n:=Am h9;try simp only[hσ,h8,h9,h9n,C,E,F,G,H,J]
   refine AS (es:=Z rI ([v2]:P U)) ?_;try simp only[h8,h9,h9n,C,E,F,G,H,J]
   refine A3j h_rec ih h ?_ (by kernel_rfl);try simp only[h8,h9,h9n,C,E,F,G,H,J,pL,aM,zA]
  ·try simp only[hσ,h8,C,E,F,G,H,J]
   refine pX h ?_ (by kernel_rfl);try simp only[h8,C,E,F,G,H,J,pL,aM,zA]
theorem A3l{rec_:U→U→Q (P (P U))}(h_rec:∀(a0 a1:U) zr,rec_ a0 a1=N zr→FC I 124 [.sc (.int .i64 a0),.sc (.int .i64 a1)] [.sc (.o 1 (Z (rL rI) zr))]){a0 a1}{n:W}:T9 a0 a1 (Om rec_ a0 a1 n):=by
 induction n with
 | zero=>intro _ _ r h; cases h
 | succ n ih=>
  intro v2 v3 r h σ hσ;rw[Om] at h;have:Ct 124 _:=⟨h_rec⟩;have k0:= @A3k;exact gc
theorem A0f(rec_:U→U→Q (P (P U)))(a0 a1:U)(r:(P (P U)))(h_rec:∀(a0 a1:U) zr,rec_ a0 a1=N zr→FC I 124 [.sc (.int .i64 a0),.sc (.int .i64 a1)] [.sc (.o 1 (Z (rL rI) zr))])(h:QR rec_ a0 a1=N r):FC I 124 [.sc (.int .i64 a0),.sc (.int .i64 a1)] [.sc (.o 1 (Z (rL rI) r))]:=by
 unfold QR at h;refine A2 mixed OR [4] 56 ?_;have:Ct 124 _:=⟨h_rec⟩;have s0:= @AA (Z rI ([]:P U));have s1:= @AA (Z (rL rI) ([([]:P U)]:P (P U)));have s2:= @AA (Z (rL rI) ([]:P (P U)));have k0:= @A3l;exact gc
theorem A0g:∀(n:W) (a0:U) (a1:U) (r:(P (P U))),M3 n a0 a1=N r→FC I 124 [.sc (.int .i64 a0),.sc (.int .i64 a1)] [.sc (.o 1 (Z (rL rI) r))]:=by
 intro n
 induction n with
 | zero=>intro _ _ r h; cases h
 | succ n ih=>intro a0 a1 r h; rw[M3] at h; exact A0f (M3 n) a0 a1 r ih h
theorem A0e{a0}{a1}{r}(h:Ol a0 a1=N r):FC I 124 [.sc (.int .i64 a0),.sc (.int .i64 a1)] [.sc (.o 1 (Z (rL rI) r))]:=A0g bigN a0 a1 r h
def V2:Hw:=([(6,[0,1,7,8,9],[],[])],[])
def cP:=fun a0 a1 (k_:U→Q V)=>∀{v1} {zr},k_ v1=N zr→Kh I 157 V2 6 [0,1,7,8,9] [] [] ⟨[pL 0 X3.row a0,pL 1 rI a1,pL 7 rI a1,pI 8 (a1.length:U),pI 9 v1],[],[]⟩ (A6 [4] [.sc (.v (.bool zr))])
theorem A3m{a0 a1}{n:W}:cP a0 a1 (Gn a0 a1 n):=by
 induction n with
 | zero=>intro _ r h; cases h
 | succ n ih=>
  intro v1 r h σ hσ;rw[Gn] at h;exact gc
instance A8b:Ct 157 (∀{a0} {a1} {r},LW a0 a1=N r→FC I 157 [.sc (.sl (Z X3.row a0)),.sc (.sl (Z rI a1))] [.sc (.v (.bool r))]):=by
 refine⟨fun h=> ?_⟩;unfold LW at h;refine A2 mixed V2 [4] 33 ?_;have k0:= @A3m;exact gc
def V3:Hw:=([(16,[0,5,13,14,15],[],[768])],[])
def bl:=fun a0 a1 (k_:U→(P X3)→Q (P X3))=>∀{v3 v4} {zr},k_ v3 v4=N zr→Kh I 159 V3 16 [0,5,13,14,15] [] [768] ⟨[pL 0 X3.row a0,pW 5 768,pL 13 rI a1,pI 14 (a1.length:U),pI 15 v3],[],[(768,5,Z X3.row v4)]⟩ (A6 [4] [.sc (.o 5 (Z X3.row zr))])
theorem A3n{a0 a1}{n:W}:bl a0 a1 (HH a0 a1 n):=by
 induction n with
 | zero=>intro _ _ r h; cases h
 | succ n ih=>
  intro v3 v4 r h σ hσ;rw[HH] at h;have s0:=fun(x7:X3)=> @AA (Z X3.row ([x7]:P X3))
  exact gc
instance A7j:Ct 159 (∀{a0} {a1} {r},Lx a0 a1=N r→FC I 159 [.sc (.sl (Z X3.row a0)),.sc (.sl (Z rI a1))] [.sc (.o 5 (Z X3.row r))]):=by
 refine⟨fun h=> ?_⟩;unfold Lx at h;refine A2 mixed V3 [4] 28 ?_;have s0:= @AA (Z X3.row ([]:P X3));have k0:= @A3n;exact gc
instance A6i:Ct 158 (∀{a0} {a1} {r},L0 a0 a1=N r→FC I 158 [.ag (X1.row a0),.sc (.sl (Z X3.row a1))] [.sc (.v (.bool r))]):=by
 refine⟨fun h=> ?_⟩;unfold L0 at h;refine A2 mixed h0 [4] 16 ?_;exact gc
instance yu:Ct 125 (∀{a0} {a1} {a2} {r},Ly a0 a1 a2=N r→FC I 125 [.ag (X1.row a0),.sc (.sl (Z X3.row a1)),.sc (.sl (Z rI a2))] [.sc (.v (.bool r))]):=by
 refine⟨fun h=> ?_⟩;unfold Ly at h;refine A2 mixed h0 [6] 22 ?_;exact gc
def Rb:Hw:=([(14,[1,2,14,15],[2],[]),(28,[1,2,14,15,21,22,23],[2],[1344])],[])
def bf:=fun a1 y3 v4 r6 (a0:X1) (k_:U→Q (P U))=>∀{v7} {zr},k_ v7=N zr→Kh I 85 Rb 28 [1,2,14,15,21,22,23] [2] [1344] ⟨[pL 1 X3.row a1,pB 2,pI 14 y3,pI 15 v4,pW 21 1344,pI 22 (r6.length:U),pI 23 v7],[(2,(dm a0.row))],[(1344,1,Z (rL rI) r6)]⟩ (A6 [4] [.sc (.v (.sl (Z rI zr)))])
def T3:=fun a1 (a0:X1) y3 (k_:U→Q (P U))=>∀{v4} {zr},k_ v4=N zr→Kh I 85 Rb 14 [1,2,14,15] [2] [] ⟨[pL 1 X3.row a1,pB 2,pI 14 y3,pI 15 v4],[(2,(dm a0.row))],[]⟩ (A6 [4] [.sc (.v (.sl (Z rI zr)))])
theorem A3o{a1 y3 v4 r6 a0}{MB}(pR:T3 a1 a0 y3 MB){n:W}:bf a1 y3 v4 r6 a0 (Dm a1 y3 v4 r6 a0 MB n):=by
 induction n with
 | zero=>intro _ r h; cases h
 | succ n ih=>
  intro v7 r h σ hσ S hS;refine ev hS ?_;rw[Dm] at h;refine AY (Aw ?_);obtain⟨h8,h⟩|⟨h8,h⟩:=ic h
  ·obtain⟨x9,h9,h⟩:=ob h;have h9n:=Am h9;obtain⟨r10,h10,h⟩:=ob h;try simp only[hσ,h8,h9,h9n,C,E,F,G,H,J]
   refine Ao (A8 yu h10) ?_;obtain⟨h11,h⟩|⟨h11,h⟩:=ic h
   ·try simp only[h8,h9,h9n,h11,C,E,F,G,H,J]
    refine ih h ?_ (by kernel_rfl);try simp only[h8,h9,h9n,h11,C,E,F,G,H,J,pL,aM,zA]
   ·try simp only[h8,h9,h9n,h11,C,E,F,G,H,J]
    cases h;exact t0
  ·try simp only[hσ,h8,C,E,F,G,H,J]
   refine pR h ?_ (by kernel_rfl);try simp only[h8,C,E,F,G,H,J,pL,aM,zA]
theorem A3p{a1 a0 y3}{n:W}:T3 a1 a0 y3 (DJ a1 a0 y3 n):=by
 induction n with
 | zero=>intro _ r h; cases h
 | succ n ih=>
  intro v4 r h σ hσ S hS;refine ev hS ?_;rw[DJ] at h;refine AY (Aw ?_);obtain⟨h5,h⟩|⟨h5,h⟩:=ic h
  ·obtain⟨r6,h6,h⟩:=ob h;try simp only[hσ,h5,C,E,F,G,H,J]
   refine Ao (A0e h6) ?_;try simp only[h5,C,E,F,G,H,J]
   refine A3o ih h ?_ (by kernel_rfl);try simp only[h5,C,E,F,G,H,J,pL,aM,zA]
  ·try simp only[hσ,h5,C,E,F,G,H,J]
   cases h;exact t0
instance A7c:Ct 85 (∀{a0} {a1} {r},Jq a0 a1=N r→FC I 85 [.ag (X1.row a0),.sc (.sl (Z X3.row a1))] [.sc (.v (.sl (Z rI r)))]):=by
 refine⟨fun h=> ?_⟩;unfold Jq at h;refine A2 mixed Rb [4] 35 ?_;have k0:= @A3p;exact gc
def V4:Hw:=([(16,[1,2,5,15,16,17],[2],[768])],[])
def be:=fun a1 r3 (a0:X1) (k_:U→(P (P X))→Q (P X))=>∀{v4 v5} {zr},k_ v4 v5=N zr→Kh I 57 V4 16 [1,2,5,15,16,17] [2] [768] ⟨[pL 1 X3.row a1,pB 2,pW 5 768,pL 15 rI r3,pI 16 (r3.length:U),pI 17 v4],[(2,(dm a0.row))],[(768,1,Z rS v5)]⟩ (A6 [4] [.sc (.v (.str zr))])
theorem A3q{a1 r3 a0}{n:W}:be a1 r3 a0 (HF a1 r3 a0 n):=by
 induction n with
 | zero=>intro _ _ r h; cases h
 | succ n ih=>
  intro v4 v5 r h σ hσ;rw[HF] at h;have s0:=fun(x9:X8)=> @AA (Z rS ([x9.Name]:P (P X)))
  exact gc
instance yq:Ct 57 (∀{a0} {a1} {r},Lt a0 a1=N r→FC I 57 [.ag (X1.row a0),.sc (.sl (Z X3.row a1))] [.sc (.v (.str r))]):=by
 refine⟨fun h=> ?_⟩;unfold Lt at h;refine A2 mixed V4 [4] 40 ?_;have s0:= @AA (Z rS ([]:P (P X)));have k0:= @A3q;exact gc
def V5:Hw:=([(16,[1,3,13,14,15],[1],[])],[])
def bA:=fun(a0:Xo) (k_:(P X)→U→Q (P X))=>∀{v4 v5} {zr},k_ v4 v5=N zr→Kh I 58 V5 16 [1,3,13,14,15] [1] [] ⟨[pB 1,(3,vc (aS v4)),pL 13 rI a0.Starts,pI 14 (a0.Starts.length:U),pI 15 v5],[(1,(dm a0.row))],[]⟩ (A6 [2] [.sc (.v (.str zr))])
theorem A3s{a0}{n:W}:bA a0 (Fe a0 n):=by
 induction n with
 | zero=>intro _ _ r h; cases h
 | succ n ih=>
  intro v4 v5 r h σ hσ S hS;refine ev hS ?_;rw[Fe] at h;refine AY (Aw ?_);obtain⟨h6,h⟩|⟨h6,h⟩:=ic h
  ·obtain⟨x7,h7,h⟩:=ob h;obtain⟨h8,h⟩|⟨h8,h⟩:=ic h
   ·obtain⟨h9,h⟩:=AN h;try simp only[hσ,h6,h7,h8,h9,C,E,F,G,H,J]
    refine ih h ?_ (by kernel_rfl);try simp only[h6,h7,h8,h9,C,E,F,G,H,J,pL,aM,zA]
   ·obtain⟨x10,h10,h⟩:=ob h;obtain⟨h11,h⟩|⟨h11,h⟩:=ic h
    ·obtain⟨r12,h12,h⟩:=ob h;try simp only[hσ,h6,h7,h8,h10,h11,C,E,F,G,H,J]
     refine Ao (A8 GX h12) ?_;obtain⟨h13,h⟩:=AN h;obtain⟨h14,h⟩:=AN h;try simp only[zG,zH] at h14
     obtain⟨h15,h⟩:=AN h;try simp only[zG,zH] at h15
     try simp only[h6,h7,h8,h10,h11,h13,h14,h15,C,E,F,G,H,J]
     refine ih h ?_ (by kernel_rfl);try simp only[h6,h7,h8,h10,h11,h13,h14,h15,C,E,F,G,H,J,pL,aM,zA]
    ·obtain⟨r16,h16,h⟩:=ob h;try simp only[hσ,h6,h7,h8,h10,h11,C,E,F,G,H,J]
     refine Ao (A8 GX h16) ?_;obtain⟨h17,h⟩:=AN h;obtain⟨h18,h⟩:=AN h;try simp only[zG,zH] at h18
     try simp only[h6,h7,h8,h10,h11,h17,h18,C,E,F,G,H,J]
     refine ih h ?_ (by kernel_rfl);try simp only[h6,h7,h8,h10,h11,h17,h18,C,E,F,G,H,J,pL,aM,zA]
  ·try simp only[hσ,h6,C,E,F,G,H,J]
   cases h;exact t0
instance yc:Ct 58 (∀{a0} {r},L5 a0=N r→FC I 58 [.ag (Xo.row a0)] [.sc (.v (.str r))]):=by
 refine⟨fun h=> ?_⟩;unfold L5 at h;refine A2 mixed V5 [2] 44 ?_;have k0:= @A3s;exact gc
def Rc:Hw:=([(5,[1,2,3,22],[3],[]),(16,[2,3,8,24,25,26],[3],[1472])],[])
def bc:=fun a2 a1 (a0:X1) (k_:U→(P X0)→Q ((P X0) × V))=>∀{v5 v6} {zr},k_ v5 v6=N zr→Kh I 87 Rc 16 [2,3,8,24,25,26] [3] [1472] ⟨[pL 2 rI a2,pB 3,pW 8 1472,pL 24 X3.row a1,pI 25 (a1.length:U),pI 26 v5],[(3,(dm a0.row))],[(1472,4,Z X0.row v6)]⟩ (A6 [6,7] [.sc (.o 4 (Z X0.row zr.1)),.sc (.v (.bool zr.2))])
def ba:=fun a1 a2 (a0:X1) (k_:V→Q ((P X0) × V))=>∀{v3} {zr},k_ v3=N zr→Kh I 87 Rc 5 [1,2,3,22] [3] [] ⟨[pL 1 X3.row a1,pL 2 rI a2,pB 3,(22,vc (aB v3))],[(3,(dm a0.row))],[]⟩ (A6 [6,7] [.sc (.o 4 (Z X0.row zr.1)),.sc (.v (.bool zr.2))])
theorem A3t{a2 a1 a0}{n:W}:bc a2 a1 a0 (HD a2 a1 a0 n):=by
 induction n with
 | zero=>intro _ _ r h; cases h
 | succ n ih=>
  intro v5 v6 r h σ hσ S hS;refine ev hS ?_;rw[HD] at h;refine AY (Aw ?_);obtain⟨h7,h⟩|⟨h7,h⟩:=ic h
  ·obtain⟨x8,h8,h⟩:=ob h;try simp only[hσ,h7,h8,C,E,F,G,H,J]
   refine B0 ?_;obtain⟨r9,h9,h⟩:=ob h;try simp only[h7,h8,C,E,F,G,H,J]
   refine Ao (A8 Sy h9) ?_;obtain⟨x10,h10,h⟩:=ob h;obtain⟨r11,h11,h⟩:=ob h;try simp only[h7,h8,h10,C,E,F,G,H,J]
   refine Ao (A8 Nb h11) ?_;obtain⟨h12,h⟩|⟨h12,h⟩:=ic h
   ·obtain⟨x13,h13,h⟩:=ob h;have h13n:=Am h13;try simp only[h7,h8,h10,h12,h13,h13n,C,E,F,G,H,J]
    refine AS (es:=Z X0.row ([x13]:P X0)) ?_;obtain⟨h14,h⟩:=AN h;try simp only[h7,h8,h10,h12,h13,h13n,h14,C,E,F,G,H,J]
    refine ih h ?_ (by kernel_rfl);try simp only[h7,h8,h10,h12,h13,h13n,h14,C,E,F,G,H,J,pL,aM,zA]
   ·try simp only[h7,h8,h10,h12,C,E,F,G,H,J]
    cases h;trivial
  ·try simp only[hσ,h7,C,E,F,G,H,J]
   cases h;trivial
theorem A3u{a1 a2 a0}:ba a1 a2 a0 (Ls a1 a2 a0):=by
 intro v3 r h σ hσ;unfold Ls at h;have s0:= @AA (Z X0.row ([]:P X0));have k0:= @A3t;exact gc
instance yp:Ct 87 (∀{a0} {a1} {a2} {r},Lr a0 a1 a2=N r→FC I 87 [.ag (X1.row a0),.sc (.sl (Z X3.row a1)),.sc (.sl (Z rI a2))] [.sc (.o 4 (Z X0.row r.1)),.sc (.v (.bool r.2))]):=by
 refine⟨fun h=> ?_⟩;unfold Lr at h;refine A2 mixed Rc [6,7] 54 ?_;have k0:= @A3u;exact gc
theorem jj:AG I 59=N ((Bq I 59 h0).strip,[2,3],34):=by kernel_rfl
theorem xo{a0}{r}(h:L2 a0=N r):FCo I 59 [.p] [.int .i64 a0.Harbour.Forecast.Tide.Mean,.sl (Z zB a0.Harbour.Forecast.Tide.Parts),.sl (Z zC a0.Harbour.Forecast.Surges),.sl (Z zD a0.Harbour.Chart.Points),.sl (Z X7.row a0.Harbour.Chart.Segments),.sl (Z X8.row a0.Harbour.Fleet),.int .i64 a0.Harbour.Regime.Gap,.bool a0.Harbour.Regime.NoMeet,.int .i64 a0.Harbour.Crew.Tugs,.int .i64 a0.Harbour.Crew.Pilots,.int .i64 a0.Harbour.Crew.Rest,.sl (Z rI a0.Harbour.Crew.Moves),.sl (Z X3.row a0.Calls),.int .i64 a0.Desk.Now,.sl (Z rI a0.Desk.Starts),.sl (Z rB a0.Desk.Cleared)] [.int .i64 r.2.2.Harbour.Forecast.Tide.Mean,.sl (Z zB r.2.2.Harbour.Forecast.Tide.Parts),.sl (Z zC r.2.2.Harbour.Forecast.Surges),.sl (Z zD r.2.2.Harbour.Chart.Points),.sl (Z X7.row r.2.2.Harbour.Chart.Segments),.sl (Z X8.row r.2.2.Harbour.Fleet),.int .i64 r.2.2.Harbour.Regime.Gap,.bool r.2.2.Harbour.Regime.NoMeet,.int .i64 r.2.2.Harbour.Crew.Tugs,.int .i64 r.2.2.Harbour.Crew.Pilots,.int .i64 r.2.2.Harbour.Crew.Rest,.sl (Z rI r.2.2.Harbour.Crew.Moves),.sl (Z X3.row r.2.2.Calls),.int .i64 r.2.2.Desk.Now,.sl (Z rI r.2.2.Desk.Starts),.sl (Z rB r.2.2.Desk.Cleared)] [.sc (.o 4 (Z X0.row r.1)),.sc (.v (.bool r.2.1))]:=by
 unfold L2 at h;refine aC (σ:=⟨[(0,vc (.pb 99999999999 0))],[(99999999999,[aI a0.Harbour.Forecast.Tide.Mean,aL (Z zB a0.Harbour.Forecast.Tide.Parts),aL (Z zC a0.Harbour.Forecast.Surges),aL (Z zD a0.Harbour.Chart.Points),aL (Z X7.row a0.Harbour.Chart.Segments),aL (Z X8.row a0.Harbour.Fleet),aI a0.Harbour.Regime.Gap,aB a0.Harbour.Regime.NoMeet,aI a0.Harbour.Crew.Tugs,aI a0.Harbour.Crew.Pilots,aI a0.Harbour.Crew.Rest,aL (Z rI a0.Harbour.Crew.Moves),aL (Z X3.row a0.Calls),aI a0.Desk.Now,aL (Z rI a0.Desk.Starts),aL (Z rB a0.Desk.Cleared)])],[]⟩) mixed jj Y Y ?_;refine Bx h0 ?_;intro S hS;refine ev hS ?_;try simp only[C,E,F,G,H,J]
 refine Ai ?_;obtain⟨r1,h1,h⟩:=ob h;try simp only[C,E,F,G,H,J]
 refine AX (FC.asV (rs':= [.sc (.v (.sl (Z rI r1.1))),.sc (.v (.int .i64 r1.2.1)),.sc (.v (.bool r1.2.2))]) (A8 xg h1) Y) ?_;obtain⟨h2,h⟩|⟨h2,h⟩:=ic h
 ·try simp only[h2,C,E,F,G,H,J]
  refine Ai ?_;obtain⟨r3,h3,h⟩:=ob h;try simp only[h2,C,E,F,G,H,J]
  refine AX (A8 yp h3) ?_;try simp only[h2,C,E,F,G,H,J]
  cases h;trivial
 ·try simp only[h2,C,E,F,G,H,J]
  cases h;trivial
instance A7y:Ct 127 (∀{a0} {r},LN a0=N r→FC I 127 [.sc (.sl (Z X2.row a0))] [.sc (.o 5 (Z X2.row r))]):=by
 refine⟨fun h=> ?_⟩;unfold LN at h;refine A2 mixed h0 [2] 8 ?_;have s0:= @Dv _ X2.row (⟨(0:U),(0:U),L,(0:U),(0:U)⟩:X2);exact gc
def V6:Hw:=([(8,[3,7,8,9],[],[384])],[(19,4,(O,.frz 1024))])
def aR:=fun a0 (k_:U→(P (P X2))→Q (P (P X2)))=>∀{v1 v2} {zr},k_ v1 v2=N zr→Kh I 88 V6 8 [3,7,8,9] [] [384] ⟨[pW 3 384,pL 7 X0.row a0,pI 8 (a0.length:U),pI 9 v1],[],[(384,1,Z (rL X2.row) v2)]⟩ (A6 [2] [.sc (.o 1 (Z (rL X2.row) zr))])
theorem A3v{a0}{n:W}:aR a0 (Hb a0 n):=by
 induction n with
 | zero=>intro _ _ r h; cases h
 | succ n ih=>
  intro v1 v2 r h σ hσ;rw[Hb] at h;have s0:=fun(r5:(P X2))=> @AA (Z (rL X2.row) ([r5]:P (P X2)))
  exact gc
instance A6j:Ct 88 (∀{a0} {r},L1 a0=N r→FC I 88 [.sc (.sl (Z X0.row a0))] [.sc (.o 1 (Z (rL X2.row) r))]):=by
 refine⟨fun h=> ?_⟩;unfold L1 at h;refine A2 mixed V6 [2] 21 ?_;have s0:= @AA (Z (rL X2.row) ([]:P (P X2)));have k0:= @A3v;exact gc
instance za:Ct 89 (∀{a0} {a1} {a2} {a3} {r},LH a0 a1 a2 a3=N r→FC I 89 [.ag (Xr.row a0),.ag (X4.row a1),.sc (.sl (Z X8.row a2)),.sc (.sl (Z X2.row a3))] [.sc (.v (.int .i64 r))]):=by
 refine⟨fun h=> ?_⟩;unfold LH at h;refine A2 mixed h0 [8] 37 ?_;exact gc
def V7:Hw:=([(14,[1,2,14,15,16],[2],[])],[])
def bK:=fun a1 (a0:X4) (k_:U→Q V)=>∀{v3} {zr},k_ v3=N zr→Kh I 169 V7 14 [1,2,14,15,16] [2] [] ⟨[pL 1 X2.row a1,pB 2,pL 14 X2.row a1,pI 15 (a1.length:U),pI 16 v3],[(2,(dm a0.row))],[]⟩ (A6 [4] [.sc (.v (.bool zr))])
theorem A3w{a1 a0}{n:W}:bK a1 a0 (G9 a1 a0 n):=by
 induction n with
 | zero=>intro _ r h; cases h
 | succ n ih=>
  intro v3 r h σ hσ;rw[G9] at h;exact gc
instance A6w:Ct 169 (∀{a0} {a1} {r},L9 a0 a1=N r→FC I 169 [.ag (X4.row a0),.sc (.sl (Z X2.row a1))] [.sc (.v (.bool r))]):=by
 refine⟨fun h=> ?_⟩;unfold L9 at h;refine A2 mixed V7 [4] 70 ?_;have k0:= @A3w;exact gc
def Rd:Hw:=([(5,[1,2,3,6,18],[3,6],[]),(14,[1,2,3,6,20,21,22],[3,6],[])],[])
def bX:=fun a1 a2 (a0:X4) (k_:U→Q (Xd × V))=>∀{v5} {zr},k_ v5=N zr→Kh I 130 Rd 14 [1,2,3,6,20,21,22] [3,6] [] ⟨[pL 1 X8.row a1,pL 2 X2.row a2,pB 3,pB 6,pL 20 X2.row a2,pI 21 (a2.length:U),pI 22 v5],[(3,(dm a0.row)),(6,[aI (0:U),aI (0:U),aI (0:U),aI (0:U)])],[]⟩ (A6 [.c 6 T 4,7] [.ag [.v (.int .i64 zr.1.From),.v (.int .i64 zr.1.To),.v (.int .i64 zr.1.A),.v (.int .i64 zr.1.B)],.sc (.v (.bool zr.2))])
def bW:=fun a1 a2 (a0:X4) (k_:V→Q (Xd × V))=>∀{v3} {zr},k_ v3=N zr→Kh I 130 Rd 5 [1,2,3,6,18] [3,6] [] ⟨[pL 1 X8.row a1,pL 2 X2.row a2,pB 3,pB 6,(18,vc (aB v3))],[(3,(dm a0.row)),(6,[aI (0:U),aI (0:U),aI (0:U),aI (0:U)])],[]⟩ (A6 [.c 6 T 4,7] [.ag [.v (.int .i64 zr.1.From),.v (.int .i64 zr.1.To),.v (.int .i64 zr.1.A),.v (.int .i64 zr.1.B)],.sc (.v (.bool zr.2))])
theorem A3y{a1 a2 a0}{n:W}:bX a1 a2 a0 (HB a1 a2 a0 n):=by
 induction n with
 | zero=>intro _ r h; cases h
 | succ n ih=>
  intro v5 r h σ hσ;rw[HB] at h;exact gc
theorem A3z{a1 a2 a0}:bW a1 a2 a0 (Lp a1 a2 a0):=by
 intro v3 r h σ hσ;unfold Lp at h;have k0:= @A3y;exact gc
instance A7b:Ct 130 (∀{a0} {a1} {a2} {r},Lo a0 a1 a2=N r→FC I 130 [.ag (X4.row a0),.sc (.sl (Z X8.row a1)),.sc (.sl (Z X2.row a2))] [.ag [.v (.int .i64 r.1.From),.v (.int .i64 r.1.To),.v (.int .i64 r.1.A),.v (.int .i64 r.1.B)],.sc (.v (.bool r.2))]):=by
 refine⟨fun h=> ?_⟩;unfold Lo at h;refine A2 mixed Rd [.c 6 T 4,7] 44 ?_;have k0:= @A3z;exact gc
def V8:Hw:=([(8,[2,4,5,9,18,19,20],[4,5],[1088])],[])
def bY:=fun a2 a3 (a0:Xr) (a1:X4) (k_:U→(P Xd)→Q U)=>∀{v1 v2} {zr},k_ v1 v2=N zr→Kh I 90 V8 8 [2,4,5,9,18,19,20] [4,5] [1088] ⟨[pL 2 X8.row a2,pB 4,pB 5,pW 9 1088,pL 18 (rL X2.row) a3,pI 19 (a3.length:U),pI 20 v1],[(4,(dm a0.row)),(5,(dm a1.row))],[(1088,4,Z Xd.row v2)]⟩ (A6 [8] [.sc (.v (.int .i64 zr))])
theorem A30{a2 a3 a0 a1}{n:W}:bY a2 a3 a0 a1 (Gd a2 a3 a0 a1 n):=by
 induction n with
 | zero=>intro _ _ r h; cases h
 | succ n ih=>
  intro v1 v2 r h σ hσ;rw[Gd] at h;have s0:=fun(r6:Xd × V)=> @AA (Z Xd.row ([r6.1]:P Xd))
  exact gc
instance yn:Ct 90 (∀{a0} {a1} {a2} {a3} {r},Lq a0 a1 a2 a3=N r→FC I 90 [.ag (Xr.row a0),.ag (X4.row a1),.sc (.sl (Z X8.row a2)),.sc (.sl (Z (rL X2.row) a3))] [.sc (.v (.int .i64 r))]):=by
 refine⟨fun h=> ?_⟩;unfold Lq at h;refine A2 mixed V8 [8] 60 ?_;have s0:= @AA (Z Xd.row ([]:P Xd));have k0:= @A30;exact gc
def V9:Hw:=([(18,[2,5,6,15,16,17],[2],[832,896])],[])
def az:=fun r3 (a0:X1) (k_:U→(P X2)→Q (P X))=>∀{v4 v5} {zr},k_ v4 v5=N zr→Kh I 60 V9 18 [2,5,6,15,16,17] [2] [832,896] ⟨[pB 2,pW 5 832,pW 6 896,pW 15 832,pI 16 (r3.length:U),pI 17 v4],[(2,(dm a0.row))],[(832,1,Z (rL X2.row) r3),(896,5,Z X2.row v5)]⟩ (A6 [4] [.sc (.v (.str zr))])
theorem A31{r3 a0}{n:W}:az r3 a0 (Hk r3 a0 n):=by
 induction n with
 | zero=>intro _ _ r h; cases h
 | succ n ih=>
  intro v4 v5 r h σ hσ S hS;refine ev hS ?_;rw[Hk] at h;refine AY (Aw ?_);obtain⟨h6,h⟩|⟨h6,h⟩:=ic h
  ·obtain⟨x7,h7,h⟩:=ob h;have h7n:=Am h7;obtain⟨h8,h⟩:=AN h;try simp only[hσ,h6,h7,h7n,h8,C,E,F,G,H,J]
   refine ih h ?_ (by kernel_rfl);try simp only[h6,h7,h7n,h8,C,E,F,G,H,J,pL,aM,zA]
  ·try simp only[hσ,h6,C,E,F,G,H,J]
   refine Ai ?_;obtain⟨r9,h9,h⟩:=ob h;try simp only[h6,C,E,F,G,H,J]
   refine FB (A8 za h9) (by first | rfl | kernel_rfl) (Cm Y) Y (uf Y) ?_;obtain⟨r10,h10,h⟩:=ob h;try simp only[h6,C,E,F,G,H,J]
   refine FB (A8 yn h10) (by first | rfl | kernel_rfl) (Cm Y) Y (uf Y) ?_;try simp only[h6,C,E,F,G,H,J]
   refine AS (es:=Z rA ([(⟨T,([116,117,103,115]:P X),0⟩:Xj),(⟨L,[],r9⟩:Xj),(⟨T,([112,105,108,111,116,115]:P X),0⟩:Xj),(⟨L,[],r10⟩:Xj)]:P Xj)) ?_;obtain⟨r11,h11,h⟩:=ob h;try simp only[h6,C,E,F,G,H,J]
   refine FB (A8 A0k h11) (by first | rfl | kernel_rfl) (Cm Y) Y (uf Y) ?_;try simp only[h6,C,E,F,G,H,J]
   cases h;exact t0
instance yb:Ct 60 (∀{a0} {a1} {r},Jh a0 a1=N r→FC I 60 [.ag (X1.row a0),.sc (.sl (Z X0.row a1))] [.sc (.v (.str r))]):=by
 refine⟨fun h=> ?_⟩;unfold Jh at h;refine A2 mixed V9 [4] 47 ?_;have s0:= @AA (Z X2.row ([]:P X2));have k0:= @A31;exact gc
def Va:Hw:=([(5,[2,3,4,5,8,25],[4,5,8],[])],[])
def bR:=fun a2 a3 (a0:X1) (a1:X3) (k_:V→Q (X0 × V))=>∀{v4} {zr},k_ v4=N zr→Kh I 170 Va 5 [2,3,4,5,8,25] [4,5,8] [] ⟨[pL 2 rI a2,pI 3 a3,pB 4,pB 5,pB 8,(25,vc (aB v4))],[(4,(dm a0.row)),(5,(dm a1.row)),(8,[aI (0:U),aI (0:U),aI (0:U),.nil])],[]⟩ (A6 [.c 8 T 4,9] [.ag [.v (.int .i64 zr.1.Start),.v (.int .i64 zr.1.Arrival),.v (.int .i64 zr.1.Cost),.o 5 (Z X2.row zr.1.Passages)],.sc (.v (.bool zr.2))])
theorem A32{a2 a3 a0 a1}:bR a2 a3 a0 a1 (Lj a2 a3 a0 a1):=by
 intro v4 r h σ hσ;unfold Lj at h;exact gc
instance A65:Ct 170 (∀{a0} {a1} {a2} {a3} {r},Li a0 a1 a2 a3=N r→FC I 170 [.ag (X1.row a0),.ag (X3.row a1),.sc (.sl (Z rI a2)),.sc (.int .i64 a3)] [.ag [.v (.int .i64 r.1.Start),.v (.int .i64 r.1.Arrival),.v (.int .i64 r.1.Cost),.o 5 (Z X2.row r.1.Passages)],.sc (.v (.bool r.2))]):=by
 refine⟨fun h=> ?_⟩;unfold Li at h;refine A2 mixed Va [.c 8 T 4,9] 50 ?_;have k0:= @A32;exact gc
def NJ:Xg:=Ky [dD [0,1,12,13] [] []] (Ky [bn 14 .lss 13 12] (dF 14 0 1 (Ky [mv 15 13,mv 5 15] (Tf (.drw [o0 (mv 16 0),o0 (mv 17 5),o0 (ia 18 16 17 5),o0 (lw 19 18 5),o0 (mv 20 1),o0 (mv 21 5),o0 (ia 22 20 21 5),o0 (lw 23 22 5),o0 (O,.geq 24 T [.i,.i,.b,.i,.i] (S 19) (S 23))]) (dB 24 (Q1 [Nt 4 L])))) (dC 25 13)))
def Qm:Xg:=(Q1 [Nt 4 T])
def TN:Xg:=(Ky [Nt 4 L] (dG [mv 6 0,ln 7 6,mv 8 1,ln 9 8,bn 10 .neq 7 9] 10 (Q1 [Nt 4 L]) (Tf (Ky [mv 11 0,ln 12 11,dE 13 0] (dA 0 NJ)) Qm)))
def cq:=fun a0 a1 (k_:U→Q V)=>∀{v2} {zr},k_ v2=N zr→Kp I [0,1,12,13] [] [] ⟨[pL 0 X2.row a0,pL 1 X2.row a1,pI 12 (a0.length:U),pI 13 v2],[],[]⟩ (.code (.loop NJ):: [.blk 0,.code Qm]) (A6 [4] [.sc (.v (.bool zr))])
theorem A34{a0 a1}{n:W}:cq a0 a1 (I0 a0 a1 n):=by
 induction n with
 | zero=>intro _ r h; cases h
 | succ n ih=>
  intro v2 r h σ hσ;rw[I0] at h;refine AY ?_;obtain⟨h3,h⟩|⟨h3,h⟩:=ic h
  ·try simp only[hσ,h3,NJ,C,E,F,G,H,J]
   refine Ai ?_;obtain⟨x4,h4,h⟩:=ob h;obtain⟨x5,h5,h⟩:=ob h;obtain⟨h6,h⟩|⟨h6,h⟩:=ic h
   ·try simp only[h3,h4,h5,h6,C,E,F,G,H,J]
    refine ih h ?_;try simp only[h3,h4,h5,h6,C,E,F,G,H,J,pL,aM,zA]
   ·try simp only[h3,h4,h5,h6,C,E,F,G,H,J]
    cases h;exact t0
  ·try simp only[hσ,h3,NJ,Qm,C,E,F,G,H,J]
   cases h;exact t0
instance A8l:Ct 199 (∀{a0} {a1} {r},Ma a0 a1=N r→FC I 199 [.sc (.sl (Z X2.row a0)),.sc (.sl (Z X2.row a1))] [.sc (.v (.bool r))]):=by
 refine⟨fun{a0} {a1} {r} h=> ?_⟩;unfold Ma at h;refine ZV mixed TN [4] 26 ?_;simp only[TN,C,E,F,G,H,J];obtain⟨h1,h⟩|⟨h1,h⟩:=ic h
 ·try simp only[h1,C,E,F,G,H,J]
  cases h;exact t0
 ·try simp only[h1,C,E,F,G,H,J]
  refine A34 h ?_;try simp only[h1,C,E,F,G,H,J,pL,aM,zA]
instance A7h:Ct 171 (∀{a0} {a1} {r},Lv a0 a1=N r→FC I 171 [.ag (X0.row a0),.ag (X0.row a1)] [.sc (.v (.bool r))]):=by
 refine⟨fun h=> ?_⟩;unfold Lv at h;refine A2 mixed h0 [4] 31 ?_;exact gc
def Vb:Hw:=([(8,[3,4,5,7,14,15,16],[3,4,5],[768])],[])
def bN:=fun(a2:X0) (a0:X1) (a1:X3) (k_:U→(P U)→Q V)=>∀{v1 v2} {zr},k_ v1 v2=N zr→Kh I 131 Vb 8 [3,4,5,7,14,15,16] [3,4,5] [768] ⟨[pB 3,pB 4,pB 5,pW 7 768,pL 14 X2.row a2.Passages,pI 15 (a2.Passages.length:U),pI 16 v1],[(3,(dm a0.row)),(4,(dm a1.row)),(5,(dm a2.row))],[(768,1,Z rI v2)]⟩ (A6 [6] [.sc (.v (.bool zr))])
theorem A35{a2 a0 a1}{n:W}:bN a2 a0 a1 (Hu a2 a0 a1 n):=by
 induction n with
 | zero=>intro _ _ r h; cases h
 | succ n ih=>
  intro v1 v2 r h σ hσ;rw[Hu] at h;have s0:=fun(x4:X2)=> @AA (Z rI ([x4.Segment]:P U))
  exact gc
instance A6y:Ct 131 (∀{a0} {a1} {a2} {r},Lc a0 a1 a2=N r→FC I 131 [.ag (X1.row a0),.ag (X3.row a1),.ag (X0.row a2)] [.sc (.v (.bool r))]):=by
 refine⟨fun h=> ?_⟩;unfold Lc at h;refine A2 mixed Vb [6] 41 ?_;have s0:= @AA (Z rI ([]:P U));have k0:= @A35;exact gc
def Vc:Hw:=([(14,[2,3,20,21,22],[3],[])],[])
def bO:=fun a2 a1 (a0:X1) (k_:U→Q V)=>∀{v4} {zr},k_ v4=N zr→Kh I 91 Vc 14 [2,3,20,21,22] [3] [] ⟨[pL 2 X0.row a2,pB 3,pL 20 X3.row a1,pI 21 (a1.length:U),pI 22 v4],[(3,(dm a0.row))],[]⟩ (A6 [6] [.sc (.v (.bool zr))])
theorem A36{a2 a1 a0}{n:W}:bO a2 a1 a0 (Hv a2 a1 a0 n):=by
 induction n with
 | zero=>intro _ r h; cases h
 | succ n ih=>
  intro v4 r h σ hσ;rw[Hv] at h;exact gc
instance A6z:Ct 91 (∀{a0} {a1} {a2} {r},Ld a0 a1 a2=N r→FC I 91 [.ag (X1.row a0),.sc (.sl (Z X3.row a1)),.sc (.sl (Z X0.row a2))] [.sc (.v (.bool r))]):=by
 refine⟨fun h=> ?_⟩;unfold Ld at h;refine A2 mixed Vc [6] 48 ?_;have k0:= @A36;exact gc
def Vd:Hw:=([(16,[1,3,7,16,17,18],[3],[960])],[])
def bZ:=fun a1 a2 (a0:X1) (k_:U→(P (P X))→Q (P (P X)))=>∀{v3 v4} {zr},k_ v3 v4=N zr→Kh I 61 Vd 16 [1,3,7,16,17,18] [3] [960] ⟨[pL 1 X3.row a1,pB 3,pW 7 960,pL 16 X0.row a2,pI 17 (a2.length:U),pI 18 v3],[(3,(dm a0.row))],[(960,1,Z rS v4)]⟩ (A6 [6] [.sc (.o 1 (Z rS zr))])
theorem A37{a1 a2 a0}{n:W}:bZ a1 a2 a0 (HC a1 a2 a0 n):=by
 induction n with
 | zero=>intro _ _ r h; cases h
 | succ n ih=>
  intro v3 v4 r h σ hσ;rw[HC] at h;have s0:=fun(x8:X8) (x6:X0)=> @AA (Z rA ([(⟨T,x8.Name,0⟩:Xj),(⟨T,([115,116,97,114,116]:P X),0⟩:Xj),(⟨L,[],x6.Start⟩:Xj),(⟨T,([97,114,114,105,118,101]:P X),0⟩:Xj),(⟨L,[],x6.Arrival⟩:Xj),(⟨T,([119,97,105,116]:P X),0⟩:Xj),(⟨L,[],x6.Cost⟩:Xj)]:P Xj))
  have s1:=fun(r9:(P X))=> @AA (Z rS ([r9]:P (P X)))
  exact gc
instance yo:Ct 61 (∀{a0} {a1} {a2} {r},Jp a0 a1 a2=N r→FC I 61 [.ag (X1.row a0),.sc (.sl (Z X3.row a1)),.sc (.sl (Z X0.row a2))] [.sc (.o 1 (Z rS r))]):=by
 refine⟨fun h=> ?_⟩;unfold Jp at h;refine A2 mixed Vd [6] 53 ?_;have s0:= @AA (Z rS ([]:P (P X)));have k0:= @A37;exact gc
theorem jk:AG I 26=N ((Bq I 26 h0).strip,[4],68):=by kernel_rfl
theorem xw{a0}{a1}{r}(h:Cc a0 a1=N r):FCy I 26 [.p,.d (.sc (.str a1))] [.int .i64 a0.Harbour.Forecast.Tide.Mean,.sl (Z zB a0.Harbour.Forecast.Tide.Parts),.sl (Z zC a0.Harbour.Forecast.Surges),.sl (Z zD a0.Harbour.Chart.Points),.sl (Z X7.row a0.Harbour.Chart.Segments),.sl (Z X8.row a0.Harbour.Fleet),.int .i64 a0.Harbour.Regime.Gap,.bool a0.Harbour.Regime.NoMeet,.int .i64 a0.Harbour.Crew.Tugs,.int .i64 a0.Harbour.Crew.Pilots,.int .i64 a0.Harbour.Crew.Rest,.sl (Z rI a0.Harbour.Crew.Moves),.sl (Z X3.row a0.Calls),.int .i64 a0.Desk.Now,.sl (Z rI a0.Desk.Starts),.sl (Z rB a0.Desk.Cleared)] [.int .i64 r.2.Harbour.Forecast.Tide.Mean,.sl (Z zB r.2.Harbour.Forecast.Tide.Parts),.sl (Z zC r.2.Harbour.Forecast.Surges),.sl (Z zD r.2.Harbour.Chart.Points),.sl (Z X7.row r.2.Harbour.Chart.Segments),.sl (Z X8.row r.2.Harbour.Fleet),.int .i64 r.2.Harbour.Regime.Gap,.bool r.2.Harbour.Regime.NoMeet,.int .i64 r.2.Harbour.Crew.Tugs,.int .i64 r.2.Harbour.Crew.Pilots,.int .i64 r.2.Harbour.Crew.Rest,.sl (Z rI r.2.Harbour.Crew.Moves),.sl (Z X3.row r.2.Calls),.int .i64 r.2.Desk.Now,.sl (Z rI r.2.Desk.Starts),.sl (Z rB r.2.Desk.Cleared)] [.sc (.v (.str r.1))]:=by
 unfold Cc at h;refine Ci (σ:=⟨[(0,vc (.pb 99999999999 0)),(1,vc (aS a1))],[(99999999999,[aI a0.Harbour.Forecast.Tide.Mean,aL (Z zB a0.Harbour.Forecast.Tide.Parts),aL (Z zC a0.Harbour.Forecast.Surges),aL (Z zD a0.Harbour.Chart.Points),aL (Z X7.row a0.Harbour.Chart.Segments),aL (Z X8.row a0.Harbour.Fleet),aI a0.Harbour.Regime.Gap,aB a0.Harbour.Regime.NoMeet,aI a0.Harbour.Crew.Tugs,aI a0.Harbour.Crew.Pilots,aI a0.Harbour.Crew.Rest,aL (Z rI a0.Harbour.Crew.Moves),aL (Z X3.row a0.Calls),aI a0.Desk.Now,aL (Z rI a0.Desk.Starts),aL (Z rB a0.Desk.Cleared)])],[]⟩) mixed jk Y Y ?_;refine Bx h0 ?_;intro S hS;refine ev hS ?_;obtain⟨h1,h⟩|⟨h1,h⟩:=ic h
 ·try simp only[h1,C,E,F,G,H,J]
  refine Ai ?_;obtain⟨r2,h2,h⟩:=ob h;try simp only[h1,C,E,F,G,H,J]
  refine AX (A8 xh h2) ?_;obtain⟨r3,h3,h⟩:=ob h;try simp only[h1,C,E,F,G,H,J]
  refine AX (A8 Nc h3) ?_;try simp only[h1,C,E,F,G,H,J]
  cases h;exact t0
 ·obtain⟨h4,h⟩|⟨h4,h⟩:=ic h
  ·try simp only[h1,h4,C,E,F,G,H,J]
   refine Ai ?_;obtain⟨r5,h5,h⟩:=ob h;try simp only[h1,h4,C,E,F,G,H,J]
   refine AX (A8 yq h5) ?_;obtain⟨r6,h6,h⟩:=ob h;try simp only[h1,h4,C,E,F,G,H,J]
   refine AX (A8 Nc h6) ?_;try simp only[h1,h4,C,E,F,G,H,J]
   cases h;exact t0
  ·obtain⟨h7,h⟩|⟨h7,h⟩:=ic h
   ·obtain⟨r9,h9,h⟩:=ob h;try simp only[h1,h4,h7,C,E,F,G,H,J]
    refine Ao (A8 yc h9) ?_;obtain⟨r10,h10,h⟩:=ob h;try simp only[h1,h4,h7,C,E,F,G,H,J]
    refine Ao (A8 Nc h10) ?_;try simp only[h1,h4,h7,C,E,F,G,H,J]
    cases h;exact t0
   ·obtain⟨r11,h11,h⟩:=ob h;try simp only[h1,h4,h7,C,E,F,G,H,J]
    refine nc (xo h11) 99999999999 Y Y Y Y ?_;obtain⟨h12,h⟩|⟨h12,h⟩:=ic h
    ·obtain⟨h13,h⟩|⟨h13,h⟩:=ic h
     ·obtain⟨r14,h14,h⟩:=ob h;try simp only[h1,h4,h7,h12,h13,C,E,F,G,H,J]
      refine Ec (A8 yb h14) Y (Cm Y) Y (uf Y) ?_;obtain⟨r15,h15,h⟩:=ob h;try simp only[h1,h4,h7,h12,h13,C,E,F,G,H,J]
      refine Ao (A8 Nc h15) ?_;try simp only[h1,h4,h7,h12,h13,C,E,F,G,H,J]
      cases h;exact t0
     ·try simp only[h1,h4,h7,h12,h13,C,E,F,G,H,J]
      refine Ai ?_;obtain⟨r16,h16,h⟩:=ob h;try simp only[h1,h4,h7,h12,h13,C,E,F,G,H,J]
      refine FB (A8 yo h16) (by first | rfl | kernel_rfl) (Ea Y ⟨Eb,⟨⟩⟩) Y (uf Y) ?_;obtain⟨r17,h17,h⟩:=ob h;try simp only[h1,h4,h7,h12,h13,C,E,F,G,H,J]
      refine FB (A8 Sx h17) (by first | rfl | kernel_rfl) (Cm Y) Y (uf Y) ?_;obtain⟨r18,h18,h⟩:=ob h;try simp only[h1,h4,h7,h12,h13,C,E,F,G,H,J]
      refine AX (A8 Nc h18) ?_;try simp only[h1,h4,h7,h12,h13,C,E,F,G,H,J]
      cases h;exact t0
    ·try simp only[h1,h4,h7,h12,C,E,F,G,H,J]
     cases h;exact t0
def Ve:Hw:=([(24,[3,13,14,15],[],[768])],[])
def bH:=fun a0 (k_:U→(P (P X))→Q (P X))=>∀{v4 v5} {zr},k_ v4 v5=N zr→Kh I 94 Ve 24 [3,13,14,15] [] [768] ⟨[pW 3 768,pL 13 X9.row a0,pI 14 (a0.length:U),pI 15 v4],[],[(768,1,Z rS v5)]⟩ (A6 [2] [.sc (.v (.str zr))])
theorem A38{a0}{n:W}:bH a0 (Hq a0 n):=by
 induction n with
 | zero=>intro _ _ r h; cases h
 | succ n ih=>
  intro v4 v5 r h σ hσ;rw[Hq] at h;have s0:=fun(r9:(P X)) (r11:(P X))=> @AA (Z rS ([((r9++([45]:P X))++r11)]:P (P X)))
  exact gc
instance A6s:Ct 94 (∀{a0} {r},L8 a0=N r→FC I 94 [.sc (.sl (Z X9.row a0))] [.sc (.v (.str r))]):=by
 refine⟨fun h=> ?_⟩;unfold L8 at h;refine A2 mixed Ve [2] 33 ?_;have s0:= @AA (Z rS ([]:P (P X)));have k0:= @A38;exact gc
def Vg:Hw:=([(16,[3,4,5,7,25,26,27],[3,4,5],[1472])],[])
def bt:=fun(a1:X4) (a0:Xb) (a2:X8) (k_:U→(P (P X))→Q (P (P X)))=>∀{v7 v8} {zr},k_ v7 v8=N zr→Kh I 62 Vg 16 [3,4,5,7,25,26,27] [3,4,5] [1472] ⟨[pB 3,pB 4,pB 5,pW 7 1472,pL 25 X7.row a1.Segments,pI 26 (a1.Segments.length:U),pI 27 v7],[(3,(dm a0.row)),(4,(dm a1.row)),(5,(dm a2.row))],[(1472,1,Z rS v8)]⟩ (A6 [6] [.sc (.o 1 (Z rS zr))])
theorem A39{a1 a0 a2}{n:W}:bt a1 a0 a2 (HK a1 a0 a2 n):=by
 induction n with
 | zero=>intro _ _ r h; cases h
 | succ n ih=>
  intro v7 v8 r h σ hσ;rw[HK] at h;have s0:=fun(x11:Xa) (x13:Xa) (r16:(P X))=> @AA (Z rA ([(⟨T,((x11.Name++([45]:P X))++x13.Name),0⟩:Xj),(⟨T,r16,0⟩:Xj)]:P Xj))
  have s1:=fun(r17:(P X))=> @AA (Z rS ([r17]:P (P X)))
  exact gc
instance A7o:Ct 62 (∀{a0} {a1} {a2} {r},LC a0 a1 a2=N r→FC I 62 [.ag (Xb.row a0),.ag (X4.row a1),.ag (X8.row a2)] [.sc (.o 1 (Z rS r))]):=by
 refine⟨fun h=> ?_⟩;unfold LC at h;refine A2 mixed Vg [6] 63 ?_;have s0:= @AA (Z rS ([]:P (P X)));have k0:= @A39;exact gc
theorem jl:AG I 27=N ((Bq I 27 h0).strip,[4],36):=by kernel_rfl
theorem xz{a0}{a1}{r}(h:Jg a0 a1=N r):FCy I 27 [.p,.d (.sc (.str a1))] [.int .i64 a0.Harbour.Forecast.Tide.Mean,.sl (Z zB a0.Harbour.Forecast.Tide.Parts),.sl (Z zC a0.Harbour.Forecast.Surges),.sl (Z zD a0.Harbour.Chart.Points),.sl (Z X7.row a0.Harbour.Chart.Segments),.sl (Z X8.row a0.Harbour.Fleet),.int .i64 a0.Harbour.Regime.Gap,.bool a0.Harbour.Regime.NoMeet,.int .i64 a0.Harbour.Crew.Tugs,.int .i64 a0.Harbour.Crew.Pilots,.int .i64 a0.Harbour.Crew.Rest,.sl (Z rI a0.Harbour.Crew.Moves),.sl (Z X3.row a0.Calls),.int .i64 a0.Desk.Now,.sl (Z rI a0.Desk.Starts),.sl (Z rB a0.Desk.Cleared)] [.int .i64 r.2.Harbour.Forecast.Tide.Mean,.sl (Z zB r.2.Harbour.Forecast.Tide.Parts),.sl (Z zC r.2.Harbour.Forecast.Surges),.sl (Z zD r.2.Harbour.Chart.Points),.sl (Z X7.row r.2.Harbour.Chart.Segments),.sl (Z X8.row r.2.Harbour.Fleet),.int .i64 r.2.Harbour.Regime.Gap,.bool r.2.Harbour.Regime.NoMeet,.int .i64 r.2.Harbour.Crew.Tugs,.int .i64 r.2.Harbour.Crew.Pilots,.int .i64 r.2.Harbour.Crew.Rest,.sl (Z rI r.2.Harbour.Crew.Moves),.sl (Z X3.row r.2.Calls),.int .i64 r.2.Desk.Now,.sl (Z rI r.2.Desk.Starts),.sl (Z rB r.2.Desk.Cleared)] [.sc (.v (.str r.1))]:=by
 unfold Jg at h;refine Ci (σ:=⟨[(0,vc (.pb 99999999999 0)),(1,vc (aS a1))],[(99999999999,[aI a0.Harbour.Forecast.Tide.Mean,aL (Z zB a0.Harbour.Forecast.Tide.Parts),aL (Z zC a0.Harbour.Forecast.Surges),aL (Z zD a0.Harbour.Chart.Points),aL (Z X7.row a0.Harbour.Chart.Segments),aL (Z X8.row a0.Harbour.Fleet),aI a0.Harbour.Regime.Gap,aB a0.Harbour.Regime.NoMeet,aI a0.Harbour.Crew.Tugs,aI a0.Harbour.Crew.Pilots,aI a0.Harbour.Crew.Rest,aL (Z rI a0.Harbour.Crew.Moves),aL (Z X3.row a0.Calls),aI a0.Desk.Now,aL (Z rI a0.Desk.Starts),aL (Z rB a0.Desk.Cleared)])],[]⟩) mixed jl Y Y ?_;refine Bx h0 ?_;exact gc
def Vh:Hw:=([(5,[1,2,15],[2],[])],[])
def bu:=fun a1 (a0:Xb) (k_:V→Q (U × U × V))=>∀{v4} {zr},k_ v4=N zr→Kh I 63 Vh 5 [1,2,15] [2] [] ⟨[pI 1 a1,pB 2,(15,vc (aB v4))],[(2,(dm a0.row))],[]⟩ (A6 [4,5,6] [.sc (.v (.int .i64 zr.1)),.sc (.v (.int .i64 zr.2.1)),.sc (.v (.bool zr.2.2))])
theorem A4a{a1 a0}:bu a1 a0 (Ju a1 a0):=by
 intro v4 r h σ hσ S hS;refine ev hS ?_;refine Aw ?_;unfold Ju at h;obtain⟨h5,h⟩|⟨h5,h⟩:=ic h
 ·try simp only[hσ,h5,C,E,F,G,H,J]
  cases h;trivial
 ·try simp only[hσ,h5,C,E,F,G,H,J]
  refine Ai ?_;obtain⟨r6,h6,h⟩:=ob h;try simp only[h5,C,E,F,G,H,J]
  refine AX (A8 yg h6) ?_;obtain⟨x7,h7,h⟩:=ob h;try simp only[h5,h7,C,E,F,G,H,J]
  refine OK (m:= .box 7 [aI (0:U),aI (0:U),aI (0:U)]) Y Y (K4 Y Y) ?_;try simp only[h5,h7,C,E,F,G,H,J]
  refine Ai ?_;try simp only[h5,h7,C,E,F,G,H,J]
  refine Ai ?_;try simp only[h5,h7,C,E,F,G,H,J]
  cases h;trivial
instance yz:Ct 63 (∀{a0} {a1} {r},Od a0 a1=N r→FC I 63 [.ag (Xb.row a0),.sc (.int .i64 a1)] [.sc (.v (.int .i64 r.1)),.sc (.v (.int .i64 r.2.1)),.sc (.v (.bool r.2.2))]):=by
 refine⟨fun h=> ?_⟩;unfold Od at h;refine A2 mixed Vh [4,5,6] 27 ?_;have k0:= @A4a;exact gc
instance yj:Ct 65 (∀{a0} {a1} {r},O5 a0 a1=N r→FC I 65 [.ag (Xb.row a0),.sc (.int .i64 a1)] [.sc (.v (.int .i64 r))]):=by
 refine⟨fun h=> ?_⟩;unfold O5 at h;refine A2 mixed h0 [4] 16 ?_;exact gc
instance A6q:Ct 99 (∀{a0} {a1} {r},L7 a0 a1=N r→FC I 99 [.ag (Xb.row a0),.sc (.int .i64 a1)] [.sc (.v (.int .i64 r))]):=by
 refine⟨fun h=> ?_⟩;unfold L7 at h;refine A2 mixed h0 [4] 18 ?_;exact gc
instance yi:Ct 66 (∀{a0} {a1} {r},O4 a0 a1=N r→FC I 66 [.ag (Xb.row a0),.sc (.int .i64 a1)] [.sc (.v (.int .i64 r))]):=by
 refine⟨fun h=> ?_⟩;unfold O4 at h;refine A2 mixed h0 [4] 16 ?_;exact gc
theorem jm:AG I 28=N ((Bq I 28 h0).strip,[4],48):=by kernel_rfl
theorem xv{a0}{a1}{r}(h:G4 a0 a1=N r):FCy I 28 [.p,.d (.sc (.str a1))] [.int .i64 a0.Harbour.Forecast.Tide.Mean,.sl (Z zB a0.Harbour.Forecast.Tide.Parts),.sl (Z zC a0.Harbour.Forecast.Surges),.sl (Z zD a0.Harbour.Chart.Points),.sl (Z X7.row a0.Harbour.Chart.Segments),.sl (Z X8.row a0.Harbour.Fleet),.int .i64 a0.Harbour.Regime.Gap,.bool a0.Harbour.Regime.NoMeet,.int .i64 a0.Harbour.Crew.Tugs,.int .i64 a0.Harbour.Crew.Pilots,.int .i64 a0.Harbour.Crew.Rest,.sl (Z rI a0.Harbour.Crew.Moves),.sl (Z X3.row a0.Calls),.int .i64 a0.Desk.Now,.sl (Z rI a0.Desk.Starts),.sl (Z rB a0.Desk.Cleared)] [.int .i64 r.2.Harbour.Forecast.Tide.Mean,.sl (Z zB r.2.Harbour.Forecast.Tide.Parts),.sl (Z zC r.2.Harbour.Forecast.Surges),.sl (Z zD r.2.Harbour.Chart.Points),.sl (Z X7.row r.2.Harbour.Chart.Segments),.sl (Z X8.row r.2.Harbour.Fleet),.int .i64 r.2.Harbour.Regime.Gap,.bool r.2.Harbour.Regime.NoMeet,.int .i64 r.2.Harbour.Crew.Tugs,.int .i64 r.2.Harbour.Crew.Pilots,.int .i64 r.2.Harbour.Crew.Rest,.sl (Z rI r.2.Harbour.Crew.Moves),.sl (Z X3.row r.2.Calls),.int .i64 r.2.Desk.Now,.sl (Z rI r.2.Desk.Starts),.sl (Z rB r.2.Desk.Cleared)] [.sc (.v (.str r.1))]:=by
 unfold G4 at h;refine Ci (σ:=⟨[(0,vc (.pb 99999999999 0)),(1,vc (aS a1))],[(99999999999,[aI a0.Harbour.Forecast.Tide.Mean,aL (Z zB a0.Harbour.Forecast.Tide.Parts),aL (Z zC a0.Harbour.Forecast.Surges),aL (Z zD a0.Harbour.Chart.Points),aL (Z X7.row a0.Harbour.Chart.Segments),aL (Z X8.row a0.Harbour.Fleet),aI a0.Harbour.Regime.Gap,aB a0.Harbour.Regime.NoMeet,aI a0.Harbour.Crew.Tugs,aI a0.Harbour.Crew.Pilots,aI a0.Harbour.Crew.Rest,aL (Z rI a0.Harbour.Crew.Moves),aL (Z X3.row a0.Calls),aI a0.Desk.Now,aL (Z rI a0.Desk.Starts),aL (Z rB a0.Desk.Cleared)])],[]⟩) mixed jm Y Y ?_;refine Bx h0 ?_;intro S hS;refine ev hS ?_;obtain⟨r1,h1,h⟩:=ob h;try simp only[C,E,F,G,H,J]
 refine Ao (Sz _ _ h1) ?_;obtain⟨h2,h⟩|⟨h2,h⟩:=ic h
 ·obtain⟨r3,h3,h⟩:=ob h;try simp only[h2,C,E,F,G,H,J]
  refine Ao (A8 yz h3) ?_;obtain⟨h4,h⟩|⟨h4,h⟩:=ic h
  ·try simp only[h2,h4,C,E,F,G,H,J]
   refine Ai ?_;obtain⟨r5,h5,h⟩:=ob h;try simp only[h2,h4,C,E,F,G,H,J]
   refine AX (A8 yj h5) ?_;obtain⟨r6,h6,h⟩:=ob h;try simp only[h2,h4,C,E,F,G,H,J]
   refine AX (A8 GX h6) ?_;obtain⟨h7,h⟩:=AN h;obtain⟨r9,h9,h⟩:=ob h;try simp only[h2,h4,h7,C,E,F,G,H,J]
   refine AX (A8 yi h9) ?_;obtain⟨r10,h10,h⟩:=ob h;try simp only[h2,h4,h7,C,E,F,G,H,J]
   refine AX (A8 GX h10) ?_;obtain⟨h11,h⟩:=AN h;try simp only[h2,h4,h7,h11,C,E,F,G,H,J]
   cases h;exact t0
  ·try simp only[h2,h4,C,E,F,G,H,J]
   cases h;exact t0
 ·try simp only[h2,C,E,F,G,H,J]
  cases h;exact t0
def Re:Hw:=([(22,[0,7,11,37,38,39],[99999999999,7],[2112,2368])],[])
def ah:=fun r5 (a0:X6) (k_:U→(P (P X))→Q ((P X) × X6))=>∀{v6 v7} {zr},k_ v6 v7=N zr→Kh I 29 Re 22 [0,7,11,37,38,39] [99999999999,7] [2112,2368] ⟨[(0,vc (.pb 99999999999 0)),pB 7,pW 11 2112,pW 37 2368,pI 38 (r5.length:U),pI 39 v6],[(99999999999,(dm a0.row)),(7,(dm a0.Harbour.Chart.row))],[(2112,1,Z rS v7),(2368,1,Z rI r5)]⟩ (C9 [6] [.sc (.v (.str zr.1))] [.int .i64 zr.2.Harbour.Forecast.Tide.Mean,.sl (Z zB zr.2.Harbour.Forecast.Tide.Parts),.sl (Z zC zr.2.Harbour.Forecast.Surges),.sl (Z zD zr.2.Harbour.Chart.Points),.sl (Z X7.row zr.2.Harbour.Chart.Segments),.sl (Z X8.row zr.2.Harbour.Fleet),.int .i64 zr.2.Harbour.Regime.Gap,.bool zr.2.Harbour.Regime.NoMeet,.int .i64 zr.2.Harbour.Crew.Tugs,.int .i64 zr.2.Harbour.Crew.Pilots,.int .i64 zr.2.Harbour.Crew.Rest,.sl (Z rI zr.2.Harbour.Crew.Moves),.sl (Z X3.row zr.2.Calls),.int .i64 zr.2.Desk.Now,.sl (Z rI zr.2.Desk.Starts),.sl (Z rB zr.2.Desk.Cleared)])
theorem A4b{r5 a0}{n:W}:ah r5 a0 (Hi r5 a0 n):=by
 induction n with
 | zero=>intro _ _ r h; cases h
 | succ n ih=>
  intro v6 v7 r h σ hσ S hS;refine ev hS ?_;rw[Hi] at h;refine AY (Aw ?_);obtain⟨h8,h⟩|⟨h8,h⟩:=ic h
  ·obtain⟨x9,h9,h⟩:=ob h;have h9n:=Am h9;obtain⟨x10,h10,h⟩:=ob h;try simp only[hσ,h8,h9,h9n,h10,C,E,F,G,H,J]
   refine AS (es:=Z rS ([x10.Name]:P (P X))) ?_;obtain⟨h11,h⟩:=AN h;try simp only[h8,h9,h9n,h10,h11,C,E,F,G,H,J]
   refine ih h ?_ (by kernel_rfl);try simp only[h8,h9,h9n,h10,h11,C,E,F,G,H,J,pL,aM,zA]
  ·obtain⟨r12,h12,h⟩:=ob h;try simp only[hσ,h8,C,E,F,G,H,J]
   refine Ec (A8 Sx h12) Y (Cm Y) Y (uf Y) ?_;try simp only[h8,C,E,F,G,H,J]
   cases h;exact t0
theorem jo:AG I 29=N ((Bq I 29 Re).strip,[6],55):=by kernel_rfl
theorem xx{a0}{a1}{a2}{r}(h:Fc a0 a1 a2=N r):FCy I 29 [.p,.d (.sc (.str a1)),.d (.sc (.str a2))] [.int .i64 a0.Harbour.Forecast.Tide.Mean,.sl (Z zB a0.Harbour.Forecast.Tide.Parts),.sl (Z zC a0.Harbour.Forecast.Surges),.sl (Z zD a0.Harbour.Chart.Points),.sl (Z X7.row a0.Harbour.Chart.Segments),.sl (Z X8.row a0.Harbour.Fleet),.int .i64 a0.Harbour.Regime.Gap,.bool a0.Harbour.Regime.NoMeet,.int .i64 a0.Harbour.Crew.Tugs,.int .i64 a0.Harbour.Crew.Pilots,.int .i64 a0.Harbour.Crew.Rest,.sl (Z rI a0.Harbour.Crew.Moves),.sl (Z X3.row a0.Calls),.int .i64 a0.Desk.Now,.sl (Z rI a0.Desk.Starts),.sl (Z rB a0.Desk.Cleared)] [.int .i64 r.2.Harbour.Forecast.Tide.Mean,.sl (Z zB r.2.Harbour.Forecast.Tide.Parts),.sl (Z zC r.2.Harbour.Forecast.Surges),.sl (Z zD r.2.Harbour.Chart.Points),.sl (Z X7.row r.2.Harbour.Chart.Segments),.sl (Z X8.row r.2.Harbour.Fleet),.int .i64 r.2.Harbour.Regime.Gap,.bool r.2.Harbour.Regime.NoMeet,.int .i64 r.2.Harbour.Crew.Tugs,.int .i64 r.2.Harbour.Crew.Pilots,.int .i64 r.2.Harbour.Crew.Rest,.sl (Z rI r.2.Harbour.Crew.Moves),.sl (Z X3.row r.2.Calls),.int .i64 r.2.Desk.Now,.sl (Z rI r.2.Desk.Starts),.sl (Z rB r.2.Desk.Cleared)] [.sc (.v (.str r.1))]:=by
 unfold Fc at h;refine Ci (σ:=⟨[(0,vc (.pb 99999999999 0)),(1,vc (aS a1)),(2,vc (aS a2))],[(99999999999,[aI a0.Harbour.Forecast.Tide.Mean,aL (Z zB a0.Harbour.Forecast.Tide.Parts),aL (Z zC a0.Harbour.Forecast.Surges),aL (Z zD a0.Harbour.Chart.Points),aL (Z X7.row a0.Harbour.Chart.Segments),aL (Z X8.row a0.Harbour.Fleet),aI a0.Harbour.Regime.Gap,aB a0.Harbour.Regime.NoMeet,aI a0.Harbour.Crew.Tugs,aI a0.Harbour.Crew.Pilots,aI a0.Harbour.Crew.Rest,aL (Z rI a0.Harbour.Crew.Moves),aL (Z X3.row a0.Calls),aI a0.Desk.Now,aL (Z rI a0.Desk.Starts),aL (Z rB a0.Desk.Cleared)])],[]⟩) mixed jo Y Y ?_;refine Bx Re ?_;have s0:= @AA (Z rS ([]:P (P X)));have k0:= @A4b;exact gc
def ZN:P (P W × AItem):= [([],(O,.mv 119 (S 0))),([],(O,.mv 120 (S 5))),([1],(O,.iaddr 121 (S 120) (K 1) 1)),([2],(O,.load 122 (S 121) L 1)),([],(O,.mv 123 (S 5))),([4],(O,.iaddr 124 (S 123) (K 2) 1)),([5],(O,.load 125 (S 124) L 1)),([0,3,6],(O,.call 126 29 [(S 119),(S 122),(S 125)])),([7,7,0,1,2,3,4,5,6,7],(O,.mv 4 (S 126)))]
def FD:Hw:=([(18,[0,1,5,10,11],[99999999999],[448]),(36,[0,5,10,19],[99999999999],[448]),(60,[0,5,32],[99999999999],[448]),(69,[0,5,40],[99999999999],[448]),(75,[0,5,79],[99999999999],[448]),(81,[0,5,94],[99999999999],[448]),(87,[0,5,109],[99999999999],[448])],[(20,3,(O,.frz 448)),(38,2,(O,.frz 448)),(44,2,(O,.frz 448)),(62,2,(O,.frz 448))])
abbrev IA(x48 x49:P X)(r50:(P X) × X6)(c0_ c1_:V)(c2_ c3_:V)(c4_ c5_:V)(c6_ c7_ c8_:V)(bx_:P (W × P AC))(rs_:Rows):St:=⟨[(0,vc (.pb 99999999999 0)),(5,vc (.own 448)),(119,bif c0_ then vc (.pb 99999999999 0) else .undef),(120,bif c1_ then vc (.own 448) else .undef),(121,bif c2_ then vc (.pe 448 (Int.toNat (1:U)) 0) else .undef),(122,bif c3_ then vc (aS x48) else .undef),(123,bif c4_ then vc (.own 448) else .undef),(124,bif c5_ then vc (.pe 448 (Int.toNat (2:U)) 0) else .undef),(125,bif c6_ then vc (aS x49) else .undef),(126,bif c7_ then vc (aS r50.1) else .undef),(4,bif c8_ then vc (aS r50.1) else .undef)],bx_,rs_⟩
abbrev PH(r1:(P (P X)))(x48 x49:P X)(r50:(P X) × X6):St:=(IA x48 x49 r50 T T T T T T T T T [(99999999999,(dm r50.2.row))] [(448,1,Z rS r1)])
theorem A4c(a0 r1 x48 x49 r50)(h48:ix r1 (1:U)=N x48)(h49:ix r1 (2:U)=N x49)(h50:Fc a0 x48 x49=N r50):∀(f:W) (b1 b2:V) (b4 b5 b8:V),Av I ZN (PH r1 x48 x49 r50) f [T,b1,b2,T,b4,b5,T,T,b8] (IA x48 x49 r50 T b1 b2 T b4 b5 T T b8 [(99999999999,(dm r50.2.row))] [(448,1,Z rS r1)]):=by
 intro f;have h48n:=Am h48;have h49n:=Am h49
 induction f with
 | zero=>
  intro b1 b2 b4 b5 b8 h;obtain rfl:b1=T:=zE.1 h b1 (by simp);obtain rfl:b2=T:=zE.1 h b2 (by simp);obtain rfl:b4=T:=zE.1 h b4 (by simp);obtain rfl:b5=T:=zE.1 h b5 (by simp);obtain rfl:b8=T:=zE.1 h b8 (by simp);rfl
 | succ f ih=>
  intro b1 b2 b4 b5 b8;refine AF ⟨?_,?_,?_,?_,?_,?_,?_,?_,?_,⟨⟩⟩<;>try first | (intro h; cases h; done) | (intro h0 hw; obtain rfl:=hz h0 rfl; (try obtain rfl:=hq hw 1 rfl rfl); (try obtain rfl:=hq hw 2 rfl rfl); (try obtain rfl:=hq hw 4 rfl rfl); (try obtain rfl:=hq hw 5 rfl rfl); refine np ?_; simp only[h48,h48n,h49,h49n,IA,Ac,Af,A7,C,E,F,G,H,J]; exact ih _ _ _ _ _)
theorem A4d(a0 r1 x48 x49 r50)(h48:ix r1 (1:U)=N x48)(h49:ix r1 (2:U)=N x49)(h50:Fc a0 x48 x49=N r50):∀(f:W) (b0 b1:V) (b2 b3:V) (b4 b5 b6:V),Av I ZN (PH r1 x48 x49 r50) f [b0,b1,b2,b3,b4,b5,b6,L,L] (IA x48 x49 r50 b0 b1 b2 b3 b4 b5 b6 L L [(99999999999,(dm a0.row))] [(448,1,Z rS r1)]):=by
 intro f;have h48n:=Am h48;have h49n:=Am h49
 induction f with
 | zero=>intro b0 b1 b2 b3 b4 b5 b6 h; simp at h
 | succ f ih=>
  intro b0 b1 b2 b3 b4 b5 b6;refine AF ⟨?_,?_,?_,?_,?_,?_,?_,?_,?_,⟨⟩⟩<;>try first | (intro _ hw; simp at hw; done) | (intro h0 hw; obtain rfl:=hz h0 rfl; (try obtain rfl:=hq hw 1 rfl rfl); (try obtain rfl:=hq hw 2 rfl rfl); (try obtain rfl:=hq hw 4 rfl rfl); (try obtain rfl:=hq hw 5 rfl rfl); refine np ?_; simp only[h48,h48n,h49,h49n,IA,Ac,Af,A7,C,E,F,G,H,J]; exact ih _ _ _ _ _ _ _)
  ·intro h0 hw;obtain rfl:=hq hw 0 rfl rfl;obtain rfl:=hq hw 3 rfl rfl;obtain rfl:=hq hw 6 rfl rfl;refine np ?_;try simp only[IA,Ac,Af,A7,C,E,F,G,H,J]
   refine AW (xx h50) 99999999999 ?_;try simp only[A7,C,E,F,G,H,J]
   exact A4c a0 r1 x48 x49 r50 h48 h49 h50 _ b1 b2 b4 b5 L
def as_:=fun(a0:X6) r1 (k_:V→Q ((P X) × X6))=>∀{v46} {zr},k_ v46=N zr→Kh I 13 FD 87 [0,5,109] [99999999999] [448] ⟨[(0,vc (.pb 99999999999 0)),pW 5 448,(109,vc (aB v46))],[(99999999999,(dm a0.row))],[(448,1,Z rS r1)]⟩ (C9 [4] [.sc (.v (.str zr.1))] [.int .i64 zr.2.Harbour.Forecast.Tide.Mean,.sl (Z zB zr.2.Harbour.Forecast.Tide.Parts),.sl (Z zC zr.2.Harbour.Forecast.Surges),.sl (Z zD zr.2.Harbour.Chart.Points),.sl (Z X7.row zr.2.Harbour.Chart.Segments),.sl (Z X8.row zr.2.Harbour.Fleet),.int .i64 zr.2.Harbour.Regime.Gap,.bool zr.2.Harbour.Regime.NoMeet,.int .i64 zr.2.Harbour.Crew.Tugs,.int .i64 zr.2.Harbour.Crew.Pilots,.int .i64 zr.2.Harbour.Crew.Rest,.sl (Z rI zr.2.Harbour.Crew.Moves),.sl (Z X3.row zr.2.Calls),.int .i64 zr.2.Desk.Now,.sl (Z rI zr.2.Desk.Starts),.sl (Z rB zr.2.Desk.Cleared)])
def ar:=fun(a0:X6) r1 (k_:V→Q ((P X) × X6))=>∀{v40} {zr},k_ v40=N zr→Kh I 13 FD 81 [0,5,94] [99999999999] [448] ⟨[(0,vc (.pb 99999999999 0)),pW 5 448,(94,vc (aB v40))],[(99999999999,(dm a0.row))],[(448,1,Z rS r1)]⟩ (C9 [4] [.sc (.v (.str zr.1))] [.int .i64 zr.2.Harbour.Forecast.Tide.Mean,.sl (Z zB zr.2.Harbour.Forecast.Tide.Parts),.sl (Z zC zr.2.Harbour.Forecast.Surges),.sl (Z zD zr.2.Harbour.Chart.Points),.sl (Z X7.row zr.2.Harbour.Chart.Segments),.sl (Z X8.row zr.2.Harbour.Fleet),.int .i64 zr.2.Harbour.Regime.Gap,.bool zr.2.Harbour.Regime.NoMeet,.int .i64 zr.2.Harbour.Crew.Tugs,.int .i64 zr.2.Harbour.Crew.Pilots,.int .i64 zr.2.Harbour.Crew.Rest,.sl (Z rI zr.2.Harbour.Crew.Moves),.sl (Z X3.row zr.2.Calls),.int .i64 zr.2.Desk.Now,.sl (Z rI zr.2.Desk.Starts),.sl (Z rB zr.2.Desk.Cleared)])
def aq:=fun(a0:X6) r1 (k_:V→Q ((P X) × X6))=>∀{v34} {zr},k_ v34=N zr→Kh I 13 FD 75 [0,5,79] [99999999999] [448] ⟨[(0,vc (.pb 99999999999 0)),pW 5 448,(79,vc (aB v34))],[(99999999999,(dm a0.row))],[(448,1,Z rS r1)]⟩ (C9 [4] [.sc (.v (.str zr.1))] [.int .i64 zr.2.Harbour.Forecast.Tide.Mean,.sl (Z zB zr.2.Harbour.Forecast.Tide.Parts),.sl (Z zC zr.2.Harbour.Forecast.Surges),.sl (Z zD zr.2.Harbour.Chart.Points),.sl (Z X7.row zr.2.Harbour.Chart.Segments),.sl (Z X8.row zr.2.Harbour.Fleet),.int .i64 zr.2.Harbour.Regime.Gap,.bool zr.2.Harbour.Regime.NoMeet,.int .i64 zr.2.Harbour.Crew.Tugs,.int .i64 zr.2.Harbour.Crew.Pilots,.int .i64 zr.2.Harbour.Crew.Rest,.sl (Z rI zr.2.Harbour.Crew.Moves),.sl (Z X3.row zr.2.Calls),.int .i64 zr.2.Desk.Now,.sl (Z rI zr.2.Desk.Starts),.sl (Z rB zr.2.Desk.Cleared)])
def am:=fun(a0:X6) r1 (k_:V→Q ((P X) × X6))=>∀{v28} {zr},k_ v28=N zr→Kh I 13 FD 69 [0,5,40] [99999999999] [448] ⟨[(0,vc (.pb 99999999999 0)),pW 5 448,(40,vc (aB v28))],[(99999999999,(dm a0.row))],[(448,1,Z rS r1)]⟩ (C9 [4] [.sc (.v (.str zr.1))] [.int .i64 zr.2.Harbour.Forecast.Tide.Mean,.sl (Z zB zr.2.Harbour.Forecast.Tide.Parts),.sl (Z zC zr.2.Harbour.Forecast.Surges),.sl (Z zD zr.2.Harbour.Chart.Points),.sl (Z X7.row zr.2.Harbour.Chart.Segments),.sl (Z X8.row zr.2.Harbour.Fleet),.int .i64 zr.2.Harbour.Regime.Gap,.bool zr.2.Harbour.Regime.NoMeet,.int .i64 zr.2.Harbour.Crew.Tugs,.int .i64 zr.2.Harbour.Crew.Pilots,.int .i64 zr.2.Harbour.Crew.Rest,.sl (Z rI zr.2.Harbour.Crew.Moves),.sl (Z X3.row zr.2.Calls),.int .i64 zr.2.Desk.Now,.sl (Z rI zr.2.Desk.Starts),.sl (Z rB zr.2.Desk.Cleared)])
def al:=fun(a0:X6) r1 (k_:V→Q ((P X) × X6))=>∀{v19} {zr},k_ v19=N zr→Kh I 13 FD 60 [0,5,32] [99999999999] [448] ⟨[(0,vc (.pb 99999999999 0)),pW 5 448,(32,vc (aB v19))],[(99999999999,(dm a0.row))],[(448,1,Z rS r1)]⟩ (C9 [4] [.sc (.v (.str zr.1))] [.int .i64 zr.2.Harbour.Forecast.Tide.Mean,.sl (Z zB zr.2.Harbour.Forecast.Tide.Parts),.sl (Z zC zr.2.Harbour.Forecast.Surges),.sl (Z zD zr.2.Harbour.Chart.Points),.sl (Z X7.row zr.2.Harbour.Chart.Segments),.sl (Z X8.row zr.2.Harbour.Fleet),.int .i64 zr.2.Harbour.Regime.Gap,.bool zr.2.Harbour.Regime.NoMeet,.int .i64 zr.2.Harbour.Crew.Tugs,.int .i64 zr.2.Harbour.Crew.Pilots,.int .i64 zr.2.Harbour.Crew.Rest,.sl (Z rI zr.2.Harbour.Crew.Moves),.sl (Z X3.row zr.2.Calls),.int .i64 zr.2.Desk.Now,.sl (Z rI zr.2.Desk.Starts),.sl (Z rB zr.2.Desk.Cleared)])
def ak:=fun x2 (a0:X6) r1 (k_:V→Q ((P X) × X6))=>∀{v11} {zr},k_ v11=N zr→Kh I 13 FD 36 [0,5,10,19] [99999999999] [448] ⟨[(0,vc (.pb 99999999999 0)),pW 5 448,(10,vc (aS x2)),(19,vc (aB v11))],[(99999999999,(dm a0.row))],[(448,1,Z rS r1)]⟩ (C9 [4] [.sc (.v (.str zr.1))] [.int .i64 zr.2.Harbour.Forecast.Tide.Mean,.sl (Z zB zr.2.Harbour.Forecast.Tide.Parts),.sl (Z zC zr.2.Harbour.Forecast.Surges),.sl (Z zD zr.2.Harbour.Chart.Points),.sl (Z X7.row zr.2.Harbour.Chart.Segments),.sl (Z X8.row zr.2.Harbour.Fleet),.int .i64 zr.2.Harbour.Regime.Gap,.bool zr.2.Harbour.Regime.NoMeet,.int .i64 zr.2.Harbour.Crew.Tugs,.int .i64 zr.2.Harbour.Crew.Pilots,.int .i64 zr.2.Harbour.Crew.Rest,.sl (Z rI zr.2.Harbour.Crew.Moves),.sl (Z X3.row zr.2.Calls),.int .i64 zr.2.Desk.Now,.sl (Z rI zr.2.Desk.Starts),.sl (Z rB zr.2.Desk.Cleared)])
def aj:=fun a1 x2 (a0:X6) r1 (k_:V→Q ((P X) × X6))=>∀{v5} {zr},k_ v5=N zr→Kh I 13 FD 18 [0,1,5,10,11] [99999999999] [448] ⟨[(0,vc (.pb 99999999999 0)),(1,vc (aS a1)),pW 5 448,(10,vc (aS x2)),(11,vc (aB v5))],[(99999999999,(dm a0.row))],[(448,1,Z rS r1)]⟩ (C9 [4] [.sc (.v (.str zr.1))] [.int .i64 zr.2.Harbour.Forecast.Tide.Mean,.sl (Z zB zr.2.Harbour.Forecast.Tide.Parts),.sl (Z zC zr.2.Harbour.Forecast.Surges),.sl (Z zD zr.2.Harbour.Chart.Points),.sl (Z X7.row zr.2.Harbour.Chart.Segments),.sl (Z X8.row zr.2.Harbour.Fleet),.int .i64 zr.2.Harbour.Regime.Gap,.bool zr.2.Harbour.Regime.NoMeet,.int .i64 zr.2.Harbour.Crew.Tugs,.int .i64 zr.2.Harbour.Crew.Pilots,.int .i64 zr.2.Harbour.Crew.Rest,.sl (Z rI zr.2.Harbour.Crew.Moves),.sl (Z X3.row zr.2.Calls),.int .i64 zr.2.Desk.Now,.sl (Z rI zr.2.Desk.Starts),.sl (Z rB zr.2.Desk.Cleared)])
theorem ZD{a0 r1}:as_ a0 r1 (NY a0 r1):=by
 intro v46 r h σ hσ S hS;refine ev hS ?_;refine Aw ?_;unfold NY at h;obtain⟨h47,h⟩|⟨h47,h⟩:=ic h
 ·try simp only[hσ,h47,C,E,F,G,H,J]
  obtain⟨x48,h48,h⟩:=ob h;obtain⟨x49,h49,h⟩:=ob h;obtain⟨r50,h50,h⟩:=ob h;have h48n:=Am h48;have h49n:=Am h49;refine EJ (ks:= [0,5]) (bs:= [99999999999]) (rs:= [448]) (τ:=(PH r1 x48 x49 r50)) Y (A4d a0 r1 x48 x49 r50 h48 h49 h50 _ L L L L L L L) ?_;simp only[PH,IA,Ac];try simp only[h47,h48,h48n,h49,h49n,C,E,F,G,H,J]
  cases h;exact t0
 ·try simp only[hσ,h47,C,E,F,G,H,J]
  cases h;exact t0
theorem ZE{a0 r1}:ar a0 r1 (NX a0 r1):=by
 intro v40 r h σ hσ S hS;refine ev hS ?_;refine Aw ?_;unfold NX at h;obtain⟨h41,h⟩|⟨h41,h⟩:=ic h
 ·obtain⟨x42,h42,h⟩:=ob h;have h42n:=Am h42;obtain⟨r43,h43,h⟩:=ob h;try simp only[hσ,h41,h42,h42n,C,E,F,G,H,J]
  refine AW (xv h43) 99999999999 ?_;try simp only[h41,h42,h42n,C,E,F,G,H,J]
  cases h;exact t0
 ·obtain⟨h44,h⟩|⟨h44,h⟩:=ic h
  ·obtain⟨x45,h45,h⟩:=ob h;have h45n:=Am h45;try simp only[hσ,h41,h44,h45,h45n,C,E,F,G,H,J]
   refine ZD h ?_ (by kernel_rfl);try simp only[h41,h44,h45,h45n,C,E,F,G,H,J,pL,aM,zA]
  ·try simp only[hσ,h41,h44,C,E,F,G,H,J]
   refine ZD h ?_ (by kernel_rfl);try simp only[h41,h44,C,E,F,G,H,J,pL,aM,zA]
theorem ZF{a0 r1}:aq a0 r1 (NW a0 r1):=by
 intro v34 r h σ hσ S hS;refine ev hS ?_;refine Aw ?_;unfold NW at h;obtain⟨h35,h⟩|⟨h35,h⟩:=ic h
 ·obtain⟨x36,h36,h⟩:=ob h;have h36n:=Am h36;obtain⟨r37,h37,h⟩:=ob h;try simp only[hσ,h35,h36,h36n,C,E,F,G,H,J]
  refine AW (xz h37) 99999999999 ?_;try simp only[h35,h36,h36n,C,E,F,G,H,J]
  cases h;exact t0
 ·obtain⟨h38,h⟩|⟨h38,h⟩:=ic h
  ·obtain⟨x39,h39,h⟩:=ob h;have h39n:=Am h39;try simp only[hσ,h35,h38,h39,h39n,C,E,F,G,H,J]
   refine ZE h ?_ (by kernel_rfl);try simp only[h35,h38,h39,h39n,C,E,F,G,H,J,pL,aM,zA]
  ·try simp only[hσ,h35,h38,C,E,F,G,H,J]
   refine ZE h ?_ (by kernel_rfl);try simp only[h35,h38,C,E,F,G,H,J,pL,aM,zA]
theorem Kt{a0 r1}:am a0 r1 (G5 a0 r1):=by
 intro v28 r h σ hσ S hS;refine ev hS ?_;refine Aw ?_;unfold G5 at h;obtain⟨h29,h⟩|⟨h29,h⟩:=ic h
 ·obtain⟨x30,h30,h⟩:=ob h;have h30n:=Am h30;obtain⟨r31,h31,h⟩:=ob h;try simp only[hσ,h29,h30,h30n,C,E,F,G,H,J]
  refine AW (xw h31) 99999999999 ?_;try simp only[h29,h30,h30n,C,E,F,G,H,J]
  cases h;exact t0
 ·obtain⟨h32,h⟩|⟨h32,h⟩:=ic h
  ·obtain⟨x33,h33,h⟩:=ob h;have h33n:=Am h33;try simp only[hσ,h29,h32,h33,h33n,C,E,F,G,H,J]
   refine ZF h ?_ (by kernel_rfl);try simp only[h29,h32,h33,h33n,C,E,F,G,H,J,pL,aM,zA]
  ·try simp only[hσ,h29,h32,C,E,F,G,H,J]
   refine ZF h ?_ (by kernel_rfl);try simp only[h29,h32,C,E,F,G,H,J,pL,aM,zA]
theorem PR{a0 r1}:al a0 r1 (Jf a0 r1):=by
 intro v19 r h σ hσ S hS;refine ev hS ?_;refine Aw ?_;unfold Jf at h;obtain⟨h20,h⟩|⟨h20,h⟩:=ic h
 ·try simp only[hσ,h20,C,E,F,G,H,J]
  refine Ae ?_;obtain⟨r21,h21,h⟩:=ob h;try simp only[h20,C,E,F,G,H,J]
  refine AW (xu h21) 99999999999 ?_;try simp only[h20,C,E,F,G,H,J]
  cases h;exact t0
 ·obtain⟨h22,h⟩|⟨h22,h⟩:=ic h
  ·obtain⟨x23,h23,h⟩:=ob h;have h23n:=Am h23;obtain⟨h24,h⟩|⟨h24,h⟩:=ic h
   ·try simp only[hσ,h20,h22,h23,h23n,h24,C,E,F,G,H,J]
    refine Kt h ?_ (by kernel_rfl);try simp only[h20,h22,h23,h23n,h24,C,E,F,G,H,J,pL,aM,zA]
   ·obtain⟨h25,h⟩|⟨h25,h⟩:=ic h
    ·try simp only[hσ,h20,h22,h23,h23n,h24,h25,C,E,F,G,H,J]
     refine Kt h ?_ (by kernel_rfl);try simp only[h20,h22,h23,h23n,h24,h25,C,E,F,G,H,J,pL,aM,zA]
    ·obtain⟨h26,h⟩|⟨h26,h⟩:=ic h
     ·try simp only[hσ,h20,h22,h23,h23n,h24,h25,h26,C,E,F,G,H,J]
      refine Kt h ?_ (by kernel_rfl);try simp only[h20,h22,h23,h23n,h24,h25,h26,C,E,F,G,H,J,pL,aM,zA]
     ·obtain⟨h27,h⟩|⟨h27,h⟩:=ic h
      ·try simp only[hσ,h20,h22,h23,h23n,h24,h25,h26,h27,C,E,F,G,H,J]
       refine Kt h ?_ (by kernel_rfl);try simp only[h20,h22,h23,h23n,h24,h25,h26,h27,C,E,F,G,H,J,pL,aM,zA]
      ·try simp only[hσ,h20,h22,h23,h23n,h24,h25,h26,h27,C,E,F,G,H,J]
       refine Kt h ?_ (by kernel_rfl);try simp only[h20,h22,h23,h23n,h24,h25,h26,h27,C,E,F,G,H,J,pL,aM,zA]
  ·try simp only[hσ,h20,h22,C,E,F,G,H,J]
   refine Kt h ?_ (by kernel_rfl);try simp only[h20,h22,C,E,F,G,H,J,pL,aM,zA]
theorem PS{x2 a0 r1}:ak x2 a0 r1 (Je x2 a0 r1):=by
 intro v11 r h σ hσ S hS;refine ev hS ?_;refine Aw ?_;unfold Je at h;obtain⟨h12,h⟩|⟨h12,h⟩:=ic h
 ·try simp only[hσ,h12,C,E,F,G,H,J]
  refine Ae ?_;obtain⟨r13,h13,h⟩:=ob h;try simp only[h12,C,E,F,G,H,J]
  refine AW (ya h13) 99999999999 ?_;try simp only[h12,C,E,F,G,H,J]
  cases h;exact t0
 ·obtain⟨h14,h⟩|⟨h14,h⟩:=ic h
  ·try simp only[hσ,h12,h14,C,E,F,G,H,J]
   refine Ae ?_;obtain⟨r15,h15,h⟩:=ob h;try simp only[h12,h14,C,E,F,G,H,J]
   refine AW (xp h15) 99999999999 ?_;try simp only[h12,h14,C,E,F,G,H,J]
   cases h;exact t0
  ·obtain⟨h16,h⟩|⟨h16,h⟩:=ic h
   ·try simp only[hσ,h12,h14,h16,C,E,F,G,H,J]
    refine PR h ?_ (by kernel_rfl);try simp only[h12,h14,h16,C,E,F,G,H,J,pL,aM,zA]
   ·obtain⟨h17,h⟩|⟨h17,h⟩:=ic h
    ·try simp only[hσ,h12,h14,h16,h17,C,E,F,G,H,J]
     refine PR h ?_ (by kernel_rfl);try simp only[h12,h14,h16,h17,C,E,F,G,H,J,pL,aM,zA]
    ·obtain⟨h18,h⟩|⟨h18,h⟩:=ic h
     ·try simp only[hσ,h12,h14,h16,h17,h18,C,E,F,G,H,J]
      refine PR h ?_ (by kernel_rfl);try simp only[h12,h14,h16,h17,h18,C,E,F,G,H,J,pL,aM,zA]
     ·try simp only[hσ,h12,h14,h16,h17,h18,C,E,F,G,H,J]
      refine PR h ?_ (by kernel_rfl);try simp only[h12,h14,h16,h17,h18,C,E,F,G,H,J,pL,aM,zA]
theorem SK{a1 x2 a0 r1}:aj a1 x2 a0 r1 (L4 a1 x2 a0 r1):=by
 intro v5 r h σ hσ S hS;refine ev hS ?_;refine Aw ?_;unfold L4 at h;obtain⟨h6,h⟩|⟨h6,h⟩:=ic h
 ·try simp only[hσ,h6,C,E,F,G,H,J]
  refine Ae ?_;obtain⟨r7,h7,h⟩:=ob h;try simp only[h6,C,E,F,G,H,J]
  refine AW (xr h7) 99999999999 ?_;try simp only[h6,C,E,F,G,H,J]
  cases h;exact t0
 ·obtain⟨h8,h⟩|⟨h8,h⟩:=ic h
  ·try simp only[hσ,h6,h8,C,E,F,G,H,J]
   refine PS h ?_ (by kernel_rfl);try simp only[h6,h8,C,E,F,G,H,J,pL,aM,zA]
  ·obtain⟨h9,h⟩|⟨h9,h⟩:=ic h
   ·try simp only[hσ,h6,h8,h9,C,E,F,G,H,J]
    refine PS h ?_ (by kernel_rfl);try simp only[h6,h8,h9,C,E,F,G,H,J,pL,aM,zA]
   ·obtain⟨h10,h⟩|⟨h10,h⟩:=ic h
    ·try simp only[hσ,h6,h8,h9,h10,C,E,F,G,H,J]
     refine PS h ?_ (by kernel_rfl);try simp only[h6,h8,h9,h10,C,E,F,G,H,J,pL,aM,zA]
    ·try simp only[hσ,h6,h8,h9,h10,C,E,F,G,H,J]
     refine PS h ?_ (by kernel_rfl);try simp only[h6,h8,h9,h10,C,E,F,G,H,J,pL,aM,zA]
theorem jp:AG I 13=N ((Bq I 13 FD).strip,[4],127):=by kernel_rfl
theorem xy{a0}{a1}{r}(h:QJ a0 a1=N r):FCy I 13 [.p,.d (.sc (.str a1))] [.int .i64 a0.Harbour.Forecast.Tide.Mean,.sl (Z zB a0.Harbour.Forecast.Tide.Parts),.sl (Z zC a0.Harbour.Forecast.Surges),.sl (Z zD a0.Harbour.Chart.Points),.sl (Z X7.row a0.Harbour.Chart.Segments),.sl (Z X8.row a0.Harbour.Fleet),.int .i64 a0.Harbour.Regime.Gap,.bool a0.Harbour.Regime.NoMeet,.int .i64 a0.Harbour.Crew.Tugs,.int .i64 a0.Harbour.Crew.Pilots,.int .i64 a0.Harbour.Crew.Rest,.sl (Z rI a0.Harbour.Crew.Moves),.sl (Z X3.row a0.Calls),.int .i64 a0.Desk.Now,.sl (Z rI a0.Desk.Starts),.sl (Z rB a0.Desk.Cleared)] [.int .i64 r.2.Harbour.Forecast.Tide.Mean,.sl (Z zB r.2.Harbour.Forecast.Tide.Parts),.sl (Z zC r.2.Harbour.Forecast.Surges),.sl (Z zD r.2.Harbour.Chart.Points),.sl (Z X7.row r.2.Harbour.Chart.Segments),.sl (Z X8.row r.2.Harbour.Fleet),.int .i64 r.2.Harbour.Regime.Gap,.bool r.2.Harbour.Regime.NoMeet,.int .i64 r.2.Harbour.Crew.Tugs,.int .i64 r.2.Harbour.Crew.Pilots,.int .i64 r.2.Harbour.Crew.Rest,.sl (Z rI r.2.Harbour.Crew.Moves),.sl (Z X3.row r.2.Calls),.int .i64 r.2.Desk.Now,.sl (Z rI r.2.Desk.Starts),.sl (Z rB r.2.Desk.Cleared)] [.sc (.v (.str r.1))]:=by
 unfold QJ at h;refine Ci (σ:=⟨[(0,vc (.pb 99999999999 0)),(1,vc (aS a1))],[(99999999999,[aI a0.Harbour.Forecast.Tide.Mean,aL (Z zB a0.Harbour.Forecast.Tide.Parts),aL (Z zC a0.Harbour.Forecast.Surges),aL (Z zD a0.Harbour.Chart.Points),aL (Z X7.row a0.Harbour.Chart.Segments),aL (Z X8.row a0.Harbour.Fleet),aI a0.Harbour.Regime.Gap,aB a0.Harbour.Regime.NoMeet,aI a0.Harbour.Crew.Tugs,aI a0.Harbour.Crew.Pilots,aI a0.Harbour.Crew.Rest,aL (Z rI a0.Harbour.Crew.Moves),aL (Z X3.row a0.Calls),aI a0.Desk.Now,aL (Z rI a0.Desk.Starts),aL (Z rB a0.Desk.Cleared)])],[]⟩) mixed jp Y Y ?_;refine Bx FD ?_;intro S hS;refine ev hS ?_;obtain⟨r1,h1,h⟩:=ob h;try simp only[C,E,F,G,H,J]
 refine Ao (A8 Zh h1) ?_;obtain⟨x2,h2,h⟩:=ob h;have h2n:=Am h2;obtain⟨h3,h⟩|⟨h3,h⟩:=ic h
 ·try simp only[h2,h2n,h3,C,E,F,G,H,J]
  refine SK h ?_ (by kernel_rfl);try simp only[h2,h2n,h3,C,E,F,G,H,J,pL,aM,zA]
 ·obtain⟨h4,h⟩|⟨h4,h⟩:=ic h
  ·try simp only[h2,h2n,h3,h4,C,E,F,G,H,J]
   refine SK h ?_ (by kernel_rfl);try simp only[h2,h2n,h3,h4,C,E,F,G,H,J,pL,aM,zA]
  ·try simp only[h2,h2n,h3,h4,C,E,F,G,H,J]
   refine SK h ?_ (by kernel_rfl);try simp only[h2,h2n,h3,h4,C,E,F,G,H,J,pL,aM,zA]
def Vk:Hw:=([(7,[1,4,6,16],[4,6],[])],[])
def bh:=fun a1 (r1:X6) (k_:V→Q (X6 × (P X)))=>∀{v4} {zr},k_ v4=N zr→Kh I 6 Vk 7 [1,4,6,16] [4,6] [] ⟨[(1,vc (aS a1)),pB 4,pB 6,(16,vc (aB v4))],[(4,[aI (0:U),.nil,.nil,.nil,.nil,.nil,aI (0:U),aB L,aI (0:U),aI (0:U),aI (0:U),.nil,.nil,aI (0:U),.nil,.nil]),(6,(dm r1.row))],[]⟩ (A6 [.c 4 T 16,5] [.ag [.v (.int .i64 zr.1.Harbour.Forecast.Tide.Mean),.v (.sl (Z zB zr.1.Harbour.Forecast.Tide.Parts)),.v (.sl (Z zC zr.1.Harbour.Forecast.Surges)),.v (.sl (Z zD zr.1.Harbour.Chart.Points)),.v (.sl (Z X7.row zr.1.Harbour.Chart.Segments)),.v (.sl (Z X8.row zr.1.Harbour.Fleet)),.v (.int .i64 zr.1.Harbour.Regime.Gap),.v (.bool zr.1.Harbour.Regime.NoMeet),.v (.int .i64 zr.1.Harbour.Crew.Tugs),.v (.int .i64 zr.1.Harbour.Crew.Pilots),.v (.int .i64 zr.1.Harbour.Crew.Rest),.v (.sl (Z rI zr.1.Harbour.Crew.Moves)),.v (.sl (Z X3.row zr.1.Calls)),.v (.int .i64 zr.1.Desk.Now),.v (.sl (Z rI zr.1.Desk.Starts)),.v (.sl (Z rB zr.1.Desk.Cleared))],.sc (.v (.str zr.2))])
theorem ZG{a1 r1}:bh a1 r1 (Oa a1 r1):=by
 intro v4 r h σ hσ S hS;refine ev hS ?_;refine Aw ?_;unfold Oa at h;obtain⟨h5,h⟩|⟨h5,h⟩:=ic h
 ·try simp only[hσ,h5,C,E,F,G,H,J]
  cases h;try simp only[DT,C,E,F,G,H,J]
  trivial
 ·obtain⟨r6,h6,h⟩:=ob h;try simp only[hσ,h5,C,E,F,G,H,J]
  refine AW (xy h6) 6 ?_;try simp only[h5,C,E,F,G,H,J]
  cases h;try simp only[DT,C,E,F,G,H,J]
  trivial
instance A7f:Ct 6 (∀{a0} {a1} {r},BO a0 a1=N r→FC I 6 [.ag (X6.row a0),.sc (.str a1)] [.ag [.v (.int .i64 r.1.Harbour.Forecast.Tide.Mean),.v (.sl (Z zB r.1.Harbour.Forecast.Tide.Parts)),.v (.sl (Z zC r.1.Harbour.Forecast.Surges)),.v (.sl (Z zD r.1.Harbour.Chart.Points)),.v (.sl (Z X7.row r.1.Harbour.Chart.Segments)),.v (.sl (Z X8.row r.1.Harbour.Fleet)),.v (.int .i64 r.1.Harbour.Regime.Gap),.v (.bool r.1.Harbour.Regime.NoMeet),.v (.int .i64 r.1.Harbour.Crew.Tugs),.v (.int .i64 r.1.Harbour.Crew.Pilots),.v (.int .i64 r.1.Harbour.Crew.Rest),.v (.sl (Z rI r.1.Harbour.Crew.Moves)),.v (.sl (Z X3.row r.1.Calls)),.v (.int .i64 r.1.Desk.Now),.v (.sl (Z rI r.1.Desk.Starts)),.v (.sl (Z rB r.1.Desk.Cleared))],.sc (.v (.str r.2))]):=by
 refine⟨fun{a0} {a1} {r} h=> ?_⟩;unfold BO at h;refine A2 mixed Vk [.c 4 T 16,5] 22 ?_;intro S hS;refine ev hS ?_;simp only[C,E,F,G,H,J];try simp only[C,E,F,G,H,J]
 refine BZ ?_;try simp only[C,E,F,G,H,J]
 refine B0 ?_;obtain⟨r1,h1,h⟩:=ob h;try simp only[C,E,F,G,H,J]
 refine Ao (FC.asV (rs':= [.ag [.v (.int .i64 r1.Harbour.Forecast.Tide.Mean),.v (.sl (Z zB r1.Harbour.Forecast.Tide.Parts)),.v (.sl (Z zC r1.Harbour.Forecast.Surges)),.v (.sl (Z zD r1.Harbour.Chart.Points)),.v (.sl (Z X7.row r1.Harbour.Chart.Segments)),.v (.sl (Z X8.row r1.Harbour.Fleet)),.v (.int .i64 r1.Harbour.Regime.Gap),.v (.bool r1.Harbour.Regime.NoMeet),.v (.int .i64 r1.Harbour.Crew.Tugs),.v (.int .i64 r1.Harbour.Crew.Pilots),.v (.int .i64 r1.Harbour.Crew.Rest),.v (.sl (Z rI r1.Harbour.Crew.Moves)),.v (.sl (Z X3.row r1.Calls)),.v (.int .i64 r1.Desk.Now),.v (.sl (Z rI r1.Desk.Starts)),.v (.sl (Z rB r1.Desk.Cleared))]]) (A8 zk h1) Y) ?_;try simp only[C,E,F,G,H,J]
 refine B0 ?_;obtain⟨h2,h⟩|⟨h2,h⟩:=ic h
 ·try simp only[h2,C,E,F,G,H,J]
  refine ZG h ?_ (by kernel_rfl);try simp only[h2,C,E,F,G,H,J,pL,aM,zA]
 ·obtain⟨b3,h3,h⟩:=ob h;try simp only[h2,h3,C,E,F,G,H,J]
  refine ZG h ?_ (by kernel_rfl);try simp only[h2,h3,C,E,F,G,H,J,pL,aM,zA]
def pF:Hw:=([],[(3,2,(O,.frz 320))])
instance yx:Ct 14 (∀{a0} {r},LB a0=N r→FC I 14 [.sc (.str a0)] [.sc (.v (.sl (Z rS r)))]):=by
 refine⟨fun h=> ?_⟩;unfold LB at h;refine A2 mixed pF [2] 19 ?_;exact gc
def Vl:Hw:=([(20,[4,5,6,17,18,19],[5],[])],[(13,1,(O,.frz 1025)),(13,2,(O,.frz 1026)),(13,3,(O,.frz 1027)),(13,4,(O,.frz 1028)),(13,5,(O,.frz 1029)),(13,6,(O,.frz 1035)),(13,7,(O,.frz 1036)),(13,8,(O,.frz 1038)),(13,9,(O,.frz 1039))])
def bj:=fun r1 (k_:(P X)→U→U→(P Xf)→(P Xc)→(P Xa)→(P X7)→(P X8)→U→V→U→U→U→(P U)→(P X3)→U→(P U)→(P V)→Q ((P X) × U))=>∀{v4 v5 v6 v7 v8 v9 v10 v11 v12 v13 v14 v15 v16 v17 v18 v19 v20 v21} {zr},k_ v4 v5 v6 v7 v8 v9 v10 v11 v12 v13 v14 v15 v16 v17 v18 v19 v20 v21=N zr→Kh I 7 Vl 20 [4,5,6,17,18,19] [5] [] ⟨[pL 4 rS r1,pB 5,(6,vc (aS v4)),pL 17 rS r1,pI 18 (r1.length:U),pI 19 v5],[(5,[aI v6,aM zB v7,aM zC v8,aM zD v9,aM X7.row v10,aM X8.row v11,aI v12,aB v13,aI v14,aI v15,aI v16,aM rI v17,aM X3.row v18,aI v19,aM rI v20,aM rB v21])],[]⟩ (A6 [2,3] [.sc (.v (.str zr.1)),.sc (.v (.int .i64 zr.2))])
theorem A4e{r1}{n:W}:bj r1 (Ge r1 n):=by
 induction n with
 | zero=>intro _ _ _ _ _ _ _ _ _ _ _ _ _ _ _ _ _ _ r h; cases h
 | succ n ih=>
  intro v4 v5 v6 v7 v8 v9 v10 v11 v12 v13 v14 v15 v16 v17 v18 v19 v20 v21 r h σ hσ;rw[Ge] at h;exact gc
instance A7g:Ct 7 (∀{a0} {r},Jr a0=N r→FC I 7 [.sc (.str a0)] [.sc (.v (.str r.1)),.sc (.v (.int .i64 r.2))]):=by
 refine⟨fun{a0} {r} h=> ?_⟩;unfold Jr at h;refine A2 mixed Vl [2,3] 40 ?_;intro S hS;refine ev hS ?_;simp only[C,E,F,G,H,J];obtain⟨r1,h1,h⟩:=ob h;try simp only[C,E,F,G,H,J]
 refine Ao (A8 yx h1) ?_;obtain⟨h2,h⟩|⟨h2,h⟩:=ic h
 ·try simp only[h2,C,E,F,G,H,J]
  cases h;trivial
 ·obtain⟨r3,h3,h⟩:=ob h;try simp only[h2,C,E,F,G,H,J]
  refine Ao (A8 Zb h3) ?_;try simp only[h2,C,E,F,G,H,J]
  refine Ae ?_;try simp only[h2,C,E,F,G,H,J]
  refine Ae ?_;try simp only[h2,C,E,F,G,H,J]
  refine Ae ?_;try simp only[h2,C,E,F,G,H,J]
  refine Ae ?_;try simp only[h2,C,E,F,G,H,J]
  refine Ae ?_;try simp only[h2,C,E,F,G,H,J]
  refine Ae ?_;try simp only[h2,C,E,F,G,H,J]
  refine Ae ?_;try simp only[h2,C,E,F,G,H,J]
  refine Ae ?_;try simp only[h2,C,E,F,G,H,J]
  refine Ae ?_;try simp only[h2,C,E,F,G,H,J]
  refine B0 ?_;try simp only[h2,C,E,F,G,H,J]
  refine A4e h ?_ (by kernel_rfl);try simp only[h2,C,E,F,G,H,J,pL,aM,zA]
def Vm:Hw:=([(20,[3,4,5,18,19,20],[4],[])],[(13,1,(O,.frz 1089)),(13,2,(O,.frz 1090)),(13,3,(O,.frz 1091)),(13,4,(O,.frz 1092)),(13,5,(O,.frz 1093)),(13,6,(O,.frz 1099)),(13,7,(O,.frz 1100)),(13,8,(O,.frz 1102)),(13,9,(O,.frz 1103))])
def cm:=fun r2 (k_:(P X)→U→U→(P Xf)→(P Xc)→(P Xa)→(P X7)→(P X8)→U→V→U→U→U→(P U)→(P X3)→U→(P U)→(P V)→Q V)=>∀{v4 v5 v6 v7 v8 v9 v10 v11 v12 v13 v14 v15 v16 v17 v18 v19 v20 v21} {zr},k_ v4 v5 v6 v7 v8 v9 v10 v11 v12 v13 v14 v15 v16 v17 v18 v19 v20 v21=N zr→Kh I 3 Vm 20 [3,4,5,18,19,20] [4] [] ⟨[pL 3 rS r2,pB 4,(5,vc (aS v4)),pL 18 rS r2,pI 19 (r2.length:U),pI 20 v5],[(4,[aI v6,aM zB v7,aM zC v8,aM zD v9,aM X7.row v10,aM X8.row v11,aI v12,aB v13,aI v14,aI v15,aI v16,aM rI v17,aM X3.row v18,aI v19,aM rI v20,aM rB v21])],[]⟩ (A6 [2] [.sc (.v (.bool zr))])
theorem A4f{r2}{n:W}:cm r2 (Gw r2 n):=by
 induction n with
 | zero=>intro _ _ _ _ _ _ _ _ _ _ _ _ _ _ _ _ _ _ r h; cases h
 | succ n ih=>
  intro v4 v5 v6 v7 v8 v9 v10 v11 v12 v13 v14 v15 v16 v17 v18 v19 v20 v21 r h σ hσ;rw[Gw] at h;exact gc
theorem w_laws_FnConsole(a0:P U)(r:V)(h:Ot a0=N r):FC I 3 [.sc (.sl (Z r8 a0))] [.sc (.v (.bool r))]:=by
 unfold Ot at h;refine A2 mixed Vm [2] 64 ?_;intro S hS;refine ev hS ?_;simp only[C,E,F,G,H,J];obtain⟨h1,h⟩|⟨h1,h⟩:=ic h
 ·try simp only[h1,C,E,F,G,H,J]
  cases h;exact t0
 ·obtain⟨r2,h2,h⟩:=ob h;try simp only[h1,C,E,F,G,H,J]
  refine Ao (A8 A0m h2) ?_;obtain⟨r3,h3,h⟩:=ob h;try simp only[h1,C,E,F,G,H,J]
  refine Ao (A8 Zb h3) ?_;try simp only[h1,C,E,F,G,H,J]
  refine Ae ?_;try simp only[h1,C,E,F,G,H,J]
  refine Ae ?_;try simp only[h1,C,E,F,G,H,J]
  refine Ae ?_;try simp only[h1,C,E,F,G,H,J]
  refine Ae ?_;try simp only[h1,C,E,F,G,H,J]
  refine Ae ?_;try simp only[h1,C,E,F,G,H,J]
  refine Ae ?_;try simp only[h1,C,E,F,G,H,J]
  refine Ae ?_;try simp only[h1,C,E,F,G,H,J]
  refine Ae ?_;try simp only[h1,C,E,F,G,H,J]
  refine Ae ?_;try simp only[h1,C,E,F,G,H,J]
  refine B0 ?_;try simp only[h1,C,E,F,G,H,J]
  refine A4f h ?_ (by kernel_rfl);try simp only[h1,C,E,F,G,H,J,pL,aM,zA]
end Go.Vi
