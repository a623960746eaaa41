/-
Walks. No condition.
-/
import Derived.Test.YthneeiblhklckaaGreatDoorPNf
import Derived.Test.YthneeiblhklckaaGreatDoorChecked
import Derived.Test.YthneeiblhklckaaGreatDoorPSh
import Derived.Test.YthneeiblhklckaaGreatDoorPVi42
import Derived.KernelRfl
import Derived.Test.YthneeiblhklckaaGreatDoorPWReportsb
namespace Go.Vi
open Go.Proofs
set_option linter.all false
set_option maxRecDepth 20000
set_option maxHeartbeats 2000000
open Nat renaming reduceBEq → C, reduceMul → E, reduceAdd → F, reduceDiv → G, le_of_ble_eq_true → uf
open Int renaming reduceBEq → H
attribute [local irreducible] go AX J1
open List renaming map → Y, map_nil → I, length_map → zA
open Tryz renaming prog → Z
open Bool renaming true → T, false → L
open Option renaming some → N
open _root_ renaming List → O, Option → P, Int → Q, Bool → U, Nat → V, UInt8 → W, rfl → X
abbrev Cp(a0:X3)(a1:O X7)(f:U)(k:Q)(b:O Q):O (O D):= [X3.row a0,[.sl (Y X7.row a1)],[.bool f],[.int .i64 k],[.sl (Y rI b)]]
abbrev Js(a0:X3)(a1:O X7)(f:U)(k:Q)(b:O Q):O (V × O AC):= [(99999999999,Y AC.dat (X3.row a0)),(100000000000,[AC.dat (.sl (Y X7.row a1))]),(100000000001,[AC.dat (.bool f)]),(100000000002,[AC.dat (.int .i64 k)]),(100000000003,[AC.dat (.sl (Y rI b))])]
theorem rP{a0 a1 m f k b r}(h:MS a0 a1 m f k b=N r):FCw Z 45 [.r,.p 0,.p 1,.p 2,.p 3,.p 4] 1 (Cp a0 a1 f k b) (Y rI m) (Cp a0 a1 r.1 r.2.1 r.2.2) (Y rI m):=by
 unfold MS at h;refine QB (σ:=⟨[(0,vc (.own 99999999999)),(1,vc (.pb 99999999999 0)),(2,vc (.pb 100000000000 0)),(3,vc (.pb 100000000001 0)),(4,vc (.pb 100000000002 0)),(5,vc (.pb 100000000003 0))],Js a0 a1 f k b,[(99999999999,1,Y rI m)]⟩) (c:=Bp Z 45 ([],[(5,2,(none,.frz 1728))])) (nt:=29) mixed (by kernel_rfl) X X ?_;refine Bv ([],[(5,2,(none,.frz 1728))]) ?_;exact gc
def Jt:Hw:=([(4,[0,1,4],[99999999999,100000000000,100000000001,100000000002,100000000003],[99999999999]),(13,[0,1,4],[99999999999,100000000000,100000000001,100000000002,100000000003],[99999999999]),(24,[0,1,4,5],[99999999999,100000000000,100000000001,100000000002,100000000003],[99999999999])],[])
def XF:=fun a0 a1 m f k b (k_:Q→P (O Q × U × Q × O Q))=>∀{v zr},k_ v=N zr→Kh Z 44 Jt 4 [0,1,4] [99999999999,100000000000,100000000001,100000000002,100000000003] [99999999999] ⟨[(0,vc (.own 99999999999)),(1,vc (.clo 45 [99999999999,100000000000,100000000001,100000000002,100000000003])),pI 4 v],Js a0 a1 f k b,[(99999999999,1,Y rI m)]⟩ (Jo 1 (Cp a0 a1 zr.2.1 zr.2.2.1 zr.2.2.2) (Y rI zr.1))
def XG:=fun a0 a1 m f k b (k_:Q→P (O Q × U × Q × O Q))=>∀{v zr},k_ v=N zr→Kh Z 44 Jt 13 [0,1,4] [99999999999,100000000000,100000000001,100000000002,100000000003] [99999999999] ⟨[(0,vc (.own 99999999999)),(1,vc (.clo 45 [99999999999,100000000000,100000000001,100000000002,100000000003])),pI 4 v],Js a0 a1 f k b,[(99999999999,1,Y rI m)]⟩ (Jo 1 (Cp a0 a1 zr.2.1 zr.2.2.1 zr.2.2.2) (Y rI zr.1))
def XH:=fun a0 a1 i (k_:Q→O Q→U→Q→O Q→P (O Q × U × Q × O Q))=>∀{v m f k b zr},k_ v m f k b=N zr→Kh Z 44 Jt 24 [0,1,4,5] [99999999999,100000000000,100000000001,100000000002,100000000003] [99999999999] ⟨[(0,vc (.own 99999999999)),(1,vc (.clo 45 [99999999999,100000000000,100000000001,100000000002,100000000003])),pI 4 i,pI 5 v],Js a0 a1 f k b,[(99999999999,1,Y rI m)]⟩ (Jo 1 (Cp a0 a1 zr.2.1 zr.2.2.1 zr.2.2.2) (Y rI zr.1))
theorem ko{rec_:O Q→U→Q→O Q→P (O Q × U × Q × O Q)}(l_rec:∀{m f k b r},rec_ m f k b=N r→r.1.length=m.length){i:Q}:∀{n v m f k b r},DZ rec_ i n v m f k b=N r→r.1.length=m.length:=by
 intro n
 induction n with
 | zero=>intro _ _ _ _ _ _ h; cases h
 | succ n ih=>
  intro v m f k b r h;rw[DZ] at h;obtain⟨_,h⟩|⟨_,h⟩:=ic h
  ·obtain⟨x1,h1,h⟩:=ob h;obtain⟨_,h⟩|⟨_,h⟩:=ic h
   ·obtain⟨x2,h2,h⟩:=ob h;obtain⟨x3,h3,h⟩:=ob h;obtain⟨r4,h4,h⟩:=ob h;obtain⟨x5,h5,h⟩:=ob h;obtain⟨x6,h6,h⟩:=ob h;have:=l_rec h4;have:=ih h;simp only[List.length_set] at *
    omega
   ·exact ih h
  ·cases h; rfl
theorem TC{rec_:O Q→U→Q→O Q→P (O Q × U × Q × O Q)}(l_rec:∀{m f k b r},rec_ m f k b=N r→r.1.length=m.length){a0 a1 m f k b v r}(h:EJ rec_ a0 a1 m f k b v=N r):r.1.length=m.length:=by
 unfold EJ at h;obtain⟨_,h⟩|⟨_,h⟩:=ic h
 ·obtain⟨r1,h1,h⟩:=ob h;cases h; rfl
 ·exact ko l_rec h
theorem kn{rec_:O Q→U→Q→O Q→P (O Q × U × Q × O Q)}(l_rec:∀{m f k b r},rec_ m f k b=N r→r.1.length=m.length){a0 a1 m f k b}:∀{n v r},DY rec_ a0 a1 m f k b n v=N r→r.1.length=m.length:=by
 intro n
 induction n with
 | zero=>intro _ _ h; cases h
 | succ n ih=>
  intro v r h;rw[DY] at h;obtain⟨_,h⟩|⟨_,h⟩:=ic h
  ·obtain⟨x1,h1,h⟩:=ob h;obtain⟨_,h⟩|⟨_,h⟩:=ic h
   ·exact ih h
   ·exact TC l_rec h
  ·exact TC l_rec h
theorem TD{a0 a1}:∀{n m f k b r},EK a0 a1 n m f k b=N r→r.1.length=m.length:=by
 intro n
 induction n with
 | zero=>intro _ _ _ _ _ h; cases h
 | succ n ih=>intro _ _ _ _ _ h; exact kn ih h
theorem kk{a0 a1 m f k b r}(h:MR a0 a1 m f k b=N r):r.1.length=m.length:=TD h
section
variable {a0 : X3} {a1 : O X7} {rec_ : O Q → U → Q → O Q → P (O Q × U × Q × O Q)} (h_rec : ∀ {m f k b r},rec_ m f k b = N r → FCw Z 44 [.r,.clo 45 [0,1,2,3,4]] 1 (Cp a0 a1 f k b) (Y rI m) (Cp a0 a1 r.2.1 r.2.2.1 r.2.2.2) (Y rI r.1)) (l_rec : ∀ {m f k b r},rec_ m f k b = N r → r.1.length = m.length)
include h_rec l_rec
theorem ug{i:Q}{n:V}:XH a0 a1 i (DZ rec_ i n):=by
 induction n with
 | zero=>intro _ _ _ _ _ _ h; cases h
 | succ n ih=>
  intro v m f k b zr h σ hσ S hS;refine ev hS ?_;rw[DZ] at h;refine AP (Aw ?_);obtain⟨h71,h⟩|⟨h71,h⟩:=ic h
  ·obtain⟨x1,h1,h⟩:=ob h;obtain⟨h72,h⟩|⟨h72,h⟩:=ic h
   ·obtain⟨x2,h2,h⟩:=ob h;obtain⟨x3,h3,h⟩:=ob h;obtain⟨r4,h4,h⟩:=ob h;obtain⟨x5,h5,h⟩:=ob h;obtain⟨x6,h6,h⟩:=ob h;have n1:=AJ h1;have n2:=AJ h2;have n3:=AJ h3;have n5:=AJ h5;have n6:=AJ h6;try simp only[hσ,h71,h1,n1,h72,h2,n2,C,E,F,G,H,J]
    refine Cw (row:=rI) (y:=v) X X n2 X X (by rfl) ?_;try simp only[hσ,h71,h1,n1,h72,h2,h3,C,E,F,G,H,J]
    refine Cw (row:=rI) (y:=i) X X n3 X X (by rfl) ?_;try simp only[hσ,h71,h1,n1,h72,h2,h3,C,E,F,G,H,J]
    refine L9 (Sm (h_rec h4) [99999999999,100000000000,100000000001,100000000002,100000000003] 99999999999 ?_ (by rw[zA,zA]; exact l_rec h4));simp only[St.behindW,Db];try simp only[hσ,h71,h5,C,E,F,G,H,J]
    refine Cw (row:=rI) (y:=(-1:Q)) X X n5 X X (by rfl) ?_;try simp only[hσ,h71,h5,h6,C,E,F,G,H,J]
    refine Cw (row:=rI) (y:=(-1:Q)) X X n6 X X (by rfl) ?_;try simp only[hσ,h71,h5,h6,C,E,F,G,H,J]
    refine ih h ?_ (by kernel_rfl);(try simp only[C,E,F,G,H,J,pL,aM,I])<;>rfl
   ·have n1:=AJ h1;try simp only[hσ,h71,h1,n1,h72,C,E,F,G,H,J]
    refine ih h ?_ (by kernel_rfl);(try simp only[h71,h1,h72,C,E,F,G,H,J,pL,aM,I])<;>rfl
  ·try simp only[hσ,h71,C,E,F,G,H,J]
   cases h;repeat' constructor
theorem W1{m f k b}:XG a0 a1 m f k b (EJ rec_ a0 a1 m f k b):=by
 intro v zr h σ hσ S hS;refine ev hS ?_;refine Aw ?_;unfold EJ at h;obtain⟨h71,h⟩|⟨h71,h⟩:=ic h
 ·obtain⟨r1,h1,h⟩:=ob h;try simp only[hσ,h71,C,E,F,G,H,J]
  refine ft (rP h1) [99999999999,100000000000,100000000001,100000000002,100000000003] 99999999999 ?_ X (by kernel_rfl);simp only[St.behindW,Db];try simp only[hσ,h71,C,E,F,G,H,J]
  cases h;repeat' constructor
 ·try simp only[hσ,h71,C,E,F,G,H,J]
  refine ug h_rec l_rec h ?_ (by kernel_rfl);(try simp only[h71,C,E,F,G,H,J,pL,aM,I])<;>rfl
theorem uh{m f k b}{n:V}:XF a0 a1 m f k b (DY rec_ a0 a1 m f k b n):=by
 induction n with
 | zero=>intro _ _ h; cases h
 | succ n ih=>
  intro v zr h σ hσ S hS;refine ev hS ?_;rw[DY] at h;refine AP (Aw ?_);obtain⟨h71,h⟩|⟨h71,h⟩:=ic h
  ·obtain⟨x1,h1,h⟩:=ob h;obtain⟨h72,h⟩|⟨h72,h⟩:=ic h
   ·have n1:=AJ h1;try simp only[hσ,h71,h1,n1,h72,C,E,F,G,H,J]
    refine ih h ?_ (by kernel_rfl);(try simp only[h71,h1,h72,C,E,F,G,H,J,pL,aM,I])<;>rfl
   ·have n1:=AJ h1;try simp only[hσ,h71,h1,n1,h72,C,E,F,G,H,J]
    refine W1 h_rec l_rec h ?_ (by kernel_rfl);(try simp only[h71,h1,h72,C,E,F,G,H,J,pL,aM,I])<;>rfl
  ·try simp only[hσ,h71,C,E,F,G,H,J]
   refine W1 h_rec l_rec h ?_ (by kernel_rfl);(try simp only[h71,C,E,F,G,H,J,pL,aM,I])<;>rfl
end
theorem rO{a0 a1 m f k b r}{rec_:O Q→U→Q→O Q→P (O Q × U × Q × O Q)}(h_rec:∀{m f k b r},rec_ m f k b=N r→FCw Z 44 [.r,.clo 45 [0,1,2,3,4]] 1 (Cp a0 a1 f k b) (Y rI m) (Cp a0 a1 r.2.1 r.2.2.1 r.2.2.2) (Y rI r.1))(l_rec:∀{m f k b r},rec_ m f k b=N r→r.1.length=m.length)(h:DY rec_ a0 a1 m f k b bigN 0=N r):FCw Z 44 [.r,.clo 45 [0,1,2,3,4]] 1 (Cp a0 a1 f k b) (Y rI m) (Cp a0 a1 r.2.1 r.2.2.1 r.2.2.2) (Y rI r.1):=by
 refine QB (σ:=⟨[(0,vc (.own 99999999999)),(1,vc (.clo 45 [99999999999,100000000000,100000000001,100000000002,100000000003]))],Js a0 a1 f k b,[(99999999999,1,Y rI m)]⟩) (c:=Bp Z 44 Jt) (nt:=55) mixed (by kernel_rfl) X X ?_;refine Bv Jt ?_;intro S hS;refine ev hS ?_;try simp only[C,E,F,G,H,J]
 refine uh h_rec l_rec h ?_ (by kernel_rfl);(try simp only[C,E,F,G,H,J,pL,aM,I])<;>rfl
theorem rQ{a0 a1}:∀(n:V) {m f k b r},EK a0 a1 n m f k b=N r→FCw Z 44 [.r,.clo 45 [0,1,2,3,4]] 1 (Cp a0 a1 f k b) (Y rI m) (Cp a0 a1 r.2.1 r.2.2.1 r.2.2.2) (Y rI r.1):=by
 intro n
 induction n with
 | zero=>intro _ _ _ _ _ h; cases h
 | succ n ih=>intro _ _ _ _ _ h; exact rO ih TD h
theorem rN{a0 a1 m f k b r}(h:MR a0 a1 m f k b=N r):FCw Z 44 [.r,.clo 45 [0,1,2,3,4]] 1 (Cp a0 a1 f k b) (Y rI m) (Cp a0 a1 r.2.1 r.2.2.1 r.2.2.2) (Y rI r.1):=rQ bigN h
def SH:Hw:=([(16,[2,3,4,5,6,7,20,21],[2,3],[1152])],[])
def Wo:=fun(a0:X3) a1 y4 (k_:Q→(O Q)→P ((O Q) × Q × U))=>∀{v5 v6} {zr},k_ v5 v6=N zr→Kh Z 19 SH 16 [2,3,4,5,6,7,20,21] [2,3] [1152] ⟨[pB 2,pB 3,(4,vc (.nil)),pI 5 (0:Q),(6,vc (aB L)),pW 7 1152,pI 20 y4,pI 21 v5],[(2,(dm a0.row)),(3,[aM X7.row a1])],[(1152,1,Y rI v6)]⟩ (A9 [4,5,6] [.sc (.v (.sl (Y rI zr.1))),.sc (.v (.int .i64 zr.2.1)),.sc (.v (.bool zr.2.2))])
theorem ui{a0 a1 y4}{n:V}:Wo a0 a1 y4 (Gm a0 a1 y4 n):=by
 induction n with
 | zero=>intro _ _ r h; cases h
 | succ n ih=>
  intro v5 v6 r h σ hσ S hS;refine ev hS ?_;rw[Gm] at h;refine AP (Aw ?_);obtain⟨h7,h⟩|⟨h7,h⟩:=ic h
  ·obtain⟨x8,h8,h⟩:=ob h;have h8n:=AJ h8;try simp only[hσ,h7,h8,C,E,F,G,H,J]
   refine Cw (row:=rI) (y:=(-1:Q)) X X h8n X X (by rfl) ?_;try simp only[h7,h8,C,E,F,G,H,J]
   refine ih h ?_ (by kernel_rfl);try simp only[h7,h8,C,E,F,G,H,J,pL,aM,I]
  ·try simp only[hσ,h7,C,E,F,G,H,J]
   refine AK ?_;try simp only[h7,C,E,F,G,H,J]
   refine AK ?_;try simp only[h7,C,E,F,G,H,J]
   refine AK ?_;obtain⟨r9,h9,h⟩:=ob h;try simp only[h7,C,E,F,G,H,J]
   refine L9 (Sm (rN h9) [2,3,11,10,9] 1152 ?_ (by rw[zA,zA]; exact kk h9));simp only[St.behindW,Db];try simp only[h7,C,E,F,G,H,J]
   refine At ?_;try simp only[h7,C,E,F,G,H,J]
   cases h;trivial
instance wx:Ct 19 (∀{a0} {a1} {r},JJ a0 a1=N r→FC Z 19 [.ag (X3.row a0),.sc (.sl (Y X7.row a1))] [.sc (.v (.sl (Y rI r.1))),.sc (.v (.int .i64 r.2.1)),.sc (.v (.bool r.2.2))]):=by
 refine⟨fun h=> ?_⟩;unfold JJ at h;refine A5 mixed SH [4,5,6] 34 ?_;have s0:= @IY _ rI (0:Q);have k0:= @ui;exact gc
instance VB:Ct 37 (∀{a0} {r},EC a0=N r→FC Z 37 [.sc (.int .i64 a0)] [.sc (.v (.str r))]):=by
 refine⟨fun{a0} {r} h=> ?_⟩;unfold EC at h;refine A5 mixed h0 [2] 5 ?_;intro S hS;refine ev hS ?_;simp only[C,E,F,G,H,J];obtain⟨r1,h1,h⟩:=ob h;try simp only[C,E,F,G,H,J]
 refine AM (sN _ _ h1) ?_;try simp only[C,E,F,G,H,J]
 cases h;exact t0
instance ym:Ct 48 (∀{a0} {r},KK a0=N r→FC Z 48 [.sc (Ml a0)] [.sc (.v (.str r))]):=by
 refine⟨fun h=> ?_⟩;unfold KK at h;refine A5 mixed h0 [2] 15 ?_;exact gc
instance qw:Ct 22 (∀{a0} {a1} {r},ED a0 a1=N r→FC Z 22 [.sc (.sl (Y rS a0)),.sc (.str a1)] [.sc (.v (.str r))]):=by
 refine⟨fun{a0} {a1} {r} h=> ?_⟩;unfold ED at h;refine A5 mixed h0 [4] 8 ?_;intro S hS;refine ev hS ?_;simp only[C,E,F,G,H,J];obtain⟨r1,h1,h⟩:=ob h;try simp only[C,E,F,G,H,J]
 refine AM (sO _ _ _ h1) ?_;try simp only[C,E,F,G,H,J]
 cases h;exact t0
def SI:Hw:=([(8,[3,7,8,9],[],[384])],[])
def Y9:=fun a0 (k_:Q→(O (O W))→P (O W))=>∀{v1 v2} {zr},k_ v1 v2=N zr→Kh Z 20 SI 8 [3,7,8,9] [] [384] ⟨[pW 3 384,pL 7 rA a0,pI 8 (a0.length:Q),pI 9 v1],[],[(384,1,Y rS v2)]⟩ (A9 [2] [.sc (.v (.str zr))])
theorem uj{a0}{n:V}:Y9 a0 (Ha a0 n):=by
 induction n with
 | zero=>intro _ _ r h; cases h
 | succ n ih=>
  intro v1 v2 r h σ hσ;rw[Ha] at h;have s0:=fun(r5:(O W))=> @Ay (Y rS ([r5]:O (O W)))
  exact gc
instance rq:Ct 20 (∀{a0} {r},ES a0=N r→FC Z 20 [.sc (.sl (Y rA a0))] [.sc (.v (.str r))]):=by
 refine⟨fun h=> ?_⟩;unfold ES at h;refine A5 mixed SI [2] 21 ?_;have s0:= @Ay (Y rS ([]:O (O W)));have k0:= @uj;exact gc
instance qi:Ct 6 (∀{a0} {a1} {r},JL a0 a1=N r→FC Z 6 [.ag (X3.row a0),.sc (.sl (Y X7.row a1))] [.sc (.v (.str r))]):=by
 refine⟨fun h=> ?_⟩;unfold JL at h;refine A5 mixed h0 [4] 44 ?_;have s0:=fun(r3:(O Q) × Q × U) (r5:(O Q) × Q × U)=> @Ay (Y rA ([(⟨T,([99,111,115,116]:O W),0⟩:Xj),(⟨L,[],r3.2.1⟩:Xj),(⟨T,([98,111,117,110,100]:O W),0⟩:Xj),(⟨L,[],r5.2.1⟩:Xj),(⟨T,([103,97,112]:O W),0⟩:Xj),(⟨L,[],(IntKind.i64.wrap (r3.2.1 - r5.2.1))⟩:Xj)]:O Xj))
 exact gc
def Nj:Hw:=([(16,[0,1,5,17,18],[],[1024]),(30,[0,1,5,6,17,18,27,28,29],[],[1024,1728]),(47,[0,1,5,6,9,17,18,27,28,29,35,36,37],[],[1024,2176,1728])],[(7,1,(none,.frz 896)),(60,2,(none,.frz 2176))])
def Y2:=fun a0 a1 v2 r5 v6 x9 v7 (k_:Q→(O Q)→P (O (O Q)))=>∀{v10 v11} {zr},k_ v10 v11=N zr→Kh Z 49 Nj 47 [0,1,5,6,9,17,18,27,28,29,35,36,37] [] [1024,2176,1728] ⟨[pI 0 a0,pI 1 a1,pW 5 1024,pI 6 v2,pW 9 2176,pI 17 a0,pI 18 v2,pW 27 1728,pI 28 (r5.length:Q),pI 29 v6,pL 35 rI x9,pI 36 (x9.length:Q),pI 37 v10],[],[(1024,1,Y (rL rI) v7),(2176,1,Y rI v11),(1728,1,Y (rL rI) r5)]⟩ (A9 [4] [.sc (.o 1 (Y (rL rI) zr))])
def QT:=fun a0 a1 v2 r5 (k_:Q→(O (O Q))→P (O (O Q)))=>∀{v6 v7} {zr},k_ v6 v7=N zr→Kh Z 49 Nj 30 [0,1,5,6,17,18,27,28,29] [] [1024,1728] ⟨[pI 0 a0,pI 1 a1,pW 5 1024,pI 6 v2,pI 17 a0,pI 18 v2,pW 27 1728,pI 28 (r5.length:Q),pI 29 v6],[],[(1024,1,Y (rL rI) v7),(1728,1,Y (rL rI) r5)]⟩ (A9 [4] [.sc (.o 1 (Y (rL rI) zr))])
def QS:=fun a0 a1 (k_:Q→(O (O Q))→P (O (O Q)))=>∀{v2 v3} {zr},k_ v2 v3=N zr→Kh Z 49 Nj 16 [0,1,5,17,18] [] [1024] ⟨[pI 0 a0,pI 1 a1,pW 5 1024,pI 17 a0,pI 18 v2],[],[(1024,1,Y (rL rI) v3)]⟩ (A9 [4] [.sc (.o 1 (Y (rL rI) zr))])
theorem uk{rec_:Q→Q→P (O (O Q))}(h_rec:∀(a0 a1:Q) zr,rec_ a0 a1=N zr→FC Z 49 [.sc (.int .i64 a0),.sc (.int .i64 a1)] [.sc (.o 1 (Y (rL rI) zr))]){a0 a1 v2 r5 v6 x9 v7}{Lt}(iP:QT a0 a1 v2 r5 Lt){n:V}:Y2 a0 a1 v2 r5 v6 x9 v7 (MX rec_ a0 a1 v2 r5 v6 x9 v7 Lt n):=by
 induction n with
 | zero=>intro _ _ r h; cases h
 | succ n ih=>
  intro v10 v11 r h σ hσ;rw[MX] at h;have:Ct 49 _:=⟨h_rec⟩;have s0:=fun(x13:Q)=> @Ay (Y rI ([(IntKind.i64.wrap ((IntKind.i64.wrap (v2+(1:Q)))+x13))]:O Q))
  have s1:= @Ay (Y (rL rI) ([v11]:O (O Q)));have k0:= @iP;exact gc
theorem ul{rec_:Q→Q→P (O (O Q))}(h_rec:∀(a0 a1:Q) zr,rec_ a0 a1=N zr→FC Z 49 [.sc (.int .i64 a0),.sc (.int .i64 a1)] [.sc (.o 1 (Y (rL rI) zr))]){a0 a1 v2 r5}{Ls}(iO:QS a0 a1 Ls){n:V}:QT a0 a1 v2 r5 (MW rec_ a0 a1 v2 r5 Ls n):=by
 induction n with
 | zero=>intro _ _ r h; cases h
 | succ n ih=>
  intro v6 v7 r h σ hσ S hS;refine ev hS ?_;rw[MW] at h;refine AP (Aw ?_);obtain⟨h8,h⟩|⟨h8,h⟩:=ic h
  ·obtain⟨x9,h9,h⟩:=ob h;have h9n:=AJ h9;try simp only[hσ,h8,h9,h9n,C,E,F,G,H,J]
   refine B3 (es:=Y rI ([v2]:O Q)) ?_;try simp only[h8,h9,h9n,C,E,F,G,H,J]
   refine uk h_rec ih h ?_ (by kernel_rfl);try simp only[h8,h9,h9n,C,E,F,G,H,J,pL,aM,I]
  ·try simp only[hσ,h8,C,E,F,G,H,J]
   refine iO h ?_ (by kernel_rfl);try simp only[h8,C,E,F,G,H,J,pL,aM,I]
theorem um{rec_:Q→Q→P (O (O Q))}(h_rec:∀(a0 a1:Q) zr,rec_ a0 a1=N zr→FC Z 49 [.sc (.int .i64 a0),.sc (.int .i64 a1)] [.sc (.o 1 (Y (rL rI) zr))]){a0 a1}{n:V}:QS a0 a1 (MV rec_ a0 a1 n):=by
 induction n with
 | zero=>intro _ _ r h; cases h
 | succ n ih=>
  intro v2 v3 r h σ hσ;rw[MV] at h;have:Ct 49 _:=⟨h_rec⟩;have k0:= @ul;exact gc
theorem rm(rec_:Q→Q→P (O (O Q)))(a0 a1:Q)(r:(O (O Q)))(h_rec:∀(a0 a1:Q) zr,rec_ a0 a1=N zr→FC Z 49 [.sc (.int .i64 a0),.sc (.int .i64 a1)] [.sc (.o 1 (Y (rL rI) zr))])(h:P0 rec_ a0 a1=N r):FC Z 49 [.sc (.int .i64 a0),.sc (.int .i64 a1)] [.sc (.o 1 (Y (rL rI) r))]:=by
 unfold P0 at h;refine A5 mixed Nj [4] 56 ?_;have:Ct 49 _:=⟨h_rec⟩;have s0:= @Ay (Y rI ([]:O Q));have s1:= @Ay (Y (rL rI) ([([]:O Q)]:O (O Q)));have s2:= @Ay (Y (rL rI) ([]:O (O Q)));have k0:= @um;exact gc
theorem rn:∀(n:V) (a0:Q) (a1:Q) (r:(O (O Q))),KG n a0 a1=N r→FC Z 49 [.sc (.int .i64 a0),.sc (.int .i64 a1)] [.sc (.o 1 (Y (rL rI) r))]:=by
 intro n
 induction n with
 | zero=>intro _ _ r h; cases h
 | succ n ih=>intro a0 a1 r h; rw[KG] at h; exact rm (KG n) a0 a1 r ih h
theorem rl{a0}{a1}{r}(h:MU a0 a1=N r):FC Z 49 [.sc (.int .i64 a0),.sc (.int .i64 a1)] [.sc (.o 1 (Y (rL rI) r))]:=rn bigN a0 a1 r h
def SJ:Hw:=([(6,[0,1,7,8,9],[],[])],[])
def XT:=fun a0 a1 (k_:Q→P U)=>∀{v1} {zr},k_ v1=N zr→Kh Z 90 SJ 6 [0,1,7,8,9] [] [] ⟨[pL 0 X7.row a0,pL 1 rI a1,pL 7 rI a1,pI 8 (a1.length:Q),pI 9 v1],[],[]⟩ (A9 [4] [.sc (.v (.bool zr))])
theorem uo{a0 a1}{n:V}:XT a0 a1 (FF a0 a1 n):=by
 induction n with
 | zero=>intro _ r h; cases h
 | succ n ih=>
  intro v1 r h σ hσ;rw[FF] at h;exact gc
instance yd:Ct 90 (∀{a0} {a1} {r},Ky a0 a1=N r→FC Z 90 [.sc (.sl (Y X7.row a0)),.sc (.sl (Y rI a1))] [.sc (.v (.bool r))]):=by
 refine⟨fun h=> ?_⟩;unfold Ky at h;refine A5 mixed SJ [4] 33 ?_;have k0:= @uo;exact gc
def SK:Hw:=([(16,[0,5,13,14,15],[],[768])],[])
def Xx:=fun a0 a1 (k_:Q→(O X7)→P (O X7))=>∀{v3 v4} {zr},k_ v3 v4=N zr→Kh Z 92 SK 16 [0,5,13,14,15] [] [768] ⟨[pL 0 X7.row a0,pW 5 768,pL 13 rI a1,pI 14 (a1.length:Q),pI 15 v3],[],[(768,5,Y X7.row v4)]⟩ (A9 [4] [.sc (.o 5 (Y X7.row zr))])
theorem up_{a0 a1}{n:V}:Xx a0 a1 (GT a0 a1 n):=by
 induction n with
 | zero=>intro _ _ r h; cases h
 | succ n ih=>
  intro v3 v4 r h σ hσ;rw[GT] at h;have s0:=fun(x7:X7)=> @Ay (Y X7.row ([x7]:O X7))
  exact gc
instance xi:Ct 92 (∀{a0} {a1} {r},Kk a0 a1=N r→FC Z 92 [.sc (.sl (Y X7.row a0)),.sc (.sl (Y rI a1))] [.sc (.o 5 (Y X7.row r))]):=by
 refine⟨fun h=> ?_⟩;unfold Kk at h;refine A5 mixed SK [4] 28 ?_;have s0:= @Ay (Y X7.row ([]:O X7));have k0:= @up_;exact gc
instance xB:Ct 91 (∀{a0} {a1} {r},JO a0 a1=N r→FC Z 91 [.ag (X3.row a0),.sc (.sl (Y X7.row a1))] [.sc (.v (.bool r))]):=by
 refine⟨fun h=> ?_⟩;unfold JO at h;refine A5 mixed h0 [4] 16 ?_;exact gc
instance rH:Ct 50 (∀{a0} {a1} {a2} {r},Kl a0 a1 a2=N r→FC Z 50 [.ag (X3.row a0),.sc (.sl (Y X7.row a1)),.sc (.sl (Y rI a2))] [.sc (.v (.bool r))]):=by
 refine⟨fun h=> ?_⟩;unfold Kl at h;refine A5 mixed h0 [6] 22 ?_;exact gc
def Pj:Hw:=([(14,[1,2,14,15],[2],[]),(28,[1,2,14,15,21,22,23],[2],[1344])],[])
def Xv:=fun a1 y3 v4 r6 (a0:X3) (k_:Q→P (O Q))=>∀{v7} {zr},k_ v7=N zr→Kh Z 21 Pj 28 [1,2,14,15,21,22,23] [2] [1344] ⟨[pL 1 X7.row a1,pB 2,pI 14 y3,pI 15 v4,pW 21 1344,pI 22 (r6.length:Q),pI 23 v7],[(2,(dm a0.row))],[(1344,1,Y (rL rI) r6)]⟩ (A9 [4] [.sc (.v (.sl (Y rI zr)))])
def QN:=fun a1 (a0:X3) y3 (k_:Q→P (O Q))=>∀{v4} {zr},k_ v4=N zr→Kh Z 21 Pj 14 [1,2,14,15] [2] [] ⟨[pL 1 X7.row a1,pB 2,pI 14 y3,pI 15 v4],[(2,(dm a0.row))],[]⟩ (A9 [4] [.sc (.v (.sl (Y rI zr)))])
theorem uq{a1 y3 v4 r6 a0}{Lp}(iK:QN a1 a0 y3 Lp){n:V}:Xv a1 y3 v4 r6 a0 (CZ a1 y3 v4 r6 a0 Lp n):=by
 induction n with
 | zero=>intro _ r h; cases h
 | succ n ih=>
  intro v7 r h σ hσ S hS;refine ev hS ?_;rw[CZ] at h;refine AP (Aw ?_);obtain⟨h8,h⟩|⟨h8,h⟩:=ic h
  ·obtain⟨x9,h9,h⟩:=ob h;have h9n:=AJ h9;obtain⟨r10,h10,h⟩:=ob h;try simp only[hσ,h8,h9,h9n,C,E,F,G,H,J]
   refine AM (Ak rH h10) ?_;obtain⟨h11,h⟩|⟨h11,h⟩:=ic h
   ·try simp only[h8,h9,h9n,h11,C,E,F,G,H,J]
    refine ih h ?_ (by kernel_rfl);try simp only[h8,h9,h9n,h11,C,E,F,G,H,J,pL,aM,I]
   ·try simp only[h8,h9,h9n,h11,C,E,F,G,H,J]
    cases h;exact t0
  ·try simp only[hσ,h8,C,E,F,G,H,J]
   refine iK h ?_ (by kernel_rfl);try simp only[h8,C,E,F,G,H,J,pL,aM,I]
theorem ur{a1 a0 y3}{n:V}:QN a1 a0 y3 (Di a1 a0 y3 n):=by
 induction n with
 | zero=>intro _ r h; cases h
 | succ n ih=>
  intro v4 r h σ hσ S hS;refine ev hS ?_;rw[Di] at h;refine AP (Aw ?_);obtain⟨h5,h⟩|⟨h5,h⟩:=ic h
  ·obtain⟨r6,h6,h⟩:=ob h;try simp only[hσ,h5,C,E,F,G,H,J]
   refine AM (rl h6) ?_;try simp only[h5,C,E,F,G,H,J]
   refine uq ih h ?_ (by kernel_rfl);try simp only[h5,C,E,F,G,H,J,pL,aM,I]
  ·try simp only[hσ,h5,C,E,F,G,H,J]
   cases h;exact t0
instance xd:Ct 21 (∀{a0} {a1} {r},Ik a0 a1=N r→FC Z 21 [.ag (X3.row a0),.sc (.sl (Y X7.row a1))] [.sc (.v (.sl (Y rI r)))]):=by
 refine⟨fun h=> ?_⟩;unfold Ik at h;refine A5 mixed Pj [4] 35 ?_;have k0:= @ur;exact gc
def SL:Hw:=([(16,[1,2,5,15,16,17],[2],[768])],[])
def Xu:=fun a1 r3 (a0:X3) (k_:Q→(O (O W))→P (O W))=>∀{v4 v5} {zr},k_ v4 v5=N zr→Kh Z 7 SL 16 [1,2,5,15,16,17] [2] [768] ⟨[pL 1 X7.row a1,pB 2,pW 5 768,pL 15 rI r3,pI 16 (r3.length:Q),pI 17 v4],[(2,(dm a0.row))],[(768,1,Y rS v5)]⟩ (A9 [4] [.sc (.v (.str zr))])
theorem ut{a1 r3 a0}{n:V}:Xu a1 r3 a0 (GR a1 r3 a0 n):=by
 induction n with
 | zero=>intro _ _ r h; cases h
 | succ n ih=>
  intro v4 v5 r h σ hσ;rw[GR] at h;have s0:=fun(x9:X9)=> @Ay (Y rS ([x9.Name]:O (O W)))
  exact gc
instance rF:Ct 7 (∀{a0} {a1} {r},Kf a0 a1=N r→FC Z 7 [.ag (X3.row a0),.sc (.sl (Y X7.row a1))] [.sc (.v (.str r))]):=by
 refine⟨fun h=> ?_⟩;unfold Kf at h;refine A5 mixed SL [4] 40 ?_;have s0:= @Ay (Y rS ([]:O (O W)));have k0:= @ut;exact gc
def SM:Hw:=([(5,[2,3,4,5,8,25],[4,5,8],[])],[])
def WP:=fun a2 a3 (a0:X3) (a1:X7) (k_:U→P (X0 × U))=>∀{v4} {zr},k_ v4=N zr→Kh Z 96 SM 5 [2,3,4,5,8,25] [4,5,8] [] ⟨[pL 2 rI a2,pI 3 a3,pB 4,pB 5,pB 8,(25,vc (aB v4))],[(4,(dm a0.row)),(5,(dm a1.row)),(8,[aI (0:Q),aI (0:Q),aI (0:Q),.nil])],[]⟩ (A9 [.c 8 T 4,9] [.ag [.v (.int .i64 zr.1.Start),.v (.int .i64 zr.1.Arrival),.v (.int .i64 zr.1.Cost),.o 5 (Y X2.row zr.1.Passages)],.sc (.v (.bool zr.2))])
theorem uu{a2 a3 a0 a1}:WP a2 a3 a0 a1 (K3 a2 a3 a0 a1):=by
 intro v4 r h σ hσ;unfold K3 at h;exact gc
instance xX:Ct 96 (∀{a0} {a1} {a2} {a3} {r},K2 a0 a1 a2 a3=N r→FC Z 96 [.ag (X3.row a0),.ag (X7.row a1),.sc (.sl (Y rI a2)),.sc (.int .i64 a3)] [.ag [.v (.int .i64 r.1.Start),.v (.int .i64 r.1.Arrival),.v (.int .i64 r.1.Cost),.o 5 (Y X2.row r.1.Passages)],.sc (.v (.bool r.2))]):=by
 refine⟨fun h=> ?_⟩;unfold K2 at h;refine A5 mixed SM [.c 8 T 4,9] 50 ?_;have k0:= @uu;exact gc
def Mw:Xg:=Jp [Yt [0,1,12,13] [] []] (Jp [bn 14 .lss 13 12] (Yv 14 0 1 (Jp [mv 15 13,mv 5 15] (QZ (.drw [o0 (mv 16 0),o0 (mv 17 5),o0 (ia 18 16 17 5),o0 (lw 19 18 5),o0 (mv 20 1),o0 (mv 21 5),o0 (ia 22 20 21 5),o0 (lw 23 22 5),o0 (none,.geq 24 T [.i,.i,.b,.i,.i] (S 19) (S 23))]) (Yr 24 (On [Mg 4 L])))) (Ys 25 13)))
def OG:Xg:=(On [Mg 4 T])
def Rz:Xg:=(Jp [Mg 4 L] (Yw [mv 6 0,ln 7 6,mv 8 1,ln 9 8,bn 10 .neq 7 9] 10 (On [Mg 4 L]) (QZ (Jp [mv 11 0,ln 12 11,Yu 13 0] (Yq 0 Mw)) OG)))
def Yd:=fun a0 a1 (k_:Q→P U)=>∀{v2} {zr},k_ v2=N zr→Kp Z [0,1,12,13] [] [] ⟨[pL 0 X2.row a0,pL 1 X2.row a1,pI 12 (a0.length:Q),pI 13 v2],[],[]⟩ (.code (.loop Mw):: [.blk 0,.code OG]) (A9 [4] [.sc (.v (.bool zr))])
theorem uv{a0 a1}{n:V}:Yd a0 a1 (Hb a0 a1 n):=by
 induction n with
 | zero=>intro _ r h; cases h
 | succ n ih=>
  intro v2 r h σ hσ;rw[Hb] at h;refine AP ?_;obtain⟨h3,h⟩|⟨h3,h⟩:=ic h
  ·try simp only[hσ,h3,Mw,C,E,F,G,H,J]
   refine At ?_;obtain⟨x4,h4,h⟩:=ob h;obtain⟨x5,h5,h⟩:=ob h;obtain⟨h6,h⟩|⟨h6,h⟩:=ic h
   ·try simp only[h3,h4,h5,h6,C,E,F,G,H,J]
    refine ih h ?_;try simp only[h3,h4,h5,h6,C,E,F,G,H,J,pL,aM,I]
   ·try simp only[h3,h4,h5,h6,C,E,F,G,H,J]
    cases h;exact t0
  ·try simp only[hσ,h3,Mw,OG,C,E,F,G,H,J]
   cases h;exact t0
instance yo:Ct 130 (∀{a0} {a1} {r},KO a0 a1=N r→FC Z 130 [.sc (.sl (Y X2.row a0)),.sc (.sl (Y X2.row a1))] [.sc (.v (.bool r))]):=by
 refine⟨fun{a0} {a1} {r} h=> ?_⟩;unfold KO at h;refine We mixed Rz [4] 26 ?_;simp only[Rz,C,E,F,G,H,J];obtain⟨h1,h⟩|⟨h1,h⟩:=ic h
 ·try simp only[h1,C,E,F,G,H,J]
  cases h;exact t0
 ·try simp only[h1,C,E,F,G,H,J]
  refine uv h ?_;try simp only[h1,C,E,F,G,H,J,pL,aM,I]
instance xg:Ct 97 (∀{a0} {a1} {r},Ki a0 a1=N r→FC Z 97 [.ag (X0.row a0),.ag (X0.row a1)] [.sc (.v (.bool r))]):=by
 refine⟨fun h=> ?_⟩;unfold Ki at h;refine A5 mixed h0 [4] 31 ?_;exact gc
def SN:Hw:=([(8,[3,4,5,7,14,15,16],[3,4,5],[768])],[])
def WL:=fun(a2:X0) (a0:X3) (a1:X7) (k_:Q→(O Q)→P U)=>∀{v1 v2} {zr},k_ v1 v2=N zr→Kh Z 52 SN 8 [3,4,5,7,14,15,16] [3,4,5] [768] ⟨[pB 3,pB 4,pB 5,pW 7 768,pL 14 X2.row a2.Passages,pI 15 (a2.Passages.length:Q),pI 16 v1],[(3,(dm a0.row)),(4,(dm a1.row)),(5,(dm a2.row))],[(768,1,Y rI v2)]⟩ (A9 [6] [.sc (.v (.bool zr))])
theorem uw{a2 a0 a1}{n:V}:WL a2 a0 a1 (GG a2 a0 a1 n):=by
 induction n with
 | zero=>intro _ _ r h; cases h
 | succ n ih=>
  intro v1 v2 r h σ hσ;rw[GG] at h;have s0:=fun(x4:X2)=> @Ay (Y rI ([x4.Segment]:O Q))
  exact gc
instance xQ:Ct 52 (∀{a0} {a1} {a2} {r},JX a0 a1 a2=N r→FC Z 52 [.ag (X3.row a0),.ag (X7.row a1),.ag (X0.row a2)] [.sc (.v (.bool r))]):=by
 refine⟨fun h=> ?_⟩;unfold JX at h;refine A5 mixed SN [6] 41 ?_;have s0:= @Ay (Y rI ([]:O Q));have k0:= @uw;exact gc
def SO:Hw:=([(14,[2,3,20,21,22],[3],[])],[])
def WM:=fun a2 a1 (a0:X3) (k_:Q→P U)=>∀{v4} {zr},k_ v4=N zr→Kh Z 23 SO 14 [2,3,20,21,22] [3] [] ⟨[pL 2 X0.row a2,pB 3,pL 20 X7.row a1,pI 21 (a1.length:Q),pI 22 v4],[(3,(dm a0.row))],[]⟩ (A9 [6] [.sc (.v (.bool zr))])
theorem ux{a2 a1 a0}{n:V}:WM a2 a1 a0 (GH a2 a1 a0 n):=by
 induction n with
 | zero=>intro _ r h; cases h
 | succ n ih=>
  intro v4 r h σ hσ;rw[GH] at h;exact gc
instance xR:Ct 23 (∀{a0} {a1} {a2} {r},Ii a0 a1 a2=N r→FC Z 23 [.ag (X3.row a0),.sc (.sl (Y X7.row a1)),.sc (.sl (Y X0.row a2))] [.sc (.v (.bool r))]):=by
 refine⟨fun h=> ?_⟩;unfold Ii at h;refine A5 mixed SO [6] 48 ?_;have k0:= @ux;exact gc
def SP:Hw:=([(16,[1,3,7,16,17,18],[3],[960])],[])
def WX:=fun a1 a2 (a0:X3) (k_:Q→(O (O W))→P (O (O W)))=>∀{v3 v4} {zr},k_ v3 v4=N zr→Kh Z 8 SP 16 [1,3,7,16,17,18] [3] [960] ⟨[pL 1 X7.row a1,pB 3,pW 7 960,pL 16 X0.row a2,pI 17 (a2.length:Q),pI 18 v3],[(3,(dm a0.row))],[(960,1,Y rS v4)]⟩ (A9 [6] [.sc (.o 1 (Y rS zr))])
theorem uy{a1 a2 a0}{n:V}:WX a1 a2 a0 (GO a1 a2 a0 n):=by
 induction n with
 | zero=>intro _ _ r h; cases h
 | succ n ih=>
  intro v3 v4 r h σ hσ;rw[GO] at h;have s0:=fun(x8:X9) (x6:X0)=> @Ay (Y rA ([(⟨T,x8.Name,0⟩:Xj),(⟨T,([115,116,97,114,116]:O W),0⟩:Xj),(⟨L,[],x6.Start⟩:Xj),(⟨T,([97,114,114,105,118,101]:O W),0⟩:Xj),(⟨L,[],x6.Arrival⟩:Xj),(⟨T,([119,97,105,116]:O W),0⟩:Xj),(⟨L,[],x6.Cost⟩:Xj)]:O Xj))
  have s1:=fun(r9:(O W))=> @Ay (Y rS ([r9]:O (O W)))
  exact gc
instance VC:Ct 8 (∀{a0} {a1} {a2} {r},Fx a0 a1 a2=N r→FC Z 8 [.ag (X3.row a0),.sc (.sl (Y X7.row a1)),.sc (.sl (Y X0.row a2))] [.sc (.o 1 (Y rS r))]):=by
 refine⟨fun h=> ?_⟩;unfold Fx at h;refine A5 mixed SP [6] 53 ?_;have s0:= @Ay (Y rS ([]:O (O W)));have k0:= @uy;exact gc
def Pl:Hw:=([(5,[1,2,3,22],[3],[]),(16,[2,3,8,24,25,26],[3],[1472])],[])
def WZ:=fun a2 a1 (a0:X3) (k_:Q→(O X0)→P ((O X0) × U))=>∀{v5 v6} {zr},k_ v5 v6=N zr→Kh Z 9 Pl 16 [2,3,8,24,25,26] [3] [1472] ⟨[pL 2 rI a2,pB 3,pW 8 1472,pL 24 X7.row a1,pI 25 (a1.length:Q),pI 26 v5],[(3,(dm a0.row))],[(1472,4,Y X0.row v6)]⟩ (A9 [6,7] [.sc (.o 4 (Y X0.row zr.1)),.sc (.v (.bool zr.2))])
def WY:=fun a1 a2 (a0:X3) (k_:U→P ((O X0) × U))=>∀{v3} {zr},k_ v3=N zr→Kh Z 9 Pl 5 [1,2,3,22] [3] [] ⟨[pL 1 X7.row a1,pL 2 rI a2,pB 3,(22,vc (aB v3))],[(3,(dm a0.row))],[]⟩ (A9 [6,7] [.sc (.o 4 (Y X0.row zr.1)),.sc (.v (.bool zr.2))])
theorem uz{a2 a1 a0}{n:V}:WZ a2 a1 a0 (GP a2 a1 a0 n):=by
 induction n with
 | zero=>intro _ _ r h; cases h
 | succ n ih=>
  intro v5 v6 r h σ hσ S hS;refine ev hS ?_;rw[GP] at h;refine AP (Aw ?_);obtain⟨h7,h⟩|⟨h7,h⟩:=ic h
  ·obtain⟨x8,h8,h⟩:=ob h;try simp only[hσ,h7,h8,C,E,F,G,H,J]
   refine AK ?_;obtain⟨r9,h9,h⟩:=ob h;try simp only[h7,h8,C,E,F,G,H,J]
   refine AM (Ak Qn h9) ?_;obtain⟨x10,h10,h⟩:=ob h;obtain⟨r11,h11,h⟩:=ob h;try simp only[h7,h8,h10,C,E,F,G,H,J]
   refine AM (Ak LY h11) ?_;obtain⟨h12,h⟩|⟨h12,h⟩:=ic h
   ·obtain⟨x13,h13,h⟩:=ob h;have h13n:=AJ h13;try simp only[h7,h8,h10,h12,h13,h13n,C,E,F,G,H,J]
    refine B3 (es:=Y X0.row ([x13]:O X0)) ?_;obtain⟨h14,h⟩:=AQ h;try simp only[h7,h8,h10,h12,h13,h13n,h14,C,E,F,G,H,J]
    refine ih h ?_ (by kernel_rfl);try simp only[h7,h8,h10,h12,h13,h13n,h14,C,E,F,G,H,J,pL,aM,I]
   ·try simp only[h7,h8,h10,h12,C,E,F,G,H,J]
    cases h;trivial
  ·try simp only[hσ,h7,C,E,F,G,H,J]
   cases h;trivial
theorem vA{a1 a2 a0}:WY a1 a2 a0 (Kd a1 a2 a0):=by
 intro v3 r h σ hσ;unfold Kd at h;have s0:= @Ay (Y X0.row ([]:O X0));have k0:= @uz;exact gc
instance rE:Ct 9 (∀{a0} {a1} {a2} {r},Kc a0 a1 a2=N r→FC Z 9 [.ag (X3.row a0),.sc (.sl (Y X7.row a1)),.sc (.sl (Y rI a2))] [.sc (.o 4 (Y X0.row r.1)),.sc (.v (.bool r.2))]):=by
 refine⟨fun h=> ?_⟩;unfold Kc at h;refine A5 mixed Pl [6,7] 54 ?_;have k0:= @vA;exact gc
instance xy:Ct 61 (∀{a0} {r},Kv a0=N r→FC Z 61 [.sc (.sl (Y X2.row a0))] [.sc (.o 5 (Y X2.row r))]):=by
 refine⟨fun h=> ?_⟩;unfold Kv at h;refine A5 mixed h0 [2] 8 ?_;have s0:= @IY _ X2.row (⟨(0:Q),(0:Q),L,(0:Q),(0:Q)⟩:X2);exact gc
def SQ:Hw:=([(8,[3,7,8,9],[],[384])],[(19,4,(none,.frz 1024))])
def Wt:=fun a0 (k_:Q→(O (O X2))→P (O (O X2)))=>∀{v1 v2} {zr},k_ v1 v2=N zr→Kh Z 27 SQ 8 [3,7,8,9] [] [384] ⟨[pW 3 384,pL 7 X0.row a0,pI 8 (a0.length:Q),pI 9 v1],[],[(384,1,Y (rL X2.row) v2)]⟩ (A9 [2] [.sc (.o 1 (Y (rL X2.row) zr))])
theorem vB{a0}{n:V}:Wt a0 (Gq a0 n):=by
 induction n with
 | zero=>intro _ _ r h; cases h
 | succ n ih=>
  intro v1 v2 r h σ hσ;rw[Gq] at h;have s0:=fun(r5:(O X2))=> @Ay (Y (rL X2.row) ([r5]:O (O X2)))
  exact gc
instance xC:Ct 27 (∀{a0} {r},JP a0=N r→FC Z 27 [.sc (.sl (Y X0.row a0))] [.sc (.o 1 (Y (rL X2.row) r))]):=by
 refine⟨fun h=> ?_⟩;unfold JP at h;refine A5 mixed SQ [2] 21 ?_;have s0:= @Ay (Y (rL X2.row) ([]:O (O X2)));have k0:= @vB;exact gc
instance rM:Ct 28 (∀{a0} {a1} {a2} {a3} {r},Ks a0 a1 a2 a3=N r→FC Z 28 [.ag (Xo.row a0),.ag (X5.row a1),.sc (.sl (Y X9.row a2)),.sc (.sl (Y X2.row a3))] [.sc (.v (.int .i64 r))]):=by
 refine⟨fun h=> ?_⟩;unfold Ks at h;refine A5 mixed h0 [8] 37 ?_;exact gc
def SR:Hw:=([(14,[1,2,14,15,16],[2],[])],[])
def WI:=fun a1 (a0:X5) (k_:Q→P U)=>∀{v3} {zr},k_ v3=N zr→Kh Z 115 SR 14 [1,2,14,15,16] [2] [] ⟨[pL 1 X2.row a1,pB 2,pL 14 X2.row a1,pI 15 (a1.length:Q),pI 16 v3],[(2,(dm a0.row))],[]⟩ (A9 [4] [.sc (.v (.bool zr))])
theorem vC{a1 a0}{n:V}:WI a1 a0 (Ft a1 a0 n):=by
 induction n with
 | zero=>intro _ r h; cases h
 | succ n ih=>
  intro v3 r h σ hσ;rw[Ft] at h;exact gc
instance xO:Ct 115 (∀{a0} {a1} {r},JU a0 a1=N r→FC Z 115 [.ag (X5.row a0),.sc (.sl (Y X2.row a1))] [.sc (.v (.bool r))]):=by
 refine⟨fun h=> ?_⟩;unfold JU at h;refine A5 mixed SR [4] 70 ?_;have k0:= @vC;exact gc
def Pm:Hw:=([(5,[1,2,3,6,18],[3,6],[]),(14,[1,2,3,6,20,21,22],[3,6],[])],[])
def WU:=fun a1 a2 (a0:X5) (k_:Q→P (Xb × U))=>∀{v5} {zr},k_ v5=N zr→Kh Z 64 Pm 14 [1,2,3,6,20,21,22] [3,6] [] ⟨[pL 1 X9.row a1,pL 2 X2.row a2,pB 3,pB 6,pL 20 X2.row a2,pI 21 (a2.length:Q),pI 22 v5],[(3,(dm a0.row)),(6,[aI (0:Q),aI (0:Q),aI (0:Q),aI (0:Q)])],[]⟩ (A9 [.c 6 T 4,7] [.ag [.v (.int .i64 zr.1.From),.v (.int .i64 zr.1.To),.v (.int .i64 zr.1.A),.v (.int .i64 zr.1.B)],.sc (.v (.bool zr.2))])
def WT:=fun a1 a2 (a0:X5) (k_:U→P (Xb × U))=>∀{v3} {zr},k_ v3=N zr→Kh Z 64 Pm 5 [1,2,3,6,18] [3,6] [] ⟨[pL 1 X9.row a1,pL 2 X2.row a2,pB 3,pB 6,(18,vc (aB v3))],[(3,(dm a0.row)),(6,[aI (0:Q),aI (0:Q),aI (0:Q),aI (0:Q)])],[]⟩ (A9 [.c 6 T 4,7] [.ag [.v (.int .i64 zr.1.From),.v (.int .i64 zr.1.To),.v (.int .i64 zr.1.A),.v (.int .i64 zr.1.B)],.sc (.v (.bool zr.2))])
theorem vD{a1 a2 a0}{n:V}:WU a1 a2 a0 (GN a1 a2 a0 n):=by
 induction n with
 | zero=>intro _ r h; cases h
 | succ n ih=>
  intro v5 r h σ hσ;rw[GN] at h;exact gc
theorem vF{a1 a2 a0}:WT a1 a2 a0 (Ka a1 a2 a0):=by
 intro v3 r h σ hσ;unfold Ka at h;have k0:= @vD;exact gc
instance xb:Ct 64 (∀{a0} {a1} {a2} {r},K9 a0 a1 a2=N r→FC Z 64 [.ag (X5.row a0),.sc (.sl (Y X9.row a1)),.sc (.sl (Y X2.row a2))] [.ag [.v (.int .i64 r.1.From),.v (.int .i64 r.1.To),.v (.int .i64 r.1.A),.v (.int .i64 r.1.B)],.sc (.v (.bool r.2))]):=by
 refine⟨fun h=> ?_⟩;unfold K9 at h;refine A5 mixed Pm [.c 6 T 4,7] 44 ?_;have k0:= @vF;exact gc
def SS:Hw:=([(8,[2,4,5,9,18,19,20],[4,5],[1088])],[])
def WW:=fun a2 a3 (a0:Xo) (a1:X5) (k_:Q→(O Xb)→P Q)=>∀{v1 v2} {zr},k_ v1 v2=N zr→Kh Z 29 SS 8 [2,4,5,9,18,19,20] [4,5] [1088] ⟨[pL 2 X9.row a2,pB 4,pB 5,pW 9 1088,pL 18 (rL X2.row) a3,pI 19 (a3.length:Q),pI 20 v1],[(4,(dm a0.row)),(5,(dm a1.row))],[(1088,4,Y Xb.row v2)]⟩ (A9 [8] [.sc (.v (.int .i64 zr))])
theorem vG{a2 a3 a0 a1}{n:V}:WW a2 a3 a0 a1 (Fw a2 a3 a0 a1 n):=by
 induction n with
 | zero=>intro _ _ r h; cases h
 | succ n ih=>
  intro v1 v2 r h σ hσ;rw[Fw] at h;have s0:=fun(r6:Xb × U)=> @Ay (Y Xb.row ([r6.1]:O Xb))
  exact gc
instance rD:Ct 29 (∀{a0} {a1} {a2} {a3} {r},Kb a0 a1 a2 a3=N r→FC Z 29 [.ag (Xo.row a0),.ag (X5.row a1),.sc (.sl (Y X9.row a2)),.sc (.sl (Y (rL X2.row) a3))] [.sc (.v (.int .i64 r))]):=by
 refine⟨fun h=> ?_⟩;unfold Kb at h;refine A5 mixed SS [8] 60 ?_;have s0:= @Ay (Y Xb.row ([]:O Xb));have k0:= @vG;exact gc
def SU:Hw:=([(18,[2,5,6,15,16,17],[2],[832,896])],[])
def WA:=fun r3 (a0:X3) (k_:Q→(O X2)→P (O W))=>∀{v4 v5} {zr},k_ v4 v5=N zr→Kh Z 10 SU 18 [2,5,6,15,16,17] [2] [832,896] ⟨[pB 2,pW 5 832,pW 6 896,pW 15 832,pI 16 (r3.length:Q),pI 17 v4],[(2,(dm a0.row))],[(832,1,Y (rL X2.row) r3),(896,5,Y X2.row v5)]⟩ (A9 [4] [.sc (.v (.str zr))])
theorem vH{r3 a0}{n:V}:WA r3 a0 (Gx r3 a0 n):=by
 induction n with
 | zero=>intro _ _ r h; cases h
 | succ n ih=>
  intro v4 v5 r h σ hσ S hS;refine ev hS ?_;rw[Gx] at h;refine AP (Aw ?_);obtain⟨h6,h⟩|⟨h6,h⟩:=ic h
  ·obtain⟨x7,h7,h⟩:=ob h;have h7n:=AJ h7;obtain⟨h8,h⟩:=AQ h;try simp only[hσ,h6,h7,h7n,h8,C,E,F,G,H,J]
   refine ih h ?_ (by kernel_rfl);try simp only[h6,h7,h7n,h8,C,E,F,G,H,J,pL,aM,I]
  ·try simp only[hσ,h6,C,E,F,G,H,J]
   refine At ?_;obtain⟨r9,h9,h⟩:=ob h;try simp only[h6,C,E,F,G,H,J]
   refine FS (Ak rM h9) (by first | rfl | kernel_rfl) (Cv X) X (uf X) ?_;obtain⟨r10,h10,h⟩:=ob h;try simp only[h6,C,E,F,G,H,J]
   refine FS (Ak rD h10) (by first | rfl | kernel_rfl) (Cv X) X (uf X) ?_;try simp only[h6,C,E,F,G,H,J]
   refine B3 (es:=Y rA ([(⟨T,([116,117,103,115]:O W),0⟩:Xj),(⟨L,[],r9⟩:Xj),(⟨T,([112,105,108,111,116,115]:O W),0⟩:Xj),(⟨L,[],r10⟩:Xj)]:O Xj)) ?_;obtain⟨r11,h11,h⟩:=ob h;try simp only[h6,C,E,F,G,H,J]
   refine FS (Ak rq h11) (by first | rfl | kernel_rfl) (Cv X) X (uf X) ?_;try simp only[h6,C,E,F,G,H,J]
   cases h;exact t0
instance qp:Ct 10 (∀{a0} {a1} {r},JQ a0 a1=N r→FC Z 10 [.ag (X3.row a0),.sc (.sl (Y X0.row a1))] [.sc (.v (.str r))]):=by
 refine⟨fun h=> ?_⟩;unfold JQ at h;refine A5 mixed SU [4] 47 ?_;have s0:= @Ay (Y X2.row ([]:O X2));have k0:= @vH;exact gc
def SV:Hw:=([(24,[3,13,14,15],[],[768])],[])
def WF:=fun a0 (k_:Q→(O (O W))→P (O W))=>∀{v4 v5} {zr},k_ v4 v5=N zr→Kh Z 33 SV 24 [3,13,14,15] [] [768] ⟨[pW 3 768,pL 13 X8.row a0,pI 14 (a0.length:Q),pI 15 v4],[],[(768,1,Y rS v5)]⟩ (A9 [2] [.sc (.v (.str zr))])
theorem vI{a0}{n:V}:WF a0 (GC a0 n):=by
 induction n with
 | zero=>intro _ _ r h; cases h
 | succ n ih=>
  intro v4 v5 r h σ hσ;rw[GC] at h;have s0:=fun(r9:(O W)) (r11:(O W))=> @Ay (Y rS ([((r9++([45]:O W))++r11)]:O (O W)))
  exact gc
instance xK:Ct 33 (∀{a0} {r},JT a0=N r→FC Z 33 [.sc (.sl (Y X8.row a0))] [.sc (.v (.str r))]):=by
 refine⟨fun h=> ?_⟩;unfold JT at h;refine A5 mixed SV [2] 33 ?_;have s0:= @Ay (Y rS ([]:O (O W)));have k0:= @vI;exact gc
def SW:Hw:=([(16,[3,4,5,7,25,26,27],[3,4,5],[1472])],[])
def XA:=fun(a1:X5) (a0:Xd) (a2:X9) (k_:Q→(O (O W))→P (O (O W)))=>∀{v7 v8} {zr},k_ v7 v8=N zr→Kh Z 11 SW 16 [3,4,5,7,25,26,27] [3,4,5] [1472] ⟨[pB 3,pB 4,pB 5,pW 7 1472,pL 25 X1.row a1.Segments,pI 26 (a1.Segments.length:Q),pI 27 v7],[(3,(dm a0.row)),(4,(dm a1.row)),(5,(dm a2.row))],[(1472,1,Y rS v8)]⟩ (A9 [6] [.sc (.o 1 (Y rS zr))])
theorem vJ{a1 a0 a2}{n:V}:XA a1 a0 a2 (GV a1 a0 a2 n):=by
 induction n with
 | zero=>intro _ _ r h; cases h
 | succ n ih=>
  intro v7 v8 r h σ hσ;rw[GV] at h;have s0:=fun(x11:Xa) (x13:Xa) (r16:(O W))=> @Ay (Y rA ([(⟨T,((x11.Name++([45]:O W))++x13.Name),0⟩:Xj),(⟨T,r16,0⟩:Xj)]:O Xj))
  have s1:=fun(r17:(O W))=> @Ay (Y rS ([r17]:O (O W)))
  exact gc
instance rJ:Ct 11 (∀{a0} {a1} {a2} {r},Ko a0 a1 a2=N r→FC Z 11 [.ag (Xd.row a0),.ag (X5.row a1),.ag (X9.row a2)] [.sc (.o 1 (Y rS r))]):=by
 refine⟨fun h=> ?_⟩;unfold Ko at h;refine A5 mixed SW [6] 63 ?_;have s0:= @Ay (Y rS ([]:O (O W)));have k0:= @vJ;exact gc
instance qu:Ct 12 (∀{a0} {a1} {a2} {r},JS a0 a1 a2=N r→FC Z 12 [.ag (X5.row a0),.sc (.sl (Y X9.row a1)),.ag (X2.row a2)] [.sc (.v (.str r))]):=by
 refine⟨fun{a0} {a1} {a2} {r} h=> ?_⟩;unfold JS at h;refine A5 mixed h0 [6] 48 ?_;intro S hS;refine ev hS ?_;simp only[C,E,F,G,H,J];try simp only[C,E,F,G,H,J]
 refine BL ?_;try simp only[C,E,F,G,H,J]
 refine BL ?_;obtain⟨r1,h1,h⟩:=ob h;try simp only[C,E,F,G,H,J]
 refine AM (Ak qz h1) ?_;obtain⟨h2,h⟩|⟨h2,h⟩:=ic h
 ·obtain⟨r3,h3,h⟩:=ob h;try simp only[h2,C,E,F,G,H,J]
  refine AM (Ak rC h3) ?_;try simp only[h2,C,E,F,G,H,J]
  refine At ?_;obtain⟨x4,h4,h⟩:=ob h;obtain⟨x5,h5,h⟩:=ob h;obtain⟨h6,h⟩:=AQ h;obtain⟨x7,h7,h⟩:=ob h;obtain⟨h8,h⟩:=AQ h;obtain⟨r9,h9,h⟩:=ob h;try simp only[h2,h4,h5,h6,h7,h8,C,E,F,G,H,J]
  refine Cs (Ak VB h9) ?_;obtain⟨r10,h10,h⟩:=ob h;try simp only[h2,h4,h5,h6,h7,h8,C,E,F,G,H,J]
  refine Cs (Ak VB h10) ?_;try simp only[h2,h4,h5,h6,h7,h8,C,E,F,G,H,J]
  refine B3 (es:=Y rS ([x4.Name,((x5.Name++([62]:O W))++x7.Name),r9,r10]:O (O W))) ?_;obtain⟨r11,h11,h⟩:=ob h;try simp only[h2,h4,h5,h6,h7,h8,C,E,F,G,H,J]
  refine FS (Ak qw h11) (by first | rfl | kernel_rfl) (Cv X) X (uf X) ?_;try simp only[h2,h4,h5,h6,h7,h8,C,E,F,G,H,J]
  cases h;exact t0
 ·try simp only[h2,C,E,F,G,H,J]
  cases h;exact t0
def iB:Hw:=([],[(35,3,(none,.frz 1164)),(35,4,(none,.frz 1536))])
theorem w_laws_FnReports(a0:O Q)(r:U)(h:MZ a0=N r):FC Z 3 [.sc (.sl (Y r8 a0))] [.sc (.v (.bool r))]:=by
 unfold MZ at h;refine A5 mixed iB [2] 125 ?_;intro S hS;refine ev hS ?_;simp only[C,E,F,G,H,J];obtain⟨h1,h⟩|⟨h1,h⟩:=ic h
 ·try simp only[h1,C,E,F,G,H,J]
  cases h;exact t0
 ·obtain⟨r2,h2,h⟩:=ob h;try simp only[h1,C,E,F,G,H,J]
  refine AM (Ak ry h2) ?_;try simp only[h1,C,E,F,G,H,J]
  refine AK ?_;obtain⟨r3,h3,h⟩:=ob h;try simp only[h1,C,E,F,G,H,J]
  refine Dj (Ak qh h3) X (D1 X ⟨D2,X,X,⟨⟩⟩) X (uf X) ?_;obtain⟨r4,h4,h⟩:=ob h;try simp only[h1,C,E,F,G,H,J]
  refine Dj (Ak qi h4) X (Cv X) X (uf X) ?_;obtain⟨r5,h5,h⟩:=ob h;try simp only[h1,C,E,F,G,H,J]
  refine Dj (Ak rF h5) X (Cv X) X (uf X) ?_;obtain⟨h6,h⟩|⟨h6,h⟩:=ic h
  ·try simp only[h1,h6,C,E,F,G,H,J]
   cases h;exact t0
  ·obtain⟨h7,h⟩|⟨h7,h⟩:=ic h
   ·try simp only[h1,h6,h7,C,E,F,G,H,J]
    cases h;exact t0
   ·obtain⟨h8,h⟩|⟨h8,h⟩:=ic h
    ·obtain⟨h9,h⟩|⟨h9,h⟩:=ic h
     ·try simp only[h1,h6,h7,h8,h9,C,E,F,G,H,J]
      cases h;exact t0
     ·try simp only[h1,h6,h7,h8,h9,C,E,F,G,H,J]
      obtain⟨h10,h⟩|⟨h10,h⟩:=ic h
      ·try simp only[h1,h6,h7,h8,h9,h10,C,E,F,G,H,J]
       refine C3 ?_;try simp only[h1,h6,h7,h8,h9,h10,C,E,F,G,H,J]
       refine C3 ?_;obtain⟨r12,h12,h⟩:=ob h;try simp only[h1,h6,h7,h8,h9,h10,C,E,F,G,H,J]
       refine AM (Ak rE h12) ?_;obtain⟨r13,h13,h⟩:=ob h;try simp only[h1,h6,h7,h8,h9,h10,C,E,F,G,H,J]
       refine Dj (Ak VC h13) X (D1 X ⟨D2,⟨⟩⟩) X (uf X) ?_;obtain⟨h14,h⟩|⟨h14,h⟩:=ic h
       ·try simp only[h1,h6,h7,h8,h9,h10,h14,C,E,F,G,H,J]
        cases h;exact t0
       ·obtain⟨x15,h15,h⟩:=ob h;have h15n:=AJ h15;obtain⟨h16,h⟩|⟨h16,h⟩:=ic h
        ·try simp only[h1,h6,h7,h8,h9,h10,h14,h15,h15n,h16,C,E,F,G,H,J]
         cases h;exact t0
        ·try simp only[h1,h6,h7,h8,h9,h10,h14,h15,h15n,h16,C,E,F,G,H,J]
         refine At ?_;obtain⟨h17,h⟩|⟨h17,h⟩:=ic h
         ·obtain⟨r18,h18,h⟩:=ob h;try simp only[h1,h6,h7,h8,h9,h10,h14,h15,h15n,h16,h17,C,E,F,G,H,J]
          refine FS (Ak qp h18) (by first | rfl | kernel_rfl) (Cv X) X (uf X) ?_;obtain⟨h19,h⟩|⟨h19,h⟩:=ic h
          ·try simp only[h1,h6,h7,h8,h9,h10,h14,h15,h15n,h16,h17,h19,C,E,F,G,H,J]
           cases h;exact t0
          ·obtain⟨x20,h20,h⟩:=ob h;obtain⟨r21,h21,h⟩:=ob h;try simp only[h1,h6,h7,h8,h9,h10,h14,h15,h15n,h16,h17,h19,h20,C,E,F,G,H,J]
           refine Cs (Ak rJ h21) ?_;obtain⟨h22,h⟩|⟨h22,h⟩:=ic h
           ·obtain⟨x23,h23,h⟩:=ob h;obtain⟨r24,h24,h⟩:=ob h;try simp only[h1,h6,h7,h8,h9,h10,h14,h15,h15n,h16,h17,h19,h20,h22,h23,C,E,F,G,H,J]
            refine Cs (Ak qu h24) ?_;try simp only[h1,h6,h7,h8,h9,h10,h14,h15,h15n,h16,h17,h19,h20,h22,h23,C,E,F,G,H,J]
            cases h;exact t0
           ·try simp only[h1,h6,h7,h8,h9,h10,h14,h15,h15n,h16,h17,h19,h20,h22,C,E,F,G,H,J]
            cases h;exact t0
         ·try simp only[h1,h6,h7,h8,h9,h10,h14,h15,h15n,h16,h17,C,E,F,G,H,J]
          cases h;exact t0
      ·obtain⟨r11,h11,h⟩:=ob h;try simp only[h1,h6,h7,h8,h9,h10,C,E,F,G,H,J]
       refine Dj (Ak VC h11) X (D1 X ⟨D2,⟨⟩⟩) X (uf X) ?_;try simp only[h1,h6,h7,h8,h9,h10,C,E,F,G,H,J]
       cases h;exact t0
    ·try simp only[h1,h6,h7,h8,C,E,F,G,H,J]
     cases h;exact t0
end Go.Vi
