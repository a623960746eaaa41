/-
Walks. No condition.
-/
import Derived.Test.YtpigjggbnclpbaaGreatONf
import Derived.Test.YtpigjggbnclpbaaGreatChecked
import Derived.Test.YtpigjggbnclpbaaGreatOVi44
import Derived.KernelRfl
import Derived.Test.YtpigjggbnclpbaaGreatOWOpenOptionsb
namespace Go.Vi
open Go.Proofs
set_option linter.all false
set_option maxRecDepth 4000
set_option maxHeartbeats 2000000
open Nat renaming reduceBEq → C, reduceMul → E, reduceAdd → F, reduceDiv → G, le_of_ble_eq_true → uf
open Int renaming reduceBEq → H
attribute [local irreducible] go AT H7
open Tryz renaming prog → V
open List renaming map → W, length_set → X, map_nil → Z
open Xc renaming row → Y
open Xa renaming row → I
open Int renaming tmod → zA
open IntKind renaming wrap → zB
open Option renaming some → T
open _root_ renaming List → L, Option → N, Int → O, Bool → P, Nat → Q, rfl → U
def OW:Hw:=([(28,[2,3,5,7,9,10],[2,3,7],[1984,1985,1986,2560]),(44,[2,3,5,7,9,10],[2,3,7],[1984,1985,1986,2560])],[(42,2,(none,.frz 3843))])
def WX:=fun(r3:(L O) × P) v7 (a0:X9) (a1:Xe) (r4:Xf × P) (k_:(L X5)→N (L X5))=>∀{v14} {zr},k_ v14=T zr→Kh V 35 OW 44 [2,3,5,7,9,10] [2,3,7] [1984,1985,1986,2560] ⟨[pB 2,pB 3,pL 5 rI r3.1,pB 7,pW 9 2560,pI 10 v7],[(2,([aI a0.Forecast.Tide.Mean,aM Y a0.Forecast.Tide.Parts,aM I a0.Forecast.Surges,aM X8.row a0.Chart.Points,aM X1.row a0.Chart.Segments,aM X6.row a0.Fleet,aI a0.Regime.Gap,aB a0.Regime.NoMeet]++dm a0.Crew.row)),(3,(dm a1.row)),(7,[.own 1984,.own 1985,.own 1986])],[(1984,1,W rB r4.1.waits),(1985,1,W rI r4.1.minutes),(1986,1,W (rL X2.row) r4.1.sure),(2560,4,W X5.row v14)]⟩ (Ac [4] [.sc (.o 4 (W X5.row zr))])
def QD:=fun(r3:(L O) × P) (a0:X9) (a1:Xe) (r4:Xf × P) (k_:O→(L X5)→N (L X5))=>∀{v7 v8} {zr},k_ v7 v8=T zr→Kh V 35 OW 28 [2,3,5,7,9,10] [2,3,7] [1984,1985,1986,2560] ⟨[pB 2,pB 3,pL 5 rI r3.1,pB 7,pW 9 2560,pI 10 v7],[(2,([aI a0.Forecast.Tide.Mean,aM Y a0.Forecast.Tide.Parts,aM I a0.Forecast.Surges,aM X8.row a0.Chart.Points,aM X1.row a0.Chart.Segments,aM X6.row a0.Fleet,aI a0.Regime.Gap,aB a0.Regime.NoMeet]++dm a0.Crew.row)),(3,(dm a1.row)),(7,[.own 1984,.own 1985,.own 1986])],[(1984,1,W rB r4.1.waits),(1985,1,W rI r4.1.minutes),(1986,1,W (rL X2.row) r4.1.sure),(2560,4,W X5.row v8)]⟩ (Ac [4] [.sc (.o 4 (W X5.row zr))])
theorem W2{r3 v7 a0 a1 r4}{Nl}(gl:QD r3 a0 a1 r4 Nl):WX r3 v7 a0 a1 r4 (ES r3 v7 a0 a1 r4 Nl):=by
 intro v14 r h σ hσ;unfold ES at h;have k0:= @gl;exact gc
theorem tC{r3 a0 a1 r4}{n:Q}:QD r3 a0 a1 r4 (Dn r3 a0 a1 r4 n):=by
 induction n with
 | zero=>intro _ _ r h; cases h
 | succ n ih=>
  intro v7 v8 r h σ hσ S hS;refine ev hS ?_;rw[Dn] at h;refine AR (AJ ?_);obtain⟨h9,h⟩|⟨h9,h⟩:=ic h
  ·obtain⟨h10,h⟩|⟨h10,h⟩:=ic h
   ·obtain⟨r11,h11,h⟩:=ob h;try simp only[hσ,h9,h10,C,E,F,G,H,J]
    refine Bm (Ag VI h11) U (BL U ⟨U,U,U,AM,U,⟨⟩⟩) U (uf U) ?_;try simp only[h9,h10,C,E,F,G,H,J]
    refine BS ?_;obtain⟨h12,h⟩|⟨h12,h⟩:=ic h
    ·try simp only[h9,h10,h12,C,E,F,G,H,J]
     refine Ed ?_;try simp only[h9,h10,h12,C,E,F,G,H,J]
     refine Bz (es:=W X5.row ([r11.1]:L X5)) ?_;obtain⟨h13,h⟩:=Bv h;try simp only[h9,h10,h12,h13,C,E,F,G,H,J]
     refine W2 ih h ?_ (by kernel_rfl);try simp only[h9,h10,h12,h13,C,E,F,G,H,J,pL,aM,Z]
    ·try simp only[h9,h10,h12,C,E,F,G,H,J]
     refine W2 ih h ?_ (by kernel_rfl);try simp only[h9,h10,h12,C,E,F,G,H,J,pL,aM,Z]
   ·try simp only[hσ,h9,h10,C,E,F,G,H,J]
    cases h;exact t0
  ·try simp only[hσ,h9,C,E,F,G,H,J]
   cases h;exact t0
instance vl:Ct 35 (∀{a0} {a1} {r},D5 a0 a1=T r→FC V 35 [.ag (X9.row a0),.ag (Xe.row a1)] [.sc (.o 4 (W X5.row r))]):=by
 refine⟨fun h=> ?_⟩;unfold D5 at h;refine A5 A2 OW [4] 69 ?_;have s0:= @Bk (W X5.row ([]:L X5));have k0:= @tC;exact gc
def SF:Hw:=([(6,[0,1,7,8],[],[])],[])
def Y9:=fun F_a1 caps_a1 a0 (k_:O→N O)=>∀{v1} {zr},k_ v1=T zr→Kh V 135 SF 6 [0,1,7,8] [] [] ⟨[pL 0 X3.row a0,(1,vc (.dat (.clo F_a1 caps_a1))),pI 7 (a0.length:O),pI 8 v1],[],[]⟩ (Ac [4] [.sc (.v (.int .i64 zr))])
theorem tE{a1:X3→N P}{F_a1 caps_a1}(hF_a1:Bi V F_a1=true)(h_a1:∀z0 zr,a1 z0=T zr→FC V F_a1 ([.ag (X3.row z0)]++caps_a1.map .sc) [.sc (.v (.bool zr))]){a0}{n:Q}:Y9 F_a1 caps_a1 a0 (GG a1 a0 n):=by
 induction n with
 | zero=>intro _ r h; cases h
 | succ n ih=>
  intro v1 r h σ hσ S hS;refine ev hS ?_;rw[GG] at h;refine AR (AJ ?_);obtain⟨h2,h⟩|⟨h2,h⟩:=ic h
  ·obtain⟨x3,h3,h⟩:=ob h;obtain⟨r4,h4,h⟩:=ob h;try simp only[hσ,h2,h3,C,E,F,G,H,J]
   refine L7 (h_a1 _ _ h4) hF_a1 U U (Bg U) U (uf U) ?_;obtain⟨h5,h⟩|⟨h5,h⟩:=ic h
   ·try simp only[h2,h3,h5,C,E,F,G,H,J]
    cases h;exact t0
   ·try simp only[h2,h3,h5,C,E,F,G,H,J]
    refine ih h ?_ (by kernel_rfl);try simp only[h2,h3,h5,C,E,F,G,H,J,pL,aM,Z]
  ·try simp only[hσ,h2,C,E,F,G,H,J]
   cases h;exact t0
theorem qv{a0}{a1}{r}(F_a1:FuncId)(caps_a1:L D)(hF_a1:Bi V F_a1=true)(h_a1:∀z0 zr,a1 z0=T zr→FC V F_a1 ([.ag (X3.row z0)]++caps_a1.map .sc) [.sc (.v (.bool zr))])(h:ML a0 a1=T r):FC V 135 [.sc (.sl (W X3.row a0)),.sc (.clo F_a1 caps_a1)] [.sc (.v (.int .i64 r))]:=by
 unfold ML at h;refine A5 A2 SF [4] 19 ?_;have k0:= @tE;exact gc
theorem qt{a0}{a1}{r}(F_a1:FuncId)(caps_a1:L D)(hF_a1:Bi V F_a1=true)(h_a1:∀z0 zr,a1 z0=T zr→FC V F_a1 ([.ag (X3.row z0)]++caps_a1.map .sc) [.sc (.v (.bool zr))])(h:MI a0 a1=T r):FC V 80 [.sc (.sl (W X3.row a0)),.sc (.clo F_a1 caps_a1)] [.sc (.v (.bool r))]:=by
 unfold MI at h;refine A5 A2 h0 [4] 9 ?_;intro S hS;refine ev hS ?_;simp only[C,E,F,G,H,J];obtain⟨r1,hr1,h⟩:=ob h;try simp only[C,E,F,G,H,J]
 refine B4 (qv F_a1 caps_a1 hF_a1 h_a1 hr1) ?_;try simp only[C,E,F,G,H,J]
 cases h;exact t0
def SG:Hw:=([(6,[0,1,7,8],[],[])],[])
def Y8:=fun F_a1 caps_a1 a0 (k_:O→N O)=>∀{v1} {zr},k_ v1=T zr→Kh V 167 SG 6 [0,1,7,8] [] [] ⟨[pL 0 X7.row a0,(1,vc (.dat (.clo F_a1 caps_a1))),pI 7 (a0.length:O),pI 8 v1],[],[]⟩ (Ac [4] [.sc (.v (.int .i64 zr))])
theorem tF{a1:X7→N P}{F_a1 caps_a1}(hF_a1:Bi V F_a1=true)(h_a1:∀z0 zr,a1 z0=T zr→FC V F_a1 ([.ag (X7.row z0)]++caps_a1.map .sc) [.sc (.v (.bool zr))]){a0}{n:Q}:Y8 F_a1 caps_a1 a0 (GF a1 a0 n):=by
 induction n with
 | zero=>intro _ r h; cases h
 | succ n ih=>
  intro v1 r h σ hσ S hS;refine ev hS ?_;rw[GF] at h;refine AR (AJ ?_);obtain⟨h2,h⟩|⟨h2,h⟩:=ic h
  ·obtain⟨x3,h3,h⟩:=ob h;obtain⟨r4,h4,h⟩:=ob h;try simp only[hσ,h2,h3,C,E,F,G,H,J]
   refine L7 (h_a1 _ _ h4) hF_a1 U U (Bg U) U (uf U) ?_;obtain⟨h5,h⟩|⟨h5,h⟩:=ic h
   ·try simp only[h2,h3,h5,C,E,F,G,H,J]
    cases h;exact t0
   ·try simp only[h2,h3,h5,C,E,F,G,H,J]
    refine ih h ?_ (by kernel_rfl);try simp only[h2,h3,h5,C,E,F,G,H,J,pL,aM,Z]
  ·try simp only[hσ,h2,C,E,F,G,H,J]
   cases h;exact t0
theorem qu{a0}{a1}{r}(F_a1:FuncId)(caps_a1:L D)(hF_a1:Bi V F_a1=true)(h_a1:∀z0 zr,a1 z0=T zr→FC V F_a1 ([.ag (X7.row z0)]++caps_a1.map .sc) [.sc (.v (.bool zr))])(h:MK a0 a1=T r):FC V 167 [.sc (.sl (W X7.row a0)),.sc (.clo F_a1 caps_a1)] [.sc (.v (.int .i64 r))]:=by
 unfold MK at h;refine A5 A2 SG [4] 19 ?_;have k0:= @tF;exact gc
theorem qr{a0}{a1}{r}(F_a1:FuncId)(caps_a1:L D)(hF_a1:Bi V F_a1=true)(h_a1:∀z0 zr,a1 z0=T zr→FC V F_a1 ([.ag (X7.row z0)]++caps_a1.map .sc) [.sc (.v (.bool zr))])(h:MH a0 a1=T r):FC V 136 [.sc (.sl (W X7.row a0)),.sc (.clo F_a1 caps_a1)] [.sc (.v (.bool r))]:=by
 unfold MH at h;refine A5 A2 h0 [4] 9 ?_;intro S hS;refine ev hS ?_;simp only[C,E,F,G,H,J];obtain⟨r1,hr1,h⟩:=ob h;try simp only[C,E,F,G,H,J]
 refine B4 (qu F_a1 caps_a1 hF_a1 h_a1 hr1) ?_;try simp only[C,E,F,G,H,J]
 cases h;exact t0
theorem tG{a0}{c0}{r}(h:HS a0 c0=T r):FC V 137 [.ag (X7.row a0),.sc (.pd (X3.row c0))] [.sc (.v (.bool r))]:=by
 unfold HS at h;refine A5 A2 h0 [3] 22 ?_;exact gc
instance vf:Ct 82 (∀{a0} {a1} {r},Jw a0 a1=T r→FC V 82 [.ag (X3.row a0),.sc (.sl (W X7.row a1))] [.sc (.v (.bool r))]):=by
 refine⟨fun{a0} {a1} {r} h=> ?_⟩;unfold Jw at h;refine A5 A2 h0 [4] 8 ?_;intro S hS;refine ev hS ?_;simp only[C,E,F,G,H,J];try simp only[C,E,F,G,H,J]
 refine Bd ?_;obtain⟨r1,hr1,h⟩:=ob h;try simp only[C,E,F,G,H,J]
 refine Bm (qr 137 [.pd (X3.row a0)] (by kernel_rfl) (fun z0 zr zh=>tG zh) hr1) U (Bg U) U (uf U) ?_;try simp only[C,E,F,G,H,J]
 cases h;exact t0
theorem tH{a0}{c0}{r}(h:JJ a0 c0=T r):FC V 81 [.ag (X3.row a0),.sc (.pd ((rL X7.row) c0))] [.sc (.v (.bool r))]:=by
 unfold JJ at h;refine A5 A2 h0 [3] 7 ?_;exact gc
instance wC:Ct 37 (∀{a0} {a1} {r},G7 a0 a1=T r→FC V 37 [.ag (X5.row a0),.sc (.sl (W X7.row a1))] [.sc (.v (.bool r))]):=by
 refine⟨fun{a0} {a1} {r} h=> ?_⟩;unfold G7 at h;refine A5 A2 h0 [4] 9 ?_;intro S hS;refine ev hS ?_;simp only[C,E,F,G,H,J];try simp only[C,E,F,G,H,J]
 refine Bd ?_;try simp only[C,E,F,G,H,J]
 refine Bd ?_;obtain⟨r1,hr1,h⟩:=ob h;try simp only[C,E,F,G,H,J]
 refine Bm (qt 81 [.pd ((rL X7.row) a1)] (by kernel_rfl) (fun z0 zr zh=>tH zh) hr1) U (Bg U) U (uf U) ?_;try simp only[C,E,F,G,H,J]
 cases h;exact t0
theorem tI{a0}{c0}{r}(h:HU a0 c0=T r):FC V 36 [.ag (X5.row a0),.sc (.pd ((rL X7.row) c0))] [.sc (.v (.bool r))]:=by
 unfold HU at h;refine A5 A2 h0 [3] 7 ?_;exact gc
instance wX:Ct 138 (∀{a0} {a1} {r},JZ a0 a1=T r→FC V 138 [.ag (X3.row a0),.ag (X3.row a1)] [.sc (.v (.bool r))]):=by
 refine⟨fun h=> ?_⟩;unfold JZ at h;refine A5 A2 h0 [4] 30 ?_;exact gc
def SH:Hw:=([(14,[0,1,5],[],[])],[])
def XH:=fun a0 a1 (k_:O→N P)=>∀{v2} {zr},k_ v2=T zr→Kh V 83 SH 14 [0,1,5] [] [] ⟨[pL 0 X3.row a0,pL 1 X3.row a1,pI 5 v2],[],[]⟩ (Ac [4] [.sc (.v (.bool zr))])
theorem tJ{a0 a1}{n:Q}:XH a0 a1 (Gm a0 a1 n):=by
 induction n with
 | zero=>intro _ r h; cases h
 | succ n ih=>
  intro v2 r h σ hσ;rw[Gm] at h;exact gc
instance wY:Ct 83 (∀{a0} {a1} {r},K0 a0 a1=T r→FC V 83 [.sc (.sl (W X3.row a0)),.sc (.sl (W X3.row a1))] [.sc (.v (.bool r))]):=by
 refine⟨fun h=> ?_⟩;unfold K0 at h;refine A5 A2 SH [4] 27 ?_;have k0:= @tJ;exact gc
instance wU:Ct 38 (∀{a0} {a1} {r},JW a0 a1=T r→FC V 38 [.ag (X5.row a0),.ag (X5.row a1)] [.sc (.v (.bool r))]):=by
 refine⟨fun h=> ?_⟩;unfold JW at h;refine A5 A2 h0 [4] 26 ?_;exact gc
def SI:Hw:=([(14,[0,1,5],[],[])],[])
def XF:=fun a0 a1 (k_:O→N P)=>∀{v2} {zr},k_ v2=T zr→Kh V 11 SI 14 [0,1,5] [] [] ⟨[pL 0 X5.row a0,pL 1 X5.row a1,pI 5 v2],[],[]⟩ (Ac [4] [.sc (.v (.bool zr))])
theorem tK{a0 a1}{n:Q}:XF a0 a1 (Gk a0 a1 n):=by
 induction n with
 | zero=>intro _ r h; cases h
 | succ n ih=>
  intro v2 r h σ hσ;rw[Gk] at h;exact gc
instance Qb:Ct 11 (∀{a0} {a1} {r},EX a0 a1=T r→FC V 11 [.sc (.sl (W X5.row a0)),.sc (.sl (W X5.row a1))] [.sc (.v (.bool r))]):=by
 refine⟨fun h=> ?_⟩;unfold EX at h;refine A5 A2 SI [4] 27 ?_;have k0:= @tK;exact gc
instance wV:Ct 168 (∀{a0} {a1} {r},JX a0 a1=T r→FC V 168 [.ag (Y a0),.ag (Y a1)] [.sc (.v (.bool r))]):=by
 refine⟨fun h=> ?_⟩;unfold JX at h;refine A5 A2 h0 [4] 20 ?_;exact gc
def SJ:Hw:=([(14,[0,1,5],[],[])],[])
def XG:=fun a0 a1 (k_:O→N P)=>∀{v2} {zr},k_ v2=T zr→Kh V 139 SJ 14 [0,1,5] [] [] ⟨[pL 0 Y a0,pL 1 Y a1,pI 5 v2],[],[]⟩ (Ac [4] [.sc (.v (.bool zr))])
theorem tL{a0 a1}{n:Q}:XG a0 a1 (Gl a0 a1 n):=by
 induction n with
 | zero=>intro _ r h; cases h
 | succ n ih=>
  intro v2 r h σ hσ;rw[Gl] at h;exact gc
instance wW:Ct 139 (∀{a0} {a1} {r},JY a0 a1=T r→FC V 139 [.sc (.sl (W Y a0)),.sc (.sl (W Y a1))] [.sc (.v (.bool r))]):=by
 refine⟨fun h=> ?_⟩;unfold JY at h;refine A5 A2 SJ [4] 27 ?_;have k0:= @tL;exact gc
instance wj:Ct 84 (∀{a0} {a1} {r},Mv a0 a1=T r→FC V 84 [.ag (Xh.row a0),.ag (Xh.row a1)] [.sc (.v (.bool r))]):=by
 refine⟨fun h=> ?_⟩;unfold Mv at h;refine A5 A2 h0 [4] 16 ?_;exact gc
instance wh:Ct 140 (∀{a0} {a1} {r},K7 a0 a1=T r→FC V 140 [.ag (I a0),.ag (I a1)] [.sc (.v (.bool r))]):=by
 refine⟨fun h=> ?_⟩;unfold K7 at h;refine A5 A2 h0 [4] 20 ?_;exact gc
def SK:Hw:=([(14,[0,1,5],[],[])],[])
def XL:=fun a0 a1 (k_:O→N P)=>∀{v2} {zr},k_ v2=T zr→Kh V 85 SK 14 [0,1,5] [] [] ⟨[pL 0 I a0,pL 1 I a1,pI 5 v2],[],[]⟩ (Ac [4] [.sc (.v (.bool zr))])
theorem tM{a0 a1}{n:Q}:XL a0 a1 (Gr a0 a1 n):=by
 induction n with
 | zero=>intro _ r h; cases h
 | succ n ih=>
  intro v2 r h σ hσ;rw[Gr] at h;exact gc
instance wi:Ct 85 (∀{a0} {a1} {r},K9 a0 a1=T r→FC V 85 [.sc (.sl (W I a0)),.sc (.sl (W I a1))] [.sc (.v (.bool r))]):=by
 refine⟨fun h=> ?_⟩;unfold K9 at h;refine A5 A2 SK [4] 27 ?_;have k0:= @tM;exact gc
instance wS:Ct 39 (∀{a0} {a1} {r},JT a0 a1=T r→FC V 39 [.ag (Xb.row a0),.ag (Xb.row a1)] [.sc (.v (.bool r))]):=by
 refine⟨fun h=> ?_⟩;unfold JT at h;refine A5 A2 h0 [4] 17 ?_;exact gc
instance wZ:Ct 141 (∀{a0} {a1} {r},K1 a0 a1=T r→FC V 141 [.ag (X8.row a0),.ag (X8.row a1)] [.sc (.v (.bool r))]):=by
 refine⟨fun h=> ?_⟩;unfold K1 at h;refine A5 A2 h0 [4] 15 ?_;exact gc
def SL:Hw:=([(14,[0,1,5],[],[])],[])
def XI:=fun a0 a1 (k_:O→N P)=>∀{v2} {zr},k_ v2=T zr→Kh V 86 SL 14 [0,1,5] [] [] ⟨[pL 0 X8.row a0,pL 1 X8.row a1,pI 5 v2],[],[]⟩ (Ac [4] [.sc (.v (.bool zr))])
theorem tN{a0 a1}{n:Q}:XI a0 a1 (Gn a0 a1 n):=by
 induction n with
 | zero=>intro _ r h; cases h
 | succ n ih=>
  intro v2 r h σ hσ;rw[Gn] at h;exact gc
instance wa:Ct 86 (∀{a0} {a1} {r},K2 a0 a1=T r→FC V 86 [.sc (.sl (W X8.row a0)),.sc (.sl (W X8.row a1))] [.sc (.v (.bool r))]):=by
 refine⟨fun h=> ?_⟩;unfold K2 at h;refine A5 A2 SL [4] 27 ?_;have k0:= @tN;exact gc
instance wc:Ct 142 (∀{a0} {a1} {r},K3 a0 a1=T r→FC V 142 [.ag (X1.row a0),.ag (X1.row a1)] [.sc (.v (.bool r))]):=by
 refine⟨fun h=> ?_⟩;unfold K3 at h;refine A5 A2 h0 [4] 30 ?_;exact gc
def SM:Hw:=([(14,[0,1,5],[],[])],[])
def XJ:=fun a0 a1 (k_:O→N P)=>∀{v2} {zr},k_ v2=T zr→Kh V 87 SM 14 [0,1,5] [] [] ⟨[pL 0 X1.row a0,pL 1 X1.row a1,pI 5 v2],[],[]⟩ (Ac [4] [.sc (.v (.bool zr))])
theorem tP{a0 a1}{n:Q}:XJ a0 a1 (Gp a0 a1 n):=by
 induction n with
 | zero=>intro _ r h; cases h
 | succ n ih=>
  intro v2 r h σ hσ;rw[Gp] at h;exact gc
instance wd:Ct 87 (∀{a0} {a1} {r},K4 a0 a1=T r→FC V 87 [.sc (.sl (W X1.row a0)),.sc (.sl (W X1.row a1))] [.sc (.v (.bool r))]):=by
 refine⟨fun h=> ?_⟩;unfold K4 at h;refine A5 A2 SM [4] 27 ?_;have k0:= @tP;exact gc
instance wP:Ct 40 (∀{a0} {a1} {r},JR a0 a1=T r→FC V 40 [.ag (X0.row a0),.ag (X0.row a1)] [.sc (.v (.bool r))]):=by
 refine⟨fun h=> ?_⟩;unfold JR at h;refine A5 A2 h0 [4] 17 ?_;exact gc
instance we:Ct 88 (∀{a0} {a1} {r},K5 a0 a1=T r→FC V 88 [.ag (X6.row a0),.ag (X6.row a1)] [.sc (.v (.bool r))]):=by
 refine⟨fun h=> ?_⟩;unfold K5 at h;refine A5 A2 h0 [4] 35 ?_;exact gc
def SN:Hw:=([(14,[0,1,5],[],[])],[])
def XK:=fun a0 a1 (k_:O→N P)=>∀{v2} {zr},k_ v2=T zr→Kh V 41 SN 14 [0,1,5] [] [] ⟨[pL 0 X6.row a0,pL 1 X6.row a1,pI 5 v2],[],[]⟩ (Ac [4] [.sc (.v (.bool zr))])
theorem tQ{a0 a1}{n:Q}:XK a0 a1 (Gq a0 a1 n):=by
 induction n with
 | zero=>intro _ r h; cases h
 | succ n ih=>
  intro v2 r h σ hσ;rw[Gq] at h;exact gc
instance wg:Ct 41 (∀{a0} {a1} {r},K6 a0 a1=T r→FC V 41 [.sc (.sl (W X6.row a0)),.sc (.sl (W X6.row a1))] [.sc (.v (.bool r))]):=by
 refine⟨fun h=> ?_⟩;unfold K6 at h;refine A5 A2 SN [4] 27 ?_;have k0:= @tQ;exact gc
instance wb:Ct 42 (∀{a0} {a1} {r},Mu a0 a1=T r→FC V 42 [.ag (Xi.row a0),.ag (Xi.row a1)] [.sc (.v (.bool r))]):=by
 refine⟨fun h=> ?_⟩;unfold Mu at h;refine A5 A2 h0 [4] 15 ?_;exact gc
def SO:Hw:=([(14,[0,1,5],[],[])],[])
def XE:=fun a0 a1 (k_:O→N P)=>∀{v2} {zr},k_ v2=T zr→Kh V 89 SO 14 [0,1,5] [] [] ⟨[pL 0 rI a0,pL 1 rI a1,pI 5 v2],[],[]⟩ (Ac [4] [.sc (.v (.bool zr))])
theorem tR{a0 a1}{n:Q}:XE a0 a1 (Gj a0 a1 n):=by
 induction n with
 | zero=>intro _ r h; cases h
 | succ n ih=>
  intro v2 r h σ hσ;rw[Gj] at h;exact gc
instance wT:Ct 89 (∀{a0} {a1} {r},JV a0 a1=T r→FC V 89 [.sc (.sl (W rI a0)),.sc (.sl (W rI a1))] [.sc (.v (.bool r))]):=by
 refine⟨fun h=> ?_⟩;unfold JV at h;refine A5 A2 SO [4] 26 ?_;have k0:= @tR;exact gc
instance wR:Ct 43 (∀{a0} {a1} {r},Ms a0 a1=T r→FC V 43 [.ag (Xj.row a0),.ag (Xj.row a1)] [.sc (.v (.bool r))]):=by
 refine⟨fun h=> ?_⟩;unfold Ms at h;refine A5 A2 h0 [4] 26 ?_;exact gc
instance qa:Ct 12 (∀{a0} {a1} {r},JU a0 a1=T r→FC V 12 [.ag (X9.row a0),.ag (X9.row a1)] [.sc (.v (.bool r))]):=by
 refine⟨fun h=> ?_⟩;unfold JU at h;refine A5 A2 h0 [4] 35 ?_;exact gc
instance wQ:Ct 44 (∀{a0} {a1} {r},JS a0 a1=T r→FC V 44 [.ag (X7.row a0),.ag (X7.row a1)] [.sc (.v (.bool r))]):=by
 refine⟨fun h=> ?_⟩;unfold JS at h;refine A5 A2 h0 [4] 20 ?_;exact gc
def SP:Hw:=([(14,[0,1,5],[],[])],[])
def XD:=fun a0 a1 (k_:O→N P)=>∀{v2} {zr},k_ v2=T zr→Kh V 13 SP 14 [0,1,5] [] [] ⟨[pL 0 X7.row a0,pL 1 X7.row a1,pI 5 v2],[],[]⟩ (Ac [4] [.sc (.v (.bool zr))])
theorem tS{a0 a1}{n:Q}:XD a0 a1 (Gi a0 a1 n):=by
 induction n with
 | zero=>intro _ r h; cases h
 | succ n ih=>
  intro v2 r h σ hσ;rw[Gi] at h;exact gc
instance qZ:Ct 13 (∀{a0} {a1} {r},I0 a0 a1=T r→FC V 13 [.sc (.sl (W X7.row a0)),.sc (.sl (W X7.row a1))] [.sc (.v (.bool r))]):=by
 refine⟨fun h=> ?_⟩;unfold I0 at h;refine A5 A2 SP [4] 27 ?_;have k0:= @tS;exact gc
def OZ:Hw:=([(6,[0,1,5],[],[99999999999])],[])
def XQ:=fun(k_:O→O→(L Xc)→N (O × L Xc))=>∀{v1 v2 v3} {zr},k_ v1 v2 v3=T zr→Kh V 143 OZ 6 [0,1,5] [] [99999999999] ⟨[pW 0 99999999999,pI 1 v1,pI 5 v2],[],[(99999999999,3,W Y v3)]⟩ (Ch [4] (.int .i64 zr.1) [(3,W Y zr.2)] [(0,0)])
theorem tT{n:Q}:XQ (DZ n):=by
 induction n with
 | zero=>intro _ _ _ r h; cases h
 | succ n ih=>
  intro v1 v2 v3 r h σ hσ S hS;refine ev hS ?_;rw[DZ] at h;refine AR (AJ ?_);obtain⟨h4,h⟩|⟨h4,h⟩:=ic h
  ·obtain⟨x5,h5,h⟩:=ob h;have h5n:=Ay h5;try simp only[hσ,h4,h5,C,E,F,G,H,J]
   refine B1 (row:=Y) (y:=(⟨v1,x5.Period,x5.Phase⟩:Xc)) U U h5n U U (by rfl) ?_;obtain⟨x6,h6,h⟩:=ob h;have h6n:=Ay h6;try simp only[h4,h5,h6,C,E,F,G,H,J]
   refine B1 (row:=Y) (y:=(⟨x6.Amp,(zB .i64 (v1+(1:O))),x6.Phase⟩:Xc)) U U h6n U U (by rfl) ?_;obtain⟨x7,h7,h⟩:=ob h;have h7n:=Ay h7;try simp only[h4,h5,h6,h7,C,E,F,G,H,J]
   refine B1 (row:=Y) (y:=(⟨x7.Amp,x7.Period,(zB .i64 ((zB .i64 (v1+(1:O)))+(1:O)))⟩:Xc)) U U h7n U U (by rfl) ?_;try simp only[h4,h5,h6,h7,C,E,F,G,H,J]
   refine ih h ?_ (by kernel_rfl);try simp only[h4,h5,h6,h7,C,E,F,G,H,J,pL,aM,Z]
  ·try simp only[hσ,h4,C,E,F,G,H,J]
   cases h;exact⟨⟨U,⟨⟩⟩,⟨⟨⟨_,U,U⟩,U⟩,⟨⟩⟩⟩
theorem cg:AB V 143=T ((By V 143 OZ).strip,[4],34):=by kernel_rfl
theorem jl:∀(n:Q) (v1 v2:O) (v3:L Xc) (r:O × L Xc),DZ n v1 v2 v3=T r→r.2.length=v3.length:=by
 intro n
 induction n with
 | zero=>intro _ _ _ r h; cases h
 | succ n ih=>
  intro v1 v2 v3 r h;rw[DZ] at h;obtain⟨h4,h⟩|⟨h4,h⟩:=ic h
  ·obtain⟨x5,h5,h⟩:=ob h;obtain⟨x6,h6,h⟩:=ob h;obtain⟨x7,h7,h⟩:=ob h;have hl:=ih _ _ _ _ h;try simp only[X] at hl
   omega
  ·cases h;all_goals (try dsimp only); first | done | omega | (simp only[X] at *; omega) | simp_all
theorem Pk{a0}{a1}{r}(h:I7 a0 a1=T r):r.2.length=a0.length:=by
 unfold I7 at h;have hl:=jl _ _ _ _ _ h;try simp only[X] at hl
 omega
theorem qh{a0}{a1}{r}(h:I7 a0 a1=T r):FCx V 143 [.sc (.r 0),.sc (.d (.int .i64 a1))] [(3,W Y a0)] [(3,W Y r.2)] (.int .i64 r.1):=by
 unfold I7 at h;refine Cw (ps:= [(0,0)]) (σ:=⟨[(0,vc (.own 99999999999)),(1,vc (aI a1))],[],[(99999999999,3,W Y a0)]⟩) A2 cg U U U (AL Bp) U ?_;refine BE OZ ?_;have k0:= @tT;exact gc
theorem cj:AB V 90=T ((By V 90 h0).strip,[4],10):=by kernel_rfl
theorem Pq{a0}{a1}{r}(h:Ie a0 a1=T r):r.2.length=a0.Parts.length:=by
 unfold Ie at h;obtain⟨r1,h1,h⟩:=ob h;have lrr1:=(Pk h1);cases h;all_goals (try dsimp only); first | done | omega | (simp only[X] at *; omega) | simp_all
theorem qn{a0}{a1}{r}(h:Ie a0 a1=T r):FCx V 90 [.ag [.d (.int .i64 a0.Mean),.r 0],.sc (.d (.int .i64 a1))] [(3,W Y a0.Parts)] [(3,W Y r.2)] (.int .i64 r.1):=by
 unfold Ie at h;refine Cw (ps:= [(0,1)]) (σ:=⟨[(0,va [aI a0.Mean,.own 99999999999]),(1,vc (aI a1))],[],[(99999999999,3,W Y a0.Parts)]⟩) A2 cj U U U (AL Bp) U ?_;refine BE h0 ?_;intro S hS;refine ev hS ?_;try simp only[C,E,F,G,H,J]
 refine Bd ?_;obtain⟨r1,hr1,h⟩:=ob h;try simp only[C,E,F,G,H,J]
 have lrr1:=(Pk hr1);refine CN (ids:= [99999999999]) (qh hr1) U U U (AL Bp) (BO (Pk hr1) CY) ?_;try simp only[C,E,F,G,H,J]
 cases h;exact⟨⟨U,⟨⟩⟩,⟨⟨⟨_,U,U⟩,U⟩,⟨⟩⟩⟩
def P0:Hw:=([(6,[0,1,5],[],[99999999999])],[])
def XX:=fun(k_:O→O→(L Xa)→N (O × L Xa))=>∀{v1 v2 v3} {zr},k_ v1 v2 v3=T zr→Kh V 91 P0 6 [0,1,5] [] [99999999999] ⟨[pW 0 99999999999,pI 1 v1,pI 5 v2],[],[(99999999999,3,W I v3)]⟩ (Ch [4] (.int .i64 zr.1) [(3,W I zr.2)] [(0,0)])
theorem tV{n:Q}:XX (E4 n):=by
 induction n with
 | zero=>intro _ _ _ r h; cases h
 | succ n ih=>
  intro v1 v2 v3 r h σ hσ S hS;refine ev hS ?_;rw[E4] at h;refine AR (AJ ?_);obtain⟨h4,h⟩|⟨h4,h⟩:=ic h
  ·obtain⟨x5,h5,h⟩:=ob h;have h5n:=Ay h5;try simp only[hσ,h4,h5,C,E,F,G,H,J]
   refine B1 (row:=I) (y:=(⟨v1,x5.Low,x5.High⟩:Xa)) U U h5n U U (by rfl) ?_;obtain⟨x6,h6,h⟩:=ob h;have h6n:=Ay h6;try simp only[h4,h5,h6,C,E,F,G,H,J]
   refine B1 (row:=I) (y:=(⟨x6.From,(zB .i64 (v1+(1:O))),x6.High⟩:Xa)) U U h6n U U (by rfl) ?_;obtain⟨x7,h7,h⟩:=ob h;have h7n:=Ay h7;try simp only[h4,h5,h6,h7,C,E,F,G,H,J]
   refine B1 (row:=I) (y:=(⟨x7.From,x7.Low,(zB .i64 ((zB .i64 (v1+(1:O)))+(1:O)))⟩:Xa)) U U h7n U U (by rfl) ?_;try simp only[h4,h5,h6,h7,C,E,F,G,H,J]
   refine ih h ?_ (by kernel_rfl);try simp only[h4,h5,h6,h7,C,E,F,G,H,J,pL,aM,Z]
  ·try simp only[hσ,h4,C,E,F,G,H,J]
   cases h;exact⟨⟨U,⟨⟩⟩,⟨⟨⟨_,U,U⟩,U⟩,⟨⟩⟩⟩
theorem ck:AB V 91=T ((By V 91 P0).strip,[4],34):=by kernel_rfl
theorem jr:∀(n:Q) (v1 v2:O) (v3:L Xa) (r:O × L Xa),E4 n v1 v2 v3=T r→r.2.length=v3.length:=by
 intro n
 induction n with
 | zero=>intro _ _ _ r h; cases h
 | succ n ih=>
  intro v1 v2 v3 r h;rw[E4] at h;obtain⟨h4,h⟩|⟨h4,h⟩:=ic h
  ·obtain⟨x5,h5,h⟩:=ob h;obtain⟨x6,h6,h⟩:=ob h;obtain⟨x7,h7,h⟩:=ob h;have hl:=ih _ _ _ _ h;try simp only[X] at hl
   omega
  ·cases h;all_goals (try dsimp only); first | done | omega | (simp only[X] at *; omega) | simp_all
theorem Pp{a0}{a1}{r}(h:Ib a0 a1=T r):r.2.length=a0.length:=by
 unfold Ib at h;have hl:=jr _ _ _ _ _ h;try simp only[X] at hl
 omega
theorem qm{a0}{a1}{r}(h:Ib a0 a1=T r):FCx V 91 [.sc (.r 0),.sc (.d (.int .i64 a1))] [(3,W I a0)] [(3,W I r.2)] (.int .i64 r.1):=by
 unfold Ib at h;refine Cw (ps:= [(0,0)]) (σ:=⟨[(0,vc (.own 99999999999)),(1,vc (aI a1))],[],[(99999999999,3,W I a0)]⟩) A2 ck U U U (AL Bp) U ?_;refine BE P0 ?_;have k0:= @tV;exact gc
theorem cm:AB V 45=T ((By V 45 h0).strip,[4],14):=by kernel_rfl
theorem Nv{a0}{a1}{r}(h:I5 a0 a1=T r):r.2.1.length=a0.Tide.Parts.length∧r.2.2.length=a0.Surges.length:=by
 unfold I5 at h;obtain⟨r1,h1,h⟩:=ob h;have lrr1:=(Pq h1);obtain⟨r2,h2,h⟩:=ob h;have lrr2:=(Pp h2);cases h;all_goals (try dsimp only); first | done | omega | (simp only[X] at *; omega) | simp_all
theorem qe{a0}{a1}{r}(h:I5 a0 a1=T r):FCx V 45 [.ag [.d (.int .i64 a0.Tide.Mean),.r 0,.r 1],.sc (.d (.int .i64 a1))] [(3,W Y a0.Tide.Parts),(3,W I a0.Surges)] [(3,W Y r.2.1),(3,W I r.2.2)] (.int .i64 r.1):=by
 unfold I5 at h;refine Cw (ps:= [(0,1),(0,2)]) (σ:=⟨[(0,va [aI a0.Tide.Mean,.own 99999999999,.own 100000000000]),(1,vc (aI a1))],[],[(99999999999,3,W Y a0.Tide.Parts),(100000000000,3,W I a0.Surges)]⟩) A2 cm U U U (AL (AL Bp)) U ?_;refine BE h0 ?_;intro S hS;refine ev hS ?_;try simp only[C,E,F,G,H,J]
 refine Bd ?_;obtain⟨r1,hr1,h⟩:=ob h;try simp only[C,E,F,G,H,J]
 have lrr1:=(Pq hr1);refine CN (ids:= [99999999999]) (qn hr1) U U U (AL Bp) (BO (Pq hr1) CY) ?_;obtain⟨r2,hr2,h⟩:=ob h;try simp only[C,E,F,G,H,J]
 have lrr2:=(Pp hr2);refine CN (ids:= [100000000000]) (qm hr2) U U U (AL Bp) (BO (Pp hr2) CY) ?_;try simp only[C,E,F,G,H,J]
 cases h;exact⟨⟨U,⟨⟩⟩,⟨⟨⟨_,U,U⟩,U⟩,⟨⟨⟨_,U,U⟩,U⟩,⟨⟩⟩⟩⟩
def SQ:Hw:=([(14,[0,3],[],[])],[])
def XY:=fun(k_:O→(L UInt8)→N (L UInt8))=>∀{v2 v3} {zr},k_ v2 v3=T zr→Kh V 94 SQ 14 [0,3] [] [] ⟨[pI 0 v2,(3,vc (aS v3))],[],[]⟩ (Ac [2] [.sc (.v (.str zr))])
theorem tW{n:Q}:XY (Gv n):=by
 induction n with
 | zero=>intro _ _ r h; cases h
 | succ n ih=>
  intro v2 v3 r h σ hσ;rw[Gv] at h;have s0:= @Bk (W r8 ([(IntKind.u8.wrap (zB .i64 ((48:O)+(zB .i64 (zA v2 (10:O))))))]:L O));exact gc
instance VK:Ct 94 (∀{a0} {r},Ic a0=T r→FC V 94 [.sc (.int .i64 a0)] [.sc (.v (.str r))]):=by
 refine⟨fun h=> ?_⟩;unfold Ic at h;refine A5 A2 SQ [2] 20 ?_;have k0:= @tW;exact gc
def P1:Hw:=([(6,[0,1,5],[],[99999999999])],[])
def XS:=fun(k_:O→O→(L X8)→N (O × L X8))=>∀{v1 v2 v3} {zr},k_ v1 v2 v3=T zr→Kh V 92 P1 6 [0,1,5] [] [99999999999] ⟨[pW 0 99999999999,pI 1 v1,pI 5 v2],[],[(99999999999,2,W X8.row v3)]⟩ (Ch [4] (.int .i64 zr.1) [(2,W X8.row zr.2)] [(0,0)])
theorem tX{n:Q}:XS (E1 n):=by
 induction n with
 | zero=>intro _ _ _ r h; cases h
 | succ n ih=>
  intro v1 v2 v3 r h σ hσ S hS;refine ev hS ?_;rw[E1] at h;refine AR (AJ ?_);obtain⟨h4,h⟩|⟨h4,h⟩:=ic h
  ·obtain⟨r5,h5,h⟩:=ob h;try simp only[hσ,h4,C,E,F,G,H,J]
   refine B4 (Ag VK h5) ?_;obtain⟨x6,h6,h⟩:=ob h;have h6n:=Ay h6;try simp only[h4,h6,C,E,F,G,H,J]
   refine B1 (row:=X8.row) (y:=(⟨r5,x6.Wait⟩:X8)) U U h6n U U (by rfl) ?_;obtain⟨x7,h7,h⟩:=ob h;have h7n:=Ay h7;try simp only[h4,h6,h7,C,E,F,G,H,J]
   refine B1 (row:=X8.row) (y:=(⟨x7.Name,((zB .i64 (zA (zB .i64 (v1+(1:O))) (3:O)))==(0:O))⟩:X8)) U U h7n U U (by rfl) ?_;try simp only[h4,h6,h7,C,E,F,G,H,J]
   refine ih h ?_ (by kernel_rfl);try simp only[h4,h6,h7,C,E,F,G,H,J,pL,aM,Z]
  ·try simp only[hσ,h4,C,E,F,G,H,J]
   cases h;exact⟨⟨U,⟨⟩⟩,⟨⟨⟨_,U,U⟩,U⟩,⟨⟩⟩⟩
theorem cn:AB V 92=T ((By V 92 P1).strip,[4],30):=by kernel_rfl
theorem jo:∀(n:Q) (v1 v2:O) (v3:L X8) (r:O × L X8),E1 n v1 v2 v3=T r→r.2.length=v3.length:=by
 intro n
 induction n with
 | zero=>intro _ _ _ r h; cases h
 | succ n ih=>
  intro v1 v2 v3 r h;rw[E1] at h;obtain⟨h4,h⟩|⟨h4,h⟩:=ic h
  ·obtain⟨r5,h5,h⟩:=ob h;obtain⟨x6,h6,h⟩:=ob h;obtain⟨x7,h7,h⟩:=ob h;have hl:=ih _ _ _ _ h;try simp only[X] at hl
   omega
  ·cases h;all_goals (try dsimp only); first | done | omega | (simp only[X] at *; omega) | simp_all
theorem Pm{a0}{a1}{r}(h:I8 a0 a1=T r):r.2.length=a0.length:=by
 unfold I8 at h;have hl:=jo _ _ _ _ _ h;try simp only[X] at hl
 omega
theorem qj{a0}{a1}{r}(h:I8 a0 a1=T r):FCx V 92 [.sc (.r 0),.sc (.d (.int .i64 a1))] [(2,W X8.row a0)] [(2,W X8.row r.2)] (.int .i64 r.1):=by
 unfold I8 at h;refine Cw (ps:= [(0,0)]) (σ:=⟨[(0,vc (.own 99999999999)),(1,vc (aI a1))],[],[(99999999999,2,W X8.row a0)]⟩) A2 cn U U U (AL Bp) U ?_;refine BE P1 ?_;have k0:= @tX;exact gc
def P2:Hw:=([(6,[0,1,5],[],[99999999999])],[])
def XU:=fun(k_:O→O→(L X1)→N (O × L X1))=>∀{v1 v2 v3} {zr},k_ v1 v2 v3=T zr→Kh V 93 P2 6 [0,1,5] [] [99999999999] ⟨[pW 0 99999999999,pI 1 v1,pI 5 v2],[],[(99999999999,5,W X1.row v3)]⟩ (Ch [4] (.int .i64 zr.1) [(5,W X1.row zr.2)] [(0,0)])
theorem tZ{n:Q}:XU (E2 n):=by
 induction n with
 | zero=>intro _ _ _ r h; cases h
 | succ n ih=>
  intro v1 v2 v3 r h σ hσ S hS;refine ev hS ?_;rw[E2] at h;refine AR (AJ ?_);obtain⟨h4,h⟩|⟨h4,h⟩:=ic h
  ·obtain⟨x5,h5,h⟩:=ob h;have h5n:=Ay h5;try simp only[hσ,h4,h5,C,E,F,G,H,J]
   refine B1 (row:=X1.row) (y:=(⟨v1,x5.B,x5.Depth,x5.Minutes,x5.Meet⟩:X1)) U U h5n U U (by rfl) ?_;obtain⟨x6,h6,h⟩:=ob h;have h6n:=Ay h6;try simp only[h4,h5,h6,C,E,F,G,H,J]
   refine B1 (row:=X1.row) (y:=(⟨x6.A,(zB .i64 (v1+(1:O))),x6.Depth,x6.Minutes,x6.Meet⟩:X1)) U U h6n U U (by rfl) ?_;obtain⟨x7,h7,h⟩:=ob h;have h7n:=Ay h7;try simp only[h4,h5,h6,h7,C,E,F,G,H,J]
   refine B1 (row:=X1.row) (y:=(⟨x7.A,x7.B,(zB .i64 ((zB .i64 (v1+(1:O)))+(1:O))),x7.Minutes,x7.Meet⟩:X1)) U U h7n U U (by rfl) ?_;obtain⟨x8,h8,h⟩:=ob h;have h8n:=Ay h8;try simp only[h4,h5,h6,h7,h8,C,E,F,G,H,J]
   refine B1 (row:=X1.row) (y:=(⟨x8.A,x8.B,x8.Depth,(zB .i64 ((zB .i64 ((zB .i64 (v1+(1:O)))+(1:O)))+(1:O))),x8.Meet⟩:X1)) U U h8n U U (by rfl) ?_;obtain⟨x9,h9,h⟩:=ob h;have h9n:=Ay h9;try simp only[h4,h5,h6,h7,h8,h9,C,E,F,G,H,J]
   refine B1 (row:=X1.row) (y:=(⟨x9.A,x9.B,x9.Depth,x9.Minutes,((zB .i64 (zA (zB .i64 ((zB .i64 ((zB .i64 ((zB .i64 (v1+(1:O)))+(1:O)))+(1:O)))+(1:O))) (3:O)))==(0:O))⟩:X1)) U U h9n U U (by rfl) ?_;try simp only[h4,h5,h6,h7,h8,h9,C,E,F,G,H,J]
   refine ih h ?_ (by kernel_rfl);try simp only[h4,h5,h6,h7,h8,h9,C,E,F,G,H,J,pL,aM,Z]
  ·try simp only[hσ,h4,C,E,F,G,H,J]
   cases h;exact⟨⟨U,⟨⟩⟩,⟨⟨⟨_,U,U⟩,U⟩,⟨⟩⟩⟩
theorem co:AB V 93=T ((By V 93 P2).strip,[4],50):=by kernel_rfl
theorem jp:∀(n:Q) (v1 v2:O) (v3:L X1) (r:O × L X1),E2 n v1 v2 v3=T r→r.2.length=v3.length:=by
 intro n
 induction n with
 | zero=>intro _ _ _ r h; cases h
 | succ n ih=>
  intro v1 v2 v3 r h;rw[E2] at h;obtain⟨h4,h⟩|⟨h4,h⟩:=ic h
  ·obtain⟨x5,h5,h⟩:=ob h;obtain⟨x6,h6,h⟩:=ob h;obtain⟨x7,h7,h⟩:=ob h;obtain⟨x8,h8,h⟩:=ob h;obtain⟨x9,h9,h⟩:=ob h;have hl:=ih _ _ _ _ h;try simp only[X] at hl
   omega
  ·cases h;all_goals (try dsimp only); first | done | omega | (simp only[X] at *; omega) | simp_all
theorem Pn{a0}{a1}{r}(h:I9 a0 a1=T r):r.2.length=a0.length:=by
 unfold I9 at h;have hl:=jp _ _ _ _ _ h;try simp only[X] at hl
 omega
theorem qk{a0}{a1}{r}(h:I9 a0 a1=T r):FCx V 93 [.sc (.r 0),.sc (.d (.int .i64 a1))] [(5,W X1.row a0)] [(5,W X1.row r.2)] (.int .i64 r.1):=by
 unfold I9 at h;refine Cw (ps:= [(0,0)]) (σ:=⟨[(0,vc (.own 99999999999)),(1,vc (aI a1))],[],[(99999999999,5,W X1.row a0)]⟩) A2 co U U U (AL Bp) U ?_;refine BE P2 ?_;have k0:= @tZ;exact gc
theorem cq:AB V 46=T ((By V 46 h0).strip,[4],14):=by kernel_rfl
theorem Nu{a0}{a1}{r}(h:I2 a0 a1=T r):r.2.1.length=a0.Points.length∧r.2.2.length=a0.Segments.length:=by
 unfold I2 at h;obtain⟨r1,h1,h⟩:=ob h;have lrr1:=(Pm h1);obtain⟨r2,h2,h⟩:=ob h;have lrr2:=(Pn h2);cases h;all_goals (try dsimp only); first | done | omega | (simp only[X] at *; omega) | simp_all
theorem qb{a0}{a1}{r}(h:I2 a0 a1=T r):FCx V 46 [.ag [.r 0,.r 1],.sc (.d (.int .i64 a1))] [(2,W X8.row a0.Points),(5,W X1.row a0.Segments)] [(2,W X8.row r.2.1),(5,W X1.row r.2.2)] (.int .i64 r.1):=by
 unfold I2 at h;refine Cw (ps:= [(0,0),(0,1)]) (σ:=⟨[(0,va [.own 99999999999,.own 100000000000]),(1,vc (aI a1))],[],[(99999999999,2,W X8.row a0.Points),(100000000000,5,W X1.row a0.Segments)]⟩) A2 cq U U U (AL (AL Bp)) U ?_;refine BE h0 ?_;intro S hS;refine ev hS ?_;try simp only[C,E,F,G,H,J]
 refine Bd ?_;obtain⟨r1,hr1,h⟩:=ob h;try simp only[C,E,F,G,H,J]
 have lrr1:=(Pm hr1);refine CN (ids:= [99999999999]) (qj hr1) U U U (AL Bp) (BO (Pm hr1) CY) ?_;obtain⟨r2,hr2,h⟩:=ob h;try simp only[C,E,F,G,H,J]
 have lrr2:=(Pn hr2);refine CN (ids:= [100000000000]) (qk hr2) U U U (AL Bp) (BO (Pn hr2) CY) ?_;try simp only[C,E,F,G,H,J]
 cases h;exact⟨⟨U,⟨⟩⟩,⟨⟨⟨_,U,U⟩,U⟩,⟨⟨⟨_,U,U⟩,U⟩,⟨⟩⟩⟩⟩
def P3:Hw:=([(6,[0,1,5],[],[99999999999])],[])
def XW:=fun(k_:O→O→(L X6)→N (O × L X6))=>∀{v1 v2 v3} {zr},k_ v1 v2 v3=T zr→Kh V 47 P3 6 [0,1,5] [] [99999999999] ⟨[pW 0 99999999999,pI 1 v1,pI 5 v2],[],[(99999999999,6,W X6.row v3)]⟩ (Ch [4] (.int .i64 zr.1) [(6,W X6.row zr.2)] [(0,0)])
theorem ta{n:Q}:XW (E3 n):=by
 induction n with
 | zero=>intro _ _ _ r h; cases h
 | succ n ih=>
  intro v1 v2 v3 r h σ hσ S hS;refine ev hS ?_;rw[E3] at h;refine AR (AJ ?_);obtain⟨h4,h⟩|⟨h4,h⟩:=ic h
  ·obtain⟨r5,h5,h⟩:=ob h;try simp only[hσ,h4,C,E,F,G,H,J]
   refine B4 (Ag VK h5) ?_;obtain⟨x6,h6,h⟩:=ob h;have h6n:=Ay h6;try simp only[h4,h6,C,E,F,G,H,J]
   refine B1 (row:=X6.row) (y:=(⟨r5,x6.Length,x6.Draught,x6.Line,x6.Tugs,x6.Slow⟩:X6)) U U h6n U U (by rfl) ?_;obtain⟨x7,h7,h⟩:=ob h;have h7n:=Ay h7;try simp only[h4,h6,h7,C,E,F,G,H,J]
   refine B1 (row:=X6.row) (y:=(⟨x7.Name,(zB .i64 (v1+(1:O))),x7.Draught,x7.Line,x7.Tugs,x7.Slow⟩:X6)) U U h7n U U (by rfl) ?_;obtain⟨x8,h8,h⟩:=ob h;have h8n:=Ay h8;try simp only[h4,h6,h7,h8,C,E,F,G,H,J]
   refine B1 (row:=X6.row) (y:=(⟨x8.Name,x8.Length,(zB .i64 ((zB .i64 (v1+(1:O)))+(1:O))),x8.Line,x8.Tugs,x8.Slow⟩:X6)) U U h8n U U (by rfl) ?_;obtain⟨x9,h9,h⟩:=ob h;have h9n:=Ay h9;try simp only[h4,h6,h7,h8,h9,C,E,F,G,H,J]
   refine B1 (row:=X6.row) (y:=(⟨x9.Name,x9.Length,x9.Draught,(zB .i64 ((zB .i64 ((zB .i64 (v1+(1:O)))+(1:O)))+(1:O))),x9.Tugs,x9.Slow⟩:X6)) U U h9n U U (by rfl) ?_;obtain⟨x10,h10,h⟩:=ob h;have h10n:=Ay h10;try simp only[h4,h6,h7,h8,h9,h10,C,E,F,G,H,J]
   refine B1 (row:=X6.row) (y:=(⟨x10.Name,x10.Length,x10.Draught,x10.Line,(zB .i64 ((zB .i64 ((zB .i64 ((zB .i64 (v1+(1:O)))+(1:O)))+(1:O)))+(1:O))),x10.Slow⟩:X6)) U U h10n U U (by rfl) ?_;obtain⟨x11,h11,h⟩:=ob h;have h11n:=Ay h11;try simp only[h4,h6,h7,h8,h9,h10,h11,C,E,F,G,H,J]
   refine B1 (row:=X6.row) (y:=(⟨x11.Name,x11.Length,x11.Draught,x11.Line,x11.Tugs,((zB .i64 (zA (zB .i64 ((zB .i64 ((zB .i64 ((zB .i64 ((zB .i64 (v1+(1:O)))+(1:O)))+(1:O)))+(1:O)))+(1:O))) (3:O)))==(0:O))⟩:X6)) U U h11n U U (by rfl) ?_;try simp only[h4,h6,h7,h8,h9,h10,h11,C,E,F,G,H,J]
   refine ih h ?_ (by kernel_rfl);try simp only[h4,h6,h7,h8,h9,h10,h11,C,E,F,G,H,J,pL,aM,Z]
  ·try simp only[hσ,h4,C,E,F,G,H,J]
   cases h;exact⟨⟨U,⟨⟩⟩,⟨⟨⟨_,U,U⟩,U⟩,⟨⟩⟩⟩
theorem cr:AB V 47=T ((By V 47 P3).strip,[4],58):=by kernel_rfl
theorem jq:∀(n:Q) (v1 v2:O) (v3:L X6) (r:O × L X6),E3 n v1 v2 v3=T r→r.2.length=v3.length:=by
 intro n
 induction n with
 | zero=>intro _ _ _ r h; cases h
 | succ n ih=>
  intro v1 v2 v3 r h;rw[E3] at h;obtain⟨h4,h⟩|⟨h4,h⟩:=ic h
  ·obtain⟨r5,h5,h⟩:=ob h;obtain⟨x6,h6,h⟩:=ob h;obtain⟨x7,h7,h⟩:=ob h;obtain⟨x8,h8,h⟩:=ob h;obtain⟨x9,h9,h⟩:=ob h;obtain⟨x10,h10,h⟩:=ob h;obtain⟨x11,h11,h⟩:=ob h;have hl:=ih _ _ _ _ h;try simp only[X] at hl
   omega
  ·cases h;all_goals (try dsimp only); first | done | omega | (simp only[X] at *; omega) | simp_all
theorem Po{a0}{a1}{r}(h:Ia a0 a1=T r):r.2.length=a0.length:=by
 unfold Ia at h;have hl:=jq _ _ _ _ _ h;try simp only[X] at hl
 omega
theorem ql{a0}{a1}{r}(h:Ia a0 a1=T r):FCx V 47 [.sc (.r 0),.sc (.d (.int .i64 a1))] [(6,W X6.row a0)] [(6,W X6.row r.2)] (.int .i64 r.1):=by
 unfold Ia at h;refine Cw (ps:= [(0,0)]) (σ:=⟨[(0,vc (.own 99999999999)),(1,vc (aI a1))],[],[(99999999999,6,W X6.row a0)]⟩) A2 cr U U U (AL Bp) U ?_;refine BE P3 ?_;have k0:= @ta;exact gc
def P4:Hw:=([(6,[0,1,5],[],[99999999999])],[])
def XP:=fun(k_:O→O→(L O)→N (O × L O))=>∀{v1 v2 v3} {zr},k_ v1 v2 v3=T zr→Kh V 95 P4 6 [0,1,5] [] [99999999999] ⟨[pW 0 99999999999,pI 1 v1,pI 5 v2],[],[(99999999999,1,W rI v3)]⟩ (Ch [4] (.int .i64 zr.1) [(1,W rI zr.2)] [(0,0)])
theorem tb{n:Q}:XP (DX n):=by
 induction n with
 | zero=>intro _ _ _ r h; cases h
 | succ n ih=>
  intro v1 v2 v3 r h σ hσ S hS;refine ev hS ?_;rw[DX] at h;refine AR (AJ ?_);obtain⟨h4,h⟩|⟨h4,h⟩:=ic h
  ·obtain⟨x5,h5,h⟩:=ob h;have h5n:=Ay h5;try simp only[hσ,h4,h5,C,E,F,G,H,J]
   refine B1 (row:=rI) (y:=v1) U U h5n U U (by rfl) ?_;try simp only[h4,h5,C,E,F,G,H,J]
   refine ih h ?_ (by kernel_rfl);try simp only[h4,h5,C,E,F,G,H,J,pL,aM,Z]
  ·try simp only[hσ,h4,C,E,F,G,H,J]
   cases h;exact⟨⟨U,⟨⟩⟩,⟨⟨⟨_,U,U⟩,U⟩,⟨⟩⟩⟩
theorem ct:AB V 95=T ((By V 95 P4).strip,[4],19):=by kernel_rfl
theorem jk:∀(n:Q) (v1 v2:O) (v3:L O) (r:O × L O),DX n v1 v2 v3=T r→r.2.length=v3.length:=by
 intro n
 induction n with
 | zero=>intro _ _ _ r h; cases h
 | succ n ih=>
  intro v1 v2 v3 r h;rw[DX] at h;obtain⟨h4,h⟩|⟨h4,h⟩:=ic h
  ·obtain⟨x5,h5,h⟩:=ob h;have hl:=ih _ _ _ _ h;try simp only[X] at hl
   omega
  ·cases h;all_goals (try dsimp only); first | done | omega | (simp only[X] at *; omega) | simp_all
theorem Pj{a0}{a1}{r}(h:I6 a0 a1=T r):r.2.length=a0.length:=by
 unfold I6 at h;have hl:=jk _ _ _ _ _ h;try simp only[X] at hl
 omega
theorem qg{a0}{a1}{r}(h:I6 a0 a1=T r):FCx V 95 [.sc (.r 0),.sc (.d (.int .i64 a1))] [(1,W rI a0)] [(1,W rI r.2)] (.int .i64 r.1):=by
 unfold I6 at h;refine Cw (ps:= [(0,0)]) (σ:=⟨[(0,vc (.own 99999999999)),(1,vc (aI a1))],[],[(99999999999,1,W rI a0)]⟩) A2 ct U U U (AL Bp) U ?_;refine BE P4 ?_;have k0:= @tb;exact gc
theorem cu:AB V 48=T ((By V 48 h0).strip,[4],10):=by kernel_rfl
theorem Pi{a0}{a1}{r}(h:I4 a0 a1=T r):r.2.length=a0.Moves.length:=by
 unfold I4 at h;obtain⟨r1,h1,h⟩:=ob h;have lrr1:=(Pj h1);cases h;all_goals (try dsimp only); first | done | omega | (simp only[X] at *; omega) | simp_all
theorem qd{a0}{a1}{r}(h:I4 a0 a1=T r):FCx V 48 [.ag [.d (.int .i64 a0.Tugs),.d (.int .i64 a0.Pilots),.d (.int .i64 a0.Rest),.r 0],.sc (.d (.int .i64 a1))] [(1,W rI a0.Moves)] [(1,W rI r.2)] (.int .i64 r.1):=by
 unfold I4 at h;refine Cw (ps:= [(0,3)]) (σ:=⟨[(0,va [aI a0.Tugs,aI a0.Pilots,aI a0.Rest,.own 99999999999]),(1,vc (aI a1))],[],[(99999999999,1,W rI a0.Moves)]⟩) A2 cu U U U (AL Bp) U ?_;refine BE h0 ?_;intro S hS;refine ev hS ?_;try simp only[C,E,F,G,H,J]
 refine Bd ?_;obtain⟨r1,hr1,h⟩:=ob h;try simp only[C,E,F,G,H,J]
 have lrr1:=(Pj hr1);refine CN (ids:= [99999999999]) (qg hr1) U U U (AL Bp) (BO (Pj hr1) CY) ?_;try simp only[C,E,F,G,H,J]
 cases h;exact⟨⟨U,⟨⟩⟩,⟨⟨⟨_,U,U⟩,U⟩,⟨⟩⟩⟩
theorem cv:AB V 14=T ((By V 14 h0).strip,[4],22):=by kernel_rfl
theorem ID{a0}{a1}{r}(h:Gu a0 a1=T r):r.2.1.length=a0.Forecast.Tide.Parts.length∧r.2.2.1.length=a0.Forecast.Surges.length∧r.2.2.2.1.length=a0.Chart.Points.length∧r.2.2.2.2.1.length=a0.Chart.Segments.length∧r.2.2.2.2.2.1.length=a0.Fleet.length∧r.2.2.2.2.2.2.length=a0.Crew.Moves.length:=by
 unfold Gu at h;obtain⟨r1,h1,h⟩:=ob h;have lrr1:=(Nv h1);obtain⟨r2,h2,h⟩:=ob h;have lrr2:=(Nu h2);obtain⟨r3,h3,h⟩:=ob h;have lrr3:=(Po h3);obtain⟨r4,h4,h⟩:=ob h;have lrr4:=(Pi h4);cases h;all_goals (try dsimp only); first | done | omega | (simp only[X] at *; omega) | simp_all
theorem qf{a0}{a1}{r}(h:Gu a0 a1=T r):FCx V 14 [.ag [.d (.int .i64 a0.Forecast.Tide.Mean),.r 0,.r 1,.r 2,.r 3,.r 4,.d (.int .i64 a0.Regime.Gap),.d (.bool a0.Regime.NoMeet),.d (.int .i64 a0.Crew.Tugs),.d (.int .i64 a0.Crew.Pilots),.d (.int .i64 a0.Crew.Rest),.r 5],.sc (.d (.int .i64 a1))] [(3,W Y a0.Forecast.Tide.Parts),(3,W I a0.Forecast.Surges),(2,W X8.row a0.Chart.Points),(5,W X1.row a0.Chart.Segments),(6,W X6.row a0.Fleet),(1,W rI a0.Crew.Moves)] [(3,W Y r.2.1),(3,W I r.2.2.1),(2,W X8.row r.2.2.2.1),(5,W X1.row r.2.2.2.2.1),(6,W X6.row r.2.2.2.2.2.1),(1,W rI r.2.2.2.2.2.2)] (.int .i64 r.1):=by
 unfold Gu at h;refine Cw (ps:= [(0,1),(0,2),(0,3),(0,4),(0,5),(0,11)]) (σ:=⟨[(0,va [aI a0.Forecast.Tide.Mean,.own 99999999999,.own 100000000000,.own 100000000001,.own 100000000002,.own 100000000003,aI a0.Regime.Gap,aB a0.Regime.NoMeet,aI a0.Crew.Tugs,aI a0.Crew.Pilots,aI a0.Crew.Rest,.own 100000000004]),(1,vc (aI a1))],[],[(99999999999,3,W Y a0.Forecast.Tide.Parts),(100000000000,3,W I a0.Forecast.Surges),(100000000001,2,W X8.row a0.Chart.Points),(100000000002,5,W X1.row a0.Chart.Segments),(100000000003,6,W X6.row a0.Fleet),(100000000004,1,W rI a0.Crew.Moves)]⟩) A2 cv U U U (AL (AL (AL (AL (AL (AL Bp)))))) U ?_;refine BE h0 ?_;intro S hS;refine ev hS ?_;try simp only[C,E,F,G,H,J]
 refine Bd ?_;obtain⟨r1,hr1,h⟩:=ob h;try simp only[C,E,F,G,H,J]
 have lrr1:=(Nv hr1);refine CN (ids:= [99999999999,100000000000]) (qe hr1) U U U (AL (AL Bp)) (BO (Nv hr1).1 (BO (Nv hr1).2 CY)) ?_;obtain⟨r2,hr2,h⟩:=ob h;try simp only[C,E,F,G,H,J]
 have lrr2:=(Nu hr2);refine CN (ids:= [100000000001,100000000002]) (qb hr2) U U U (AL (AL Bp)) (BO (Nu hr2).1 (BO (Nu hr2).2 CY)) ?_;obtain⟨r3,hr3,h⟩:=ob h;try simp only[C,E,F,G,H,J]
 have lrr3:=(Po hr3);refine CN (ids:= [100000000003]) (ql hr3) U U U (AL Bp) (BO (Po hr3) CY) ?_;obtain⟨r4,hr4,h⟩:=ob h;try simp only[C,E,F,G,H,J]
 have lrr4:=(Pi hr4);refine CN (ids:= [100000000004]) (qd hr4) U U U (AL Bp) (BO (Pi hr4) CY) ?_;try simp only[C,E,F,G,H,J]
 cases h;exact⟨⟨U,⟨⟩⟩,⟨⟨⟨_,U,U⟩,U⟩,⟨⟨⟨_,U,U⟩,U⟩,⟨⟨⟨_,U,U⟩,U⟩,⟨⟨⟨_,U,U⟩,U⟩,⟨⟨⟨_,U,U⟩,U⟩,⟨⟨⟨_,U,U⟩,U⟩,⟨⟩⟩⟩⟩⟩⟩⟩⟩
def P5:Hw:=([(6,[0,1,5],[],[99999999999])],[])
def XO:=fun(k_:O→O→(L X7)→N (O × L X7))=>∀{v1 v2 v3} {zr},k_ v1 v2 v3=T zr→Kh V 15 P5 6 [0,1,5] [] [99999999999] ⟨[pW 0 99999999999,pI 1 v1,pI 5 v2],[],[(99999999999,3,W X7.row v3)]⟩ (Ch [4] (.int .i64 zr.1) [(3,W X7.row zr.2)] [(0,0)])
theorem tc{n:Q}:XO (DW n):=by
 induction n with
 | zero=>intro _ _ _ r h; cases h
 | succ n ih=>
  intro v1 v2 v3 r h σ hσ S hS;refine ev hS ?_;rw[DW] at h;refine AR (AJ ?_);obtain⟨h4,h⟩|⟨h4,h⟩:=ic h
  ·obtain⟨x5,h5,h⟩:=ob h;have h5n:=Ay h5;try simp only[hσ,h4,h5,C,E,F,G,H,J]
   refine B1 (row:=X7.row) (y:=(⟨v1,x5.From,x5.To⟩:X7)) U U h5n U U (by rfl) ?_;obtain⟨x6,h6,h⟩:=ob h;have h6n:=Ay h6;try simp only[h4,h5,h6,C,E,F,G,H,J]
   refine B1 (row:=X7.row) (y:=(⟨x6.Segment,(zB .i64 (v1+(1:O))),x6.To⟩:X7)) U U h6n U U (by rfl) ?_;obtain⟨x7,h7,h⟩:=ob h;have h7n:=Ay h7;try simp only[h4,h5,h6,h7,C,E,F,G,H,J]
   refine B1 (row:=X7.row) (y:=(⟨x7.Segment,x7.From,(zB .i64 ((zB .i64 (v1+(1:O)))+(1:O)))⟩:X7)) U U h7n U U (by rfl) ?_;try simp only[h4,h5,h6,h7,C,E,F,G,H,J]
   refine ih h ?_ (by kernel_rfl);try simp only[h4,h5,h6,h7,C,E,F,G,H,J,pL,aM,Z]
  ·try simp only[hσ,h4,C,E,F,G,H,J]
   cases h;exact⟨⟨U,⟨⟩⟩,⟨⟨⟨_,U,U⟩,U⟩,⟨⟩⟩⟩
theorem cw:AB V 15=T ((By V 15 P5).strip,[4],34):=by kernel_rfl
theorem jj:∀(n:Q) (v1 v2:O) (v3:L X7) (r:O × L X7),DW n v1 v2 v3=T r→r.2.length=v3.length:=by
 intro n
 induction n with
 | zero=>intro _ _ _ r h; cases h
 | succ n ih=>
  intro v1 v2 v3 r h;rw[DW] at h;obtain⟨h4,h⟩|⟨h4,h⟩:=ic h
  ·obtain⟨x5,h5,h⟩:=ob h;obtain⟨x6,h6,h⟩:=ob h;obtain⟨x7,h7,h⟩:=ob h;have hl:=ih _ _ _ _ h;try simp only[X] at hl
   omega
  ·cases h;all_goals (try dsimp only); first | done | omega | (simp only[X] at *; omega) | simp_all
theorem ji(a0:L X7)(a1:O)(r:O × L X7)(h:I3 a0 a1=T r):r.2.length=a0.length:=by
 unfold I3 at h;have hl:=jj _ _ _ _ _ h;try simp only[X] at hl
 omega
theorem qc(a0:L X7)(a1:O)(r:O × L X7)(h:I3 a0 a1=T r):FCx V 15 [.sc (.r 0),.sc (.d (.int .i64 a1))] [(3,W X7.row a0)] [(3,W X7.row r.2)] (.int .i64 r.1):=by
 unfold I3 at h;refine Cw (ps:= [(0,0)]) (σ:=⟨[(0,vc (.own 99999999999)),(1,vc (aI a1))],[],[(99999999999,3,W X7.row a0)]⟩) A2 cw U U U (AL Bp) U ?_;refine BE P5 ?_;have k0:= @tc;exact gc
def P6:Hw:=([(6,[0,1,5],[],[99999999999])],[])
def XR:=fun(k_:O→O→(L X3)→N (O × L X3))=>∀{v1 v2 v3} {zr},k_ v1 v2 v3=T zr→Kh V 49 P6 6 [0,1,5] [] [99999999999] ⟨[pW 0 99999999999,pI 1 v1,pI 5 v2],[],[(99999999999,5,W X3.row v3)]⟩ (Ch [4] (.int .i64 zr.1) [(5,W X3.row zr.2)] [(0,0)])
theorem td{n:Q}:XR (E0 n):=by
 induction n with
 | zero=>intro _ _ _ r h; cases h
 | succ n ih=>
  intro v1 v2 v3 r h σ hσ S hS;refine ev hS ?_;rw[E0] at h;refine AR (AJ ?_);obtain⟨h4,h⟩|⟨h4,h⟩:=ic h
  ·obtain⟨x5,h5,h⟩:=ob h;have h5n:=Ay h5;try simp only[hσ,h4,h5,C,E,F,G,H,J]
   refine B1 (row:=X3.row) (y:=(⟨v1,x5.Segment,x5.Toward,x5.Start,x5.End⟩:X3)) U U h5n U U (by rfl) ?_;obtain⟨x6,h6,h⟩:=ob h;have h6n:=Ay h6;try simp only[h4,h5,h6,C,E,F,G,H,J]
   refine B1 (row:=X3.row) (y:=(⟨x6.Ship,(zB .i64 (v1+(1:O))),x6.Toward,x6.Start,x6.End⟩:X3)) U U h6n U U (by rfl) ?_;obtain⟨x7,h7,h⟩:=ob h;have h7n:=Ay h7;try simp only[h4,h5,h6,h7,C,E,F,G,H,J]
   refine B1 (row:=X3.row) (y:=(⟨x7.Ship,x7.Segment,((zB .i64 (zA (zB .i64 ((zB .i64 (v1+(1:O)))+(1:O))) (3:O)))==(0:O)),x7.Start,x7.End⟩:X3)) U U h7n U U (by rfl) ?_;obtain⟨x8,h8,h⟩:=ob h;have h8n:=Ay h8;try simp only[h4,h5,h6,h7,h8,C,E,F,G,H,J]
   refine B1 (row:=X3.row) (y:=(⟨x8.Ship,x8.Segment,x8.Toward,(zB .i64 ((zB .i64 ((zB .i64 (v1+(1:O)))+(1:O)))+(1:O))),x8.End⟩:X3)) U U h8n U U (by rfl) ?_;obtain⟨x9,h9,h⟩:=ob h;have h9n:=Ay h9;try simp only[h4,h5,h6,h7,h8,h9,C,E,F,G,H,J]
   refine B1 (row:=X3.row) (y:=(⟨x9.Ship,x9.Segment,x9.Toward,x9.Start,(zB .i64 ((zB .i64 ((zB .i64 ((zB .i64 (v1+(1:O)))+(1:O)))+(1:O)))+(1:O)))⟩:X3)) U U h9n U U (by rfl) ?_;try simp only[h4,h5,h6,h7,h8,h9,C,E,F,G,H,J]
   refine ih h ?_ (by kernel_rfl);try simp only[h4,h5,h6,h7,h8,h9,C,E,F,G,H,J,pL,aM,Z]
  ·try simp only[hσ,h4,C,E,F,G,H,J]
   cases h;exact⟨⟨U,⟨⟩⟩,⟨⟨⟨_,U,U⟩,U⟩,⟨⟩⟩⟩
theorem cy:AB V 49=T ((By V 49 P6).strip,[4],50):=by kernel_rfl
theorem jm:∀(n:Q) (v1 v2:O) (v3:L X3) (r:O × L X3),E0 n v1 v2 v3=T r→r.2.length=v3.length:=by
 intro n
 induction n with
 | zero=>intro _ _ _ r h; cases h
 | succ n ih=>
  intro v1 v2 v3 r h;rw[E0] at h;obtain⟨h4,h⟩|⟨h4,h⟩:=ic h
  ·obtain⟨x5,h5,h⟩:=ob h;obtain⟨x6,h6,h⟩:=ob h;obtain⟨x7,h7,h⟩:=ob h;obtain⟨x8,h8,h⟩:=ob h;obtain⟨x9,h9,h⟩:=ob h;have hl:=ih _ _ _ _ h;try simp only[X] at hl
   omega
  ·cases h;all_goals (try dsimp only); first | done | omega | (simp only[X] at *; omega) | simp_all
theorem Pl(a0:L X3)(a1:O)(r:O × L X3)(h:EY a0 a1=T r):r.2.length=a0.length:=by
 unfold EY at h;have hl:=jm _ _ _ _ _ h;try simp only[X] at hl
 omega
theorem qi(a0:L X3)(a1:O)(r:O × L X3)(h:EY a0 a1=T r):FCx V 49 [.sc (.r 0),.sc (.d (.int .i64 a1))] [(5,W X3.row a0)] [(5,W X3.row r.2)] (.int .i64 r.1):=by
 unfold EY at h;refine Cw (ps:= [(0,0)]) (σ:=⟨[(0,vc (.own 99999999999)),(1,vc (aI a1))],[],[(99999999999,5,W X3.row a0)]⟩) A2 cy U U U (AL Bp) U ?_;refine BE P6 ?_;have k0:= @td;exact gc
def SS:Hw:=([(6,[0,1,5],[],[])],[])
def XN:=fun a0 (k_:O→O→N O)=>∀{v1 v2} {zr},k_ v1 v2=T zr→Kh V 50 SS 6 [0,1,5] [] [] ⟨[pL 0 X3.row a0,pI 1 v1,pI 5 v2],[],[]⟩ (Ac [4] [.sc (.v (.int .i64 zr))])
theorem te{a0}{n:Q}:XN a0 (Gt a0 n):=by
 induction n with
 | zero=>intro _ _ r h; cases h
 | succ n ih=>
  intro v1 v2 r h σ hσ;rw[Gt] at h;exact gc
instance wk:Ct 50 (∀{a0} {a1} {r},Ka a0 a1=T r→FC V 50 [.sc (.sl (W X3.row a0)),.sc (.int .i64 a1)] [.sc (.v (.int .i64 r))]):=by
 refine⟨fun h=> ?_⟩;unfold Ka at h;refine A5 A2 SS [4] 60 ?_;have k0:= @te;exact gc
def SU:Hw:=([(6,[0,1,5],[],[])],[])
def XM:=fun a0 (k_:O→O→N O)=>∀{v1 v2} {zr},k_ v1 v2=T zr→Kh V 17 SU 6 [0,1,5] [] [] ⟨[pL 0 X5.row a0,pI 1 v1,pI 5 v2],[],[]⟩ (Ac [4] [.sc (.v (.int .i64 zr))])
theorem th{a0}{n:Q}:XM a0 (Gs a0 n):=by
 induction n with
 | zero=>intro _ _ r h; cases h
 | succ n ih=>
  intro v1 v2 r h σ hσ;rw[Gs] at h;exact gc
theorem VJ(a0:L X5)(a1 r:O)(h:I1 a0 a1=T r):FC V 17 [.sc (.sl (W X5.row a0)),.sc (.int .i64 a1)] [.sc (.v (.int .i64 r))]:=by
 unfold I1 at h;refine A5 A2 SU [4] 49 ?_;have k0:= @th;exact gc
end Go.Vi
