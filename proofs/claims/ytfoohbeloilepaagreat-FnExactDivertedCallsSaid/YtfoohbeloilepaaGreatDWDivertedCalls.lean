/-
Walks. No condition.
-/
import Derived.Test.YtfoohbeloilepaaGreatDNf
import Derived.Test.YtfoohbeloilepaaGreatChecked
import Derived.Test.YtfoohbeloilepaaGreatDVi41
import Derived.KernelRfl
import Derived.Test.YtfoohbeloilepaaGreatDWDivertedCallsd
namespace Go.Vi
open Go.Proofs
set_option linter.all false
set_option maxRecDepth 4000
set_option maxHeartbeats 2000000
open Nat renaming reduceBEq → A, reduceMul → B, reduceAdd → C, reduceDiv → E, le_of_ble_eq_true → uf
open Int renaming reduceBEq → F
attribute [local irreducible] go Bb Hj
open List renaming map → L, length_set → O
open Tryz renaming prog → N
open Xb renaming row → P
open IntKind renaming wrap → Q
open Option renaming some → T
open _root_ renaming Int → G, rfl → H
theorem pG:B1 N 19=T ((C3 N 19 h0).strip,[4],22):=by kernel_rfl
theorem JC{a0}{a1}{r}(h:ID a0 a1=T r):r.2.1.length=a0.Forecast.Tide.Parts.length∧r.2.2.1.length=a0.Forecast.Surges.length∧r.2.2.2.1.length=a0.Chart.Points.length∧r.2.2.2.2.1.length=a0.Chart.Segments.length∧r.2.2.2.2.2.1.length=a0.Fleet.length∧r.2.2.2.2.2.2.length=a0.Crew.Moves.length:=by
 unfold ID at h;obtain⟨r1,h1,h⟩:=ob h;have lrr1:=(S8 h1);obtain⟨r2,h2,h⟩:=ob h;have lrr2:=(S7 h2);obtain⟨r3,h3,h⟩:=ob h;have lrr3:=(Ul h3);obtain⟨r4,h4,h⟩:=ob h;have lrr4:=(Uh h4);cases h;all_goals (try dsimp only); first | done | omega | (simp only[O] at *; omega) | simp_all
theorem A42{a0}{a1}{r}(h:ID a0 a1=T r):Co N 19 [.ag [.d (.int .i64 a0.Forecast.Tide.Mean),.r 0,.r 1,.r 2,.r 3,.r 4,.d (.int .i64 a0.Regime.Gap),.d (.bool a0.Regime.NoMeet),.d (.int .i64 a0.Crew.Tugs),.d (.int .i64 a0.Crew.Pilots),.d (.int .i64 a0.Crew.Rest),.r 5],.sc (.d (.int .i64 a1))] [(3,L Xd.row a0.Forecast.Tide.Parts),(3,L Xa.row a0.Forecast.Surges),(2,L X7.row a0.Chart.Points),(5,L X2.row a0.Chart.Segments),(6,L X4.row a0.Fleet),(1,L rI a0.Crew.Moves)] [(3,L Xd.row r.2.1),(3,L Xa.row r.2.2.1),(2,L X7.row r.2.2.2.1),(5,L X2.row r.2.2.2.2.1),(6,L X4.row r.2.2.2.2.2.1),(1,L rI r.2.2.2.2.2.2)] (.int .i64 r.1):=by
 unfold ID at h;refine Di (ps:= [(0,1),(0,2),(0,3),(0,4),(0,5),(0,11)]) (σ:=⟨[(0,va [aI a0.Forecast.Tide.Mean,.own 99999999999,.own 100000000000,.own 100000000001,.own 100000000002,.own 100000000003,aI a0.Regime.Gap,aB a0.Regime.NoMeet,aI a0.Crew.Tugs,aI a0.Crew.Pilots,aI a0.Crew.Rest,.own 100000000004]),(1,vc (aI a1))],[],[(99999999999,3,L Xd.row a0.Forecast.Tide.Parts),(100000000000,3,L Xa.row a0.Forecast.Surges),(100000000001,2,L X7.row a0.Chart.Points),(100000000002,5,L X2.row a0.Chart.Segments),(100000000003,6,L X4.row a0.Fleet),(100000000004,1,L rI a0.Crew.Moves)]⟩) A4 pG H H H (AQ (AQ (AQ (AQ (AQ (AQ Bu)))))) H ?_;refine Cb h0 ?_;intro S hS;refine ev hS ?_;try simp only[A,B,C,E,F,J]
 refine Bg ?_;obtain⟨r1,h1,h⟩:=ob h;try simp only[A,B,C,E,F,J]
 have lrr1:=(S8 h1);refine D8 (ids:= [99999999999,100000000000]) (A41 h1) H H H (AQ (AQ Bu)) (C9 (S8 h1).1 (C9 (S8 h1).2 Dc)) ?_;obtain⟨r2,h2,h⟩:=ob h;try simp only[A,B,C,E,F,J]
 have lrr2:=(S7 h2);refine D8 (ids:= [100000000001,100000000002]) (A4y h2) H H H (AQ (AQ Bu)) (C9 (S7 h2).1 (C9 (S7 h2).2 Dc)) ?_;obtain⟨r3,h3,h⟩:=ob h;try simp only[A,B,C,E,F,J]
 have lrr3:=(Ul h3);refine D8 (ids:= [100000000003]) (A46 h3) H H H (AQ Bu) (C9 (Ul h3) Dc) ?_;obtain⟨r4,h4,h⟩:=ob h;try simp only[A,B,C,E,F,J]
 have lrr4:=(Uh h4);refine D8 (ids:= [100000000004]) (A40 h4) H H H (AQ Bu) (C9 (Uh h4) Dc) ?_;try simp only[A,B,C,E,F,J]
 cases h;exact⟨⟨H,⟨⟩⟩,⟨⟨⟨_,H,H⟩,H⟩,⟨⟨⟨_,H,H⟩,H⟩,⟨⟨⟨_,H,H⟩,H⟩,⟨⟨⟨_,H,H⟩,H⟩,⟨⟨⟨_,H,H⟩,H⟩,⟨⟨⟨_,H,H⟩,H⟩,⟨⟩⟩⟩⟩⟩⟩⟩⟩
def U4:Hw:=([(6,[0,1,5],[],[99999999999])],[])
def gJ:=fun(k_:G→G→(List Xb)→Option (G × List Xb))=>∀{v1 v2 v3} {zr},k_ v1 v2 v3=T zr→Kh N 20 U4 6 [0,1,5] [] [99999999999] ⟨[pW 0 99999999999,pI 1 v1,pI 5 v2],[],[(99999999999,5,L P v3)]⟩ (E1 [4] (.int .i64 zr.1) [(5,L P zr.2)] [(0,0)])
theorem B2f{n:Nat}:gJ (Fv n):=by
 induction n with
 | zero=>intro _ _ _ r h; cases h
 | succ n ih=>
  intro v1 v2 v3 r h σ hσ S hS;refine ev hS ?_;rw[Fv] at h;refine AE (Ax ?_);obtain⟨h4,h⟩|⟨h4,h⟩:=ic h
  ·obtain⟨x5,h5,h⟩:=ob h;have h5n:=Au h5;try simp only[hσ,h4,h5,A,B,C,E,F,J]
   refine AS (row:=P) (y:=(⟨v1,x5.From,x5.To,x5.Ready,x5.Due⟩:Xb)) H H h5n H H (by rfl) ?_;obtain⟨x6,h6,h⟩:=ob h;have h6n:=Au h6;try simp only[h4,h5,h6,A,B,C,E,F,J]
   refine AS (row:=P) (y:=(⟨x6.Ship,(Q .i64 (v1+(1:G))),x6.To,x6.Ready,x6.Due⟩:Xb)) H H h6n H H (by rfl) ?_;obtain⟨x7,h7,h⟩:=ob h;have h7n:=Au h7;try simp only[h4,h5,h6,h7,A,B,C,E,F,J]
   refine AS (row:=P) (y:=(⟨x7.Ship,x7.From,(Q .i64 ((Q .i64 (v1+(1:G)))+(1:G))),x7.Ready,x7.Due⟩:Xb)) H H h7n H H (by rfl) ?_;obtain⟨x8,h8,h⟩:=ob h;have h8n:=Au h8;try simp only[h4,h5,h6,h7,h8,A,B,C,E,F,J]
   refine AS (row:=P) (y:=(⟨x8.Ship,x8.From,x8.To,(Q .i64 ((Q .i64 ((Q .i64 (v1+(1:G)))+(1:G)))+(1:G))),x8.Due⟩:Xb)) H H h8n H H (by rfl) ?_;obtain⟨x9,h9,h⟩:=ob h;have h9n:=Au h9;try simp only[h4,h5,h6,h7,h8,h9,A,B,C,E,F,J]
   refine AS (row:=P) (y:=(⟨x9.Ship,x9.From,x9.To,x9.Ready,(Q .i64 ((Q .i64 ((Q .i64 ((Q .i64 (v1+(1:G)))+(1:G)))+(1:G)))+(1:G)))⟩:Xb)) H H h9n H H (by rfl) ?_;try simp only[h4,h5,h6,h7,h8,h9,A,B,C,E,F,J]
   refine ih h ?_ (by kernel_rfl);try simp only[h4,h5,h6,h7,h8,h9,A,B,C,E,F,J,pL,aM,List.map_nil]
  ·try simp only[hσ,h4,A,B,C,E,F,J]
   cases h;exact⟨⟨H,⟨⟩⟩,⟨⟨⟨_,H,H⟩,H⟩,⟨⟩⟩⟩
theorem pH:B1 N 20=T ((C3 N 20 U4).strip,[4],48):=by kernel_rfl
theorem vZ:∀(n:Nat) (v1 v2:G) (v3:List Xb) (r:G × List Xb),Fv n v1 v2 v3=T r→r.2.length=v3.length:=by
 intro n
 induction n with
 | zero=>intro _ _ _ r h; cases h
 | succ n ih=>
  intro v1 v2 v3 r h;rw[Fv] at h;obtain⟨h4,h⟩|⟨h4,h⟩:=ic h
  ·obtain⟨x5,h5,h⟩:=ob h;obtain⟨x6,h6,h⟩:=ob h;obtain⟨x7,h7,h⟩:=ob h;obtain⟨x8,h8,h⟩:=ob h;obtain⟨x9,h9,h⟩:=ob h;have hl:=ih _ _ _ _ h;try simp only[O] at hl
   omega
  ·cases h;all_goals (try dsimp only); first | done | omega | (simp only[O] at *; omega) | simp_all
theorem ZP{a0}{a1}{r}(h:KM a0 a1=T r):r.2.length=a0.length:=by
 unfold KM at h;have hl:=vZ _ _ _ _ _ h;try simp only[O] at hl
 omega
theorem A4x{a0}{a1}{r}(h:KM a0 a1=T r):Co N 20 [.sc (.r 0),.sc (.d (.int .i64 a1))] [(5,L P a0)] [(5,L P r.2)] (.int .i64 r.1):=by
 unfold KM at h;refine Di (ps:= [(0,0)]) (σ:=⟨[(0,vc (.own 99999999999)),(1,vc (aI a1))],[],[(99999999999,5,L P a0)]⟩) A4 pH H H H (AQ Bu) H ?_;refine Cb U4 ?_;have k0:= @B2f;exact gc
def U5:Hw:=([(6,[0,1,5],[],[99999999999])],[])
def gK:=fun(k_:G→G→(List X9)→Option (G × List X9))=>∀{v1 v2 v3} {zr},k_ v1 v2 v3=T zr→Kh N 21 U5 6 [0,1,5] [] [99999999999] ⟨[pW 0 99999999999,pI 1 v1,pI 5 v2],[],[(99999999999,3,L X9.row v3)]⟩ (E1 [4] (.int .i64 zr.1) [(3,L X9.row zr.2)] [(0,0)])
theorem B2g{n:Nat}:gK (Fw n):=by
 induction n with
 | zero=>intro _ _ _ r h; cases h
 | succ n ih=>
  intro v1 v2 v3 r h σ hσ S hS;refine ev hS ?_;rw[Fw] at h;refine AE (Ax ?_);obtain⟨h4,h⟩|⟨h4,h⟩:=ic h
  ·obtain⟨x5,h5,h⟩:=ob h;have h5n:=Au h5;try simp only[hσ,h4,h5,A,B,C,E,F,J]
   refine AS (row:=X9.row) (y:=(⟨v1,x5.From,x5.To⟩:X9)) H H h5n H H (by rfl) ?_;obtain⟨x6,h6,h⟩:=ob h;have h6n:=Au h6;try simp only[h4,h5,h6,A,B,C,E,F,J]
   refine AS (row:=X9.row) (y:=(⟨x6.Segment,(Q .i64 (v1+(1:G))),x6.To⟩:X9)) H H h6n H H (by rfl) ?_;obtain⟨x7,h7,h⟩:=ob h;have h7n:=Au h7;try simp only[h4,h5,h6,h7,A,B,C,E,F,J]
   refine AS (row:=X9.row) (y:=(⟨x7.Segment,x7.From,(Q .i64 ((Q .i64 (v1+(1:G)))+(1:G)))⟩:X9)) H H h7n H H (by rfl) ?_;try simp only[h4,h5,h6,h7,A,B,C,E,F,J]
   refine ih h ?_ (by kernel_rfl);try simp only[h4,h5,h6,h7,A,B,C,E,F,J,pL,aM,List.map_nil]
  ·try simp only[hσ,h4,A,B,C,E,F,J]
   cases h;exact⟨⟨H,⟨⟩⟩,⟨⟨⟨_,H,H⟩,H⟩,⟨⟩⟩⟩
theorem pJ:B1 N 21=T ((C3 N 21 U5).strip,[4],34):=by kernel_rfl
theorem vb:∀(n:Nat) (v1 v2:G) (v3:List X9) (r:G × List X9),Fw n v1 v2 v3=T r→r.2.length=v3.length:=by
 intro n
 induction n with
 | zero=>intro _ _ _ r h; cases h
 | succ n ih=>
  intro v1 v2 v3 r h;rw[Fw] at h;obtain⟨h4,h⟩|⟨h4,h⟩:=ic h
  ·obtain⟨x5,h5,h⟩:=ob h;obtain⟨x6,h6,h⟩:=ob h;obtain⟨x7,h7,h⟩:=ob h;have hl:=ih _ _ _ _ h;try simp only[O] at hl
   omega
  ·cases h;all_goals (try dsimp only); first | done | omega | (simp only[O] at *; omega) | simp_all
theorem ZQ{a0}{a1}{r}(h:KP a0 a1=T r):r.2.length=a0.length:=by
 unfold KP at h;have hl:=vb _ _ _ _ _ h;try simp only[O] at hl
 omega
theorem A4z{a0}{a1}{r}(h:KP a0 a1=T r):Co N 21 [.sc (.r 0),.sc (.d (.int .i64 a1))] [(3,L X9.row a0)] [(3,L X9.row r.2)] (.int .i64 r.1):=by
 unfold KP at h;refine Di (ps:= [(0,0)]) (σ:=⟨[(0,vc (.own 99999999999)),(1,vc (aI a1))],[],[(99999999999,3,L X9.row a0)]⟩) A4 pJ H H H (AQ Bu) H ?_;refine Cb U5 ?_;have k0:= @B2g;exact gc
def Z7:Hw:=([(6,[0,1,5],[],[])],[])
def gI:=fun a0 (k_:G→G→Option G)=>∀{v1 v2} {zr},k_ v1 v2=T zr→Kh N 23 Z7 6 [0,1,5] [] [] ⟨[pL 0 rI a0,pI 1 v1,pI 5 v2],[],[]⟩ (A8 [4] [.sc (.v (.int .i64 zr))])
theorem B2h{a0}{n:Nat}:gI a0 (IC a0 n):=by
 induction n with
 | zero=>intro _ _ r h; cases h
 | succ n ih=>
  intro v1 v2 r h σ hσ;rw[IC] at h;exact gc
instance dD:Ct 23 (∀{a0} {a1} {r},KL a0 a1=T r→FC N 23 [.sc (.sl (L rI a0)),.sc (.int .i64 a1)] [.sc (.v (.int .i64 r))]):=by
 refine⟨fun h=> ?_⟩;unfold KL at h;refine A5 A4 Z7 [4] 21 ?_;have k0:= @B2h;exact gc
theorem w_laws_FnExactDivertedCalls(a0:X5)(a1:List Xb)(a2:List X9)(r:Bool)(h:Qx a0 a1 a2=T r):FC N 4 [.ag (X5.row a0),.sc (.sl (L P a1)),.sc (.sl (L X9.row a2))] [.sc (.v (.bool r))]:=by
 unfold Qx at h;refine A5 A4 h0 [6] 142 ?_;intro S hS;refine ev hS ?_;simp only[A,B,C,E,F,J];try simp only[A,B,C,E,F,J]
 refine Bg ?_;obtain⟨r1,h1,h⟩:=ob h;try simp only[A,B,C,E,F,J]
 refine AA (Ae A5b h1) ?_;obtain⟨h2,h⟩|⟨h2,h⟩:=ic h
 ·try simp only[h2,A,B,C,E,F,J]
  cases h;exact t0
 ·obtain⟨r3,h3,h⟩:=ob h;try simp only[h2,A,B,C,E,F,J]
  refine AA (Ae A49 h3) ?_;obtain⟨h4,h⟩|⟨h4,h⟩:=ic h
  ·try simp only[h2,h4,A,B,C,E,F,J]
   cases h;exact t0
  ·obtain⟨r5,h5,h⟩:=ob h;try simp only[h2,h4,A,B,C,E,F,J]
   refine AA (Ae A5a h5) ?_;obtain⟨h6,h⟩|⟨h6,h⟩:=ic h
   ·try simp only[h2,h4,h6,A,B,C,E,F,J]
    cases h;exact t0
   ·obtain⟨r7,h7,h⟩:=ob h;try simp only[h2,h4,h6,A,B,C,E,F,J]
    refine AA (Ae SD h7) ?_;obtain⟨r9,h9,h⟩:=ob h;try simp only[h2,h4,h6,A,B,C,E,F,J]
    refine AA (Ae SB h9) ?_;obtain⟨r10,h10,h⟩:=ob h;try simp only[h2,h4,h6,A,B,C,E,F,J]
    refine AA (Ae SC h10) ?_;obtain⟨r11,h11,h⟩:=ob h;try simp only[h2,h4,h6,A,B,C,E,F,J]
    refine BO (Ae A5o h11) H (D0 H ⟨D1,H,⟨⟩⟩) H (uf H) ?_;obtain⟨r12,h12,h⟩:=ob h;try simp only[h2,h4,h6,A,B,C,E,F,J]
    refine AA (Ae SD h12) ?_;try simp only[h2,h4,h6,A,B,C,E,F,J]
    refine BM ?_;obtain⟨r13,h13,h⟩:=ob h;try simp only[h2,h4,h6,A,B,C,E,F,J]
    refine AA (Ae SB h13) ?_;obtain⟨r14,h14,h⟩:=ob h;try simp only[h2,h4,h6,A,B,C,E,F,J]
    refine AA (Ae SC h14) ?_;obtain⟨r15,h15,h⟩:=ob h;try simp only[h2,h4,h6,A,B,C,E,F,J]
    refine BO (Ae cw h15) H (D0 H ⟨D1,H,⟨⟩⟩) H (uf H) ?_;obtain⟨r16,h16,h⟩:=ob h;try simp only[h2,h4,h6,A,B,C,E,F,J]
    refine BO (Ae Vc h16) H (BD H) H (uf H) ?_;obtain⟨h17,h⟩|⟨h17,h⟩:=ic h
    ·obtain⟨h18,h⟩|⟨h18,h⟩:=ic h
     ·try simp only[h2,h4,h6,h17,h18,A,B,C,E,F,J]
      refine Ay ?_;obtain⟨r19,h19,h⟩:=ob h;try simp only[h2,h4,h6,h17,h18,A,B,C,E,F,J]
      refine Cc (Ae SD h19) ?_;obtain⟨r20,h20,h⟩:=ob h;try simp only[h2,h4,h6,h17,h18,A,B,C,E,F,J]
      refine Rl (Ae A4w h20) (by first | rfl | kernel_rfl) (BD H) H (uf H) ?_;obtain⟨h21,h⟩|⟨h21,h⟩:=ic h
      ·obtain⟨r22,h22,h⟩:=ob h;try simp only[h2,h4,h6,h17,h18,h21,A,B,C,E,F,J]
       refine AA (Ae SB h22) ?_;obtain⟨r23,h23,h⟩:=ob h;try simp only[h2,h4,h6,h17,h18,h21,A,B,C,E,F,J]
       refine BO (Ae A4u h23) H (BD H) H (uf H) ?_;obtain⟨h24,h⟩|⟨h24,h⟩:=ic h
       ·obtain⟨r25,h25,h⟩:=ob h;try simp only[h2,h4,h6,h17,h18,h21,h24,A,B,C,E,F,J]
        refine AA (Ae SC h25) ?_;obtain⟨r26,h26,h⟩:=ob h;try simp only[h2,h4,h6,h17,h18,h21,h24,A,B,C,E,F,J]
        refine BO (Ae A4v h26) H (BD H) H (uf H) ?_;obtain⟨h27,h⟩|⟨h27,h⟩:=ic h
        ·obtain⟨r28,h28,h⟩:=ob h;try simp only[h2,h4,h6,h17,h18,h21,h24,h27,A,B,C,E,F,J]
         have lrr28:=(JC h28);refine D8 (ids:= [2945,2946,2947,2948,2949,2955]) (A42 h28) H H H (AQ (AQ (AQ (AQ (AQ (AQ Bu)))))) (C9 (JC h28).1 (C9 (JC h28).2.1 (C9 (JC h28).2.2.1 (C9 (JC h28).2.2.2.1 (C9 (JC h28).2.2.2.2.1 (C9 (JC h28).2.2.2.2.2 Dc)))))) ?_;obtain⟨r29,h29,h⟩:=ob h;try simp only[h2,h4,h6,h17,h18,h21,h24,h27,A,B,C,E,F,J]
         have lrr29:=(ZP h29);refine D8 (ids:= [3072]) (A4x h29) H H H (AQ Bu) (C9 (ZP h29) Dc) ?_;obtain⟨r30,h30,h⟩:=ob h;try simp only[h2,h4,h6,h17,h18,h21,h24,h27,A,B,C,E,F,J]
         have lrr30:=(ZQ h30);refine D8 (ids:= [3200]) (A4z h30) H H H (AQ Bu) (C9 (ZQ h30) Dc) ?_;obtain⟨h31,h⟩|⟨h31,h⟩:=ic h
         ·try simp only[h2,h4,h6,h17,h18,h21,h24,h27,h31,A,B,C,E,F,J]
          cases h;exact t0
         ·obtain⟨r32,h32,h⟩:=ob h;try simp only[h2,h4,h6,h17,h18,h21,h24,h27,h31,A,B,C,E,F,J]
          refine BO (Ae Vc h32) H (BD H) H (uf H) ?_;obtain⟨h33,h⟩|⟨h33,h⟩:=ic h
          ·obtain⟨r34,h34,h⟩:=ob h;try simp only[h2,h4,h6,h17,h18,h21,h24,h27,h31,h33,A,B,C,E,F,J]
           have lrr34:=(Pj h34);refine D8 (ids:= [3520]) (dE h34) H H H (AQ Bu) (C9 (Pj h34) Dc) ?_;obtain⟨r35,h35,h⟩:=ob h;try simp only[h2,h4,h6,h17,h18,h21,h24,h27,h31,h33,A,B,C,E,F,J]
           refine BO (Ae dD h35) H (BD H) H (uf H) ?_;obtain⟨h36,h⟩|⟨h36,h⟩:=ic h
           ·try simp only[h2,h4,h6,h17,h18,h21,h24,h27,h31,h33,h36,A,B,C,E,F,J]
            cases h;exact t0
           ·obtain⟨h37,h⟩|⟨h37,h⟩:=ic h
            ·try simp only[h2,h4,h6,h17,h18,h21,h24,h27,h31,h33,h36,h37,A,B,C,E,F,J]
             cases h;exact t0
            ·obtain⟨r38,h38,h⟩:=ob h;try simp only[h2,h4,h6,h17,h18,h21,h24,h27,h31,h33,h36,h37,A,B,C,E,F,J]
             refine AA (Ae SD h38) ?_;obtain⟨r39,h39,h⟩:=ob h;try simp only[h2,h4,h6,h17,h18,h21,h24,h27,h31,h33,h36,h37,A,B,C,E,F,J]
             refine AA (Ae SB h39) ?_;obtain⟨r40,h40,h⟩:=ob h;try simp only[h2,h4,h6,h17,h18,h21,h24,h27,h31,h33,h36,h37,A,B,C,E,F,J]
             refine AA (Ae SC h40) ?_;obtain⟨r41,h41,h⟩:=ob h;try simp only[h2,h4,h6,h17,h18,h21,h24,h27,h31,h33,h36,h37,A,B,C,E,F,J]
             refine BO (Ae cw h41) H (D0 H ⟨D1,H,⟨⟩⟩) H (uf H) ?_;obtain⟨r42,h42,h⟩:=ob h;try simp only[h2,h4,h6,h17,h18,h21,h24,h27,h31,h33,h36,h37,A,B,C,E,F,J]
             refine BO (Ae Vc h42) H (BD H) H (uf H) ?_;obtain⟨h43,h⟩|⟨h43,h⟩:=ic h
             ·obtain⟨h44,h⟩|⟨h44,h⟩:=ic h
              ·obtain⟨r45,h45,h⟩:=ob h;try simp only[h2,h4,h6,h17,h18,h21,h24,h27,h31,h33,h36,h37,h43,h44,A,B,C,E,F,J]
               refine BO (Ae dD h45) H (BD H) H (uf H) ?_;obtain⟨h46,h⟩|⟨h46,h⟩:=ic h
               ·try simp only[h2,h4,h6,h17,h18,h21,h24,h27,h31,h33,h36,h37,h43,h44,h46,A,B,C,E,F,J]
                cases h;exact t0
               ·obtain⟨h47,h⟩|⟨h47,h⟩:=ic h
                ·try simp only[h2,h4,h6,h17,h18,h21,h24,h27,h31,h33,h36,h37,h43,h44,h46,h47,A,B,C,E,F,J]
                 cases h;exact t0
                ·try simp only[h2,h4,h6,h17,h18,h21,h24,h27,h31,h33,h36,h37,h43,h44,h46,h47,A,B,C,E,F,J]
                 cases h;exact t0
              ·try simp only[h2,h4,h6,h17,h18,h21,h24,h27,h31,h33,h36,h37,h43,h44,A,B,C,E,F,J]
               cases h;exact t0
             ·try simp only[h2,h4,h6,h17,h18,h21,h24,h27,h31,h33,h36,h37,h43,A,B,C,E,F,J]
              cases h;exact t0
          ·try simp only[h2,h4,h6,h17,h18,h21,h24,h27,h31,h33,A,B,C,E,F,J]
           cases h;exact t0
        ·try simp only[h2,h4,h6,h17,h18,h21,h24,h27,A,B,C,E,F,J]
         cases h;exact t0
       ·try simp only[h2,h4,h6,h17,h18,h21,h24,A,B,C,E,F,J]
        cases h;exact t0
      ·try simp only[h2,h4,h6,h17,h18,h21,A,B,C,E,F,J]
       cases h;exact t0
     ·try simp only[h2,h4,h6,h17,h18,A,B,C,E,F,J]
      cases h;exact t0
    ·try simp only[h2,h4,h6,h17,A,B,C,E,F,J]
     cases h;exact t0
end Go.Vi
