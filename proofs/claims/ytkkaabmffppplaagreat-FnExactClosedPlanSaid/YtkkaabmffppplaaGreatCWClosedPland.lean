/-
Walks. No condition.
-/
import Derived.Test.YtkkaabmffppplaaGreatCNf
import Derived.Test.YtkkaabmffppplaaGreatChecked
import Derived.Test.YtkkaabmffppplaaGreatCVi44
import Derived.KernelRfl
import Derived.Test.YtkkaabmffppplaaGreatCWClosedPlanc
namespace Go.Vi
open Go.Proofs
set_option linter.all false
set_option maxRecDepth 4000
set_option maxHeartbeats 2000000
open Nat renaming reduceBEq → C, reduceMul → E, reduceAdd → F, reduceDiv → G, le_of_ble_eq_true → uf
open Int renaming reduceBEq → I
attribute [local irreducible] go B5 HL
open List renaming map → Y, length_set → zA, all_eq_true → zD, cons_append → zE, nil_append → zF, all_cons → zH, all_nil → zI
open Tryz renaming prog → Z
open Xd renaming row → zB
open Xa renaming row → zC
open Xc renaming row → zG
open Int renaming tmod → zJ
open IntKind renaming wrap → zK
open Bool renaming true → T, false → L
open Option renaming some → N, none → O
open _root_ renaming List → P, Option → Q, Int → U, Bool → V, Nat → W, rfl → X
def Pj:Hw:=([(14,[0,3,4,5,6],[],[896,1024]),(29,[0,3,4,5,6,7,8],[],[896,1024]),(34,[0,3,4,5,6,7,8,9],[],[896,1024]),(43,[0,3,4,5,6,7,8,9],[],[896,1024])],[])
def iT:=fun a0 y5 v6 v17 v18 v21 v19 (k_:(P U)→Q U)=>∀{v28} {zr},k_ v28=N zr→Kh Z 244 Pj 43 [0,3,4,5,6,7,8,9] [] [896,1024] ⟨[pL 0 rU a0,pI 3 y5,pW 4 896,pW 5 1024,pI 6 v6,pI 7 v17,pI 8 v18,pI 9 v21],[],[(896,1,Y rB v19),(1024,1,Y rI v28)]⟩ (A5 [2] [.sc (.v (.int .i64 zr))])
def WF:=fun a0 y5 v6 v17 v18 v19 (k_:U→(P U)→Q U)=>∀{v21 v22} {zr},k_ v21 v22=N zr→Kh Z 244 Pj 34 [0,3,4,5,6,7,8,9] [] [896,1024] ⟨[pL 0 rU a0,pI 3 y5,pW 4 896,pW 5 1024,pI 6 v6,pI 7 v17,pI 8 v18,pI 9 v21],[],[(896,1,Y rB v19),(1024,1,Y rI v22)]⟩ (A5 [2] [.sc (.v (.int .i64 zr))])
def iS:=fun a0 y5 v6 v8 (k_:U→U→(P V)→Q U)=>∀{v17 v18 v19} {zr},k_ v17 v18 v19=N zr→Kh Z 244 Pj 29 [0,3,4,5,6,7,8] [] [896,1024] ⟨[pL 0 rU a0,pI 3 y5,pW 4 896,pW 5 1024,pI 6 v6,pI 7 v17,pI 8 v18],[],[(896,1,Y rB v19),(1024,1,Y rI v8)]⟩ (A5 [2] [.sc (.v (.int .i64 zr))])
def Qt:=fun a0 y5 (k_:U→(P V)→(P U)→Q U)=>∀{v6 v7 v8} {zr},k_ v6 v7 v8=N zr→Kh Z 244 Pj 14 [0,3,4,5,6] [] [896,1024] ⟨[pL 0 rU a0,pI 3 y5,pW 4 896,pW 5 1024,pI 6 v6],[],[(896,1,Y rB v7),(1024,1,Y rI v8)]⟩ (A5 [2] [.sc (.v (.int .i64 zr))])
theorem fY{a0 y5 v6 v17 v18 v21 v19}{Cw}(Po:Qt a0 y5 Cw){Sf}(vH:WF a0 y5 v6 v17 v18 v19 Sf):iT a0 y5 v6 v17 v18 v21 v19 (L8 a0 y5 v6 v17 v18 v21 v19 Cw Sf):=by
 intro v28 r h σ hσ;unfold L8 at h;have k0:= @Po; have k1:= @vH;exact gc
theorem B2s{a0 y5 v6 v17 v18 v19}{Cw}(Po:Qt a0 y5 Cw){n:W}:WF a0 y5 v6 v17 v18 v19 (GX a0 y5 v6 v17 v18 v19 Cw n):=by
 induction n with
 | zero=>intro _ _ r h; cases h
 | succ n ih=>
  intro v21 v22 r h σ hσ S hS;refine ev hS ?_;rw[GX] at h;refine AB (As ?_);obtain⟨h23,h⟩:=K7 h;obtain⟨x24,h24,h⟩:=ob h;have h24n:=Am h24;obtain⟨h25,h⟩|⟨h25,h⟩:=ic h
  ·obtain⟨x26,h26,h⟩:=ob h;have h26n:=Am h26;obtain⟨x27,h27,h⟩:=ob h;have h27n:=Am h27;refine sg ?_;refine AK (row:=rI) (y:=(if(zK .i64 ((1:U)+x27))<x26 then(zK .i64 ((1:U)+x27)) else x26)) X X h26n X X (by rfl) ?_;refine sg ?_;exact fY Po ih h sq kr
  ·refine sg ?_;exact fY Po ih h sq kr
theorem fZ{a0 y5 v6 v8}{Cw}(Po:Qt a0 y5 Cw):iS a0 y5 v6 v8 (L7 a0 y5 v6 v8 Cw):=by
 intro v17 v18 v19 r h σ hσ;unfold L7 at h;have s0:= @Ez _ rI ((a0.length:U));have k0:= @B2s;exact gc
theorem B2t{a0 y5}{n:W}:Qt a0 y5 (EK a0 y5 n):=by
 induction n with
 | zero=>intro _ _ _ r h; cases h
 | succ n ih=>
  intro v6 v7 v8 r h σ hσ S hS;refine ev hS ?_;rw[EK] at h;refine AB (As ?_);obtain⟨h9,h⟩|⟨h9,h⟩:=ic h
  ·obtain⟨r10,h10,h⟩:=ob h;refine sg ?_;refine AF (Ab A7o h10) ?_;obtain⟨h11,h⟩:=K7 h;obtain⟨x12,h12,h⟩:=ob h;have h12n:=Am h12;obtain⟨h13,h⟩|⟨h13,h⟩:=ic h
   ·obtain⟨x14,h14,h⟩:=ob h;obtain⟨x15,h15,h⟩:=ob h;have h15n:=Am h15;refine sg ?_;refine AK (row:=rB) (y:=((Bk .andNot .u64 (IntKind.u64.wrap (Bk .andNot .i64 v6 (Bs .i64 (1:U) (zK .i64 (r10 - (1:U)))))) x14)==(0:U))) X X h15n X X (by rfl) ?_;refine sg ?_;exact fZ ih h sq kr
   ·obtain⟨x16,h16,h⟩:=ob h;have h16n:=Am h16;refine sg ?_;refine AK (row:=rB) (y:=false) X X h16n X X (by rfl) ?_;refine sg ?_;exact fZ ih h sq kr
  ·obtain⟨x30,h30,h⟩:=ob h;have h30n:=Am h30;refine sg ?_;cases h;exact t0
instance A6v:Ct 244 (∀{a0} {r},Ny a0=N r→FC Z 244 [.sc (.sl (Y rU a0))] [.sc (.v (.int .i64 r))]):=by
 refine⟨fun{a0} {r} h=> ?_⟩;unfold Ny at h;refine A3 A2 Pj [2] 88 ?_;intro S hS;refine ev hS ?_;obtain⟨h1,h⟩:=K7 h;obtain⟨n2,hn2,h⟩:=ob h;refine sg ?_;refine U7 (es:=Y rB (List.replicate n2 L)) X X hn2 X (SE X) X ?_;obtain⟨n3,hn3,h⟩:=ob h;refine sg ?_;refine U7 (es:=Y rI (List.replicate n3 (0:U))) X X hn3 X (SE X) X ?_;obtain⟨x4,h4,h⟩:=ob h;have h4n:=Am h4;refine sg ?_;refine AK (row:=rB) (y:=true) X X h4n X X (by rfl) ?_;refine sg ?_;exact B2t h sq kr
def Pk:Hw:=([(16,[0,3,4],[99999999999],[90000,90001]),(31,[0,3,4],[99999999999],[90000,90001]),(51,[0,3,4],[99999999999],[90000,90001])],[(48,7,(O,.cut 95)),(55,7,(O,.cut 123))])
def iP:=fun(a0:Xh) v2 (k_:(P U)→U→(P U)→(P U)→Q (V × Xh))=>∀{v22 v23 v24 v25} {zr},k_ v22 v23 v24 v25=N zr→Kh Z 245 Pk 51 [0,3,4] [99999999999] [90000,90001] ⟨[(0,vc (.pb 99999999999 0)),pI 3 (a0.who.length:U),pI 4 v2],[(99999999999,[aM rU v22,aI v23,.own 90000,.own 90001])],[(90000,1,Y rU v24),(90001,1,Y rI v25)]⟩ (Dj [2] [.sc (.v (.bool zr.1))] (CB zr.2) (CC zr.2))
def iO:=fun(a0:Xh) v2 v3 v4 v6 (k_:(P U)→Q (V × Xh))=>∀{v11} {zr},k_ v11=N zr→Kh Z 245 Pk 31 [0,3,4] [99999999999] [90000,90001] ⟨[(0,vc (.pb 99999999999 0)),pI 3 (a0.who.length:U),pI 4 v2],[(99999999999,[aM rU v3,aI v4,.own 90000,.own 90001])],[(90000,1,Y rU v11),(90001,1,Y rI v6)]⟩ (Dj [2] [.sc (.v (.bool zr.1))] (CB zr.2) (CC zr.2))
def T9:=fun(a0:Xh) (k_:U→(P U)→U→(P U)→(P U)→Q (V × Xh))=>∀{v2 v3 v4 v5 v6} {zr},k_ v2 v3 v4 v5 v6=N zr→Kh Z 245 Pk 16 [0,3,4] [99999999999] [90000,90001] ⟨[(0,vc (.pb 99999999999 0)),pI 3 (a0.who.length:U),pI 4 v2],[(99999999999,[aM rU v3,aI v4,.own 90000,.own 90001])],[(90000,1,Y rU v5),(90001,1,Y rI v6)]⟩ (Dj [2] [.sc (.v (.bool zr.1))] (CB zr.2) (CC zr.2))
theorem fb{rec_:Xh→Q (V × Xh)}(h_rec:∀(a0:Xh) zr,rec_ a0=N zr→FCz Z 245 [.p] (CB a0) (CC a0) (CB zr.2) (CC zr.2) [.sc (.v (.bool zr.1))]){a0 v2}{EZ}(S4:T9 a0 EZ):iP a0 v2 (IH rec_ a0 v2 EZ):=by
 intro v22 v23 v24 v25 r h σ hσ S hS;refine ev hS ?_;refine As ?_;unfold IH at h;obtain⟨x26,h26,h⟩:=ob h;have h26n:=Am h26;obtain⟨h27,h⟩|⟨h27,h⟩:=ic h
 ·obtain⟨p28,h28,h⟩:=ob h;refine sg ?_;refine Ga X X h28 (by rfl) ?_;refine sg ?_;cases h;exact⟨⟨X,⟨⟩⟩,[90000,90001],by decide,by decide,X,X⟩
 ·refine sg ?_;exact S4 h sq kr
theorem fe{rec_:Xh→Q (V × Xh)}(h_rec:∀(a0:Xh) zr,rec_ a0=N zr→FCz Z 245 [.p] (CB a0) (CC a0) (CB zr.2) (CC zr.2) [.sc (.v (.bool zr.1))]){a0 v2 v3 v4 v6}{EZ}(S4:T9 a0 EZ):iO a0 v2 v3 v4 v6 (L4 rec_ a0 v2 v3 v4 v6 EZ):=by
 intro v11 r h σ hσ S hS;refine ev hS ?_;refine As ?_;unfold L4 at h;refine sg ?_;obtain⟨x12,h12,h⟩:=ob h;have h12n:=Am h12;obtain⟨x13,h13,h⟩:=ob h;obtain⟨h14,h⟩|⟨h14,h⟩:=ic h
 ·obtain⟨h15,h⟩:=K7 h;refine sg ?_;refine AK (row:=rU) (y:=(Bk .or .u64 x12 (Bs .u64 (1:U) (a0.who.length:U)))) X X h12n X X (by rfl) ?_;refine sg ?_;refine Bc (es:=Y rI ([v2]:P U)) ?_;obtain⟨h16,h⟩:=B2 h;obtain⟨r17,h17,h⟩:=ob h;refine sg ?_;refine HA (h_rec _ _ h17) 99999999999 [90000,90001] rfl X X X (by decide) X X X ?_;obtain⟨h18,h⟩|⟨h18,h⟩:=ic h
  ·refine sg ?_;cases h;exact⟨⟨X,⟨⟩⟩,[90000,90001],by decide,by decide,X,X⟩
  ·obtain⟨p19,h19,h⟩:=ob h;refine sg ?_;refine Ga X X h19 (by rfl) ?_;obtain⟨x20,h20,h⟩:=ob h;have h20n:=Am h20;obtain⟨h21,h⟩:=K7 h;refine sg ?_;refine AK (row:=rU) (y:=(Bk .andNot .u64 x20 (Bs .u64 (1:U) (a0.who.length:U)))) X X h20n X X (by rfl) ?_;refine sg ?_;exact fb h_rec S4 h sq kr
 ·refine sg ?_;exact fb h_rec S4 h sq kr
theorem B2v{rec_:Xh→Q (V × Xh)}(h_rec:∀(a0:Xh) zr,rec_ a0=N zr→FCz Z 245 [.p] (CB a0) (CC a0) (CB zr.2) (CC zr.2) [.sc (.v (.bool zr.1))]){a0}{n:W}:T9 a0 (FF rec_ a0 n):=by
 induction n with
 | zero=>intro _ _ _ _ _ r h; cases h
 | succ n ih=>
  intro v2 v3 v4 v5 v6 r h σ hσ S hS;refine ev hS ?_;rw[FF] at h;refine AB (As ?_);obtain⟨h7,h⟩|⟨h7,h⟩:=ic h
  ·obtain⟨h8,h⟩|⟨h8,h⟩:=ic h
   ·obtain⟨h9,h⟩|⟨h9,h⟩:=ic h
    ·refine sg ?_;refine Bc (es:=Y rU ([(0:U)]:P U)) ?_;obtain⟨h10,h⟩:=B2 h;refine sg ?_;exact fe h_rec ih h sq kr
    ·refine sg ?_;exact fe h_rec ih h sq kr
   ·refine sg ?_;cases h;exact⟨⟨X,⟨⟩⟩,[90000,90001],by decide,by decide,X,X⟩
  ·refine sg ?_;cases h;exact⟨⟨X,⟨⟩⟩,[90000,90001],by decide,by decide,X,X⟩
theorem qn:AE Z 245=N ((Bp Z 245 Pk).strip,[2],126):=by kernel_rfl
theorem A6q(rec_:Xh→Q (V × Xh))(a0:Xh)(r:V × Xh)(h_rec:∀(a0:Xh) zr,rec_ a0=N zr→FCz Z 245 [.p] (CB a0) (CC a0) (CB zr.2) (CC zr.2) [.sc (.v (.bool zr.1))])(h:Nw rec_ a0=N r):FCz Z 245 [.p] (CB a0) (CC a0) (CB r.2) (CC r.2) [.sc (.v (.bool r.1))]:=by
 unfold Nw at h;refine Qs (σ:=⟨[(0,vc (.pb 99999999999 0))],[(99999999999,[aL (Y rU a0.sets),aI a0.most,.own 90000,.own 90001])],[(90000,1,Y rU a0.groups),(90001,1,Y rI a0.who)]⟩) A2 qn X X X X ?_;refine Bt Pk ?_;intro S hS;refine ev hS ?_;obtain⟨h1,h⟩|⟨h1,h⟩:=ic h
 ·refine sg ?_;cases h;exact⟨⟨X,⟨⟩⟩,[90000,90001],by decide,by decide,X,X⟩
 ·refine sg ?_;exact B2v h_rec h sq kr
theorem A6r:∀(n:W) (a0:Xh) (r:V × Xh),Ed n a0=N r→FCz Z 245 [.p] (CB a0) (CC a0) (CB r.2) (CC r.2) [.sc (.v (.bool r.1))]:=by
 intro n
 induction n with
 | zero=>intro _ r h; cases h
 | succ n ih=>intro a0 r h; rw[Ed] at h; exact A6q (Ed n) a0 r ih h
theorem A6p{a0}{r}(h:TU a0=N r):FCz Z 245 [.p] (CB a0) (CC a0) (CB r.2) (CC r.2) [.sc (.v (.bool r.1))]:=A6r bigN a0 r h
def uz:Hw:=([],[(13,5,(O,.ownb 24 2 152704 1)),(13,6,(O,.ownb 24 3 152768 1)),(15,1,(O,.frz 1216))])
instance B66:Ct 229 (∀{a0} {a1} {a2} {r},N8 a0 a1 a2=N r→FC Z 229 [.sc (.int .i64 a0),.sc (.sl (Y rI a1)),.sc (.sl (Y Xb.row a2))] [.sc (.o 1 (Y rI r.1)),.sc (.v (.int .i64 r.2.1)),.sc (.v (.bool r.2.2))]):=by
 refine⟨fun{a0} {a1} {a2} {r} h=> ?_⟩;unfold N8 at h;refine A3 A2 uz [6,7,8] 35 ?_;intro S hS;refine ev hS ?_;obtain⟨r1,h1,h⟩:=ob h;refine sg ?_;refine AF (Ab A6o h1) ?_;obtain⟨h2,h⟩|⟨h2,h⟩:=ic h
 ·obtain⟨r3,h3,h⟩:=ob h;refine sg ?_;refine AF (Ab A6x h3) ?_;obtain⟨r4,h4,h⟩:=ob h;refine sg ?_;refine AT (Ab A6v h4) X (B1 X) X (uf X) ?_;refine sg ?_;refine G9 (cs':= [.own 1216,aI r4,.own 152704,.nil]) X X X X ?_;refine sg ?_;refine G9 (cs':= [.own 1216,aI r4,.own 152704,.own 152768]) X X X X ?_;obtain⟨r5,h5,h⟩:=ob h;refine sg ?_;refine HA (A6p h5) 24 [152704,152768] rfl X X X (by decide) X X X ?_;refine sg ?_;cases h;trivial
 ·refine sg ?_;cases h;trivial
instance B7y:Ct 205 (∀{a0} {a1} {a2} {a3} {r},GU a0 a1 a2 a3=N r→FC Z 205 [.sc (.int .i64 a0),.sc (.sl (Y rI a1)),.sc (.sl (Y Xb.row a2)),.sc (.int .i64 a3)] [.sc (.v (.bool r))]):=by
 refine⟨fun h=> ?_⟩;unfold GU at h;refine A3 A2 h0 [8] 27 ?_;exact gc
def ZI:Hw:=([(8,[2,5,6,13,14,15],[2],[704,768])],[])
def iQ:=fun a1 (a0:X6) (k_:U→(P X1)→(P Xb)→Q V)=>∀{v1 v2 v3} {zr},k_ v1 v2 v3=N zr→Kh Z 174 ZI 8 [2,5,6,13,14,15] [2] [704,768] ⟨[pB 2,pW 5 704,pW 6 768,pL 13 X0.row a1,pI 14 (a1.length:U),pI 15 v1],[(2,([aI a0.Forecast.Tide.Mean,aM zB a0.Forecast.Tide.Parts,aM zC a0.Forecast.Surges,aM X8.row a0.Chart.Points,aM X2.row a0.Chart.Segments,aM X4.row a0.Fleet,aI a0.Regime.Gap,aB a0.Regime.NoMeet]++dm a0.Crew.row))],[(704,5,Y X1.row v2),(768,4,Y Xb.row v3)]⟩ (A5 [4] [.sc (.v (.bool zr))])
theorem B2w{a1 a0}{n:W}:iQ a1 a0 (GW a1 a0 n):=by
 induction n with
 | zero=>intro _ _ _ r h; cases h
 | succ n ih=>
  intro v1 v2 v3 r h σ hσ;rw[GW] at h;have s0:=fun(r10:Xb)=> @Aw (Y Xb.row ([r10]:P Xb))
  exact gc
instance A6s:Ct 174 (∀{a0} {a1} {r},GV a0 a1=N r→FC Z 174 [.ag (X6.row a0),.sc (.sl (Y X0.row a1))] [.sc (.v (.bool r))]):=by
 refine⟨fun h=> ?_⟩;unfold GV at h;refine A3 A2 ZI [4] 79 ?_;have s0:= @Aw (Y X1.row ([]:P X1));have s1:= @Aw (Y Xb.row ([]:P Xb));have k0:= @B2w;exact gc
def B5b:P (P W × AItem):= [([],(O,.load 25 (S 3) T 12)),([],(O,.mv 26 (S 1))),([1],(O,.call 27 175 [(S 26)])),([],(O,.load 28 (S 5) T 4)),([3],(O,.bslice 29 4 [.int .i64 0,.int .i64 0,.int .i64 0,.sl []] 1 [(0,(S 28))])),([2,4,2],(O,.app 30 4 48 (S 27) (S 29))),([0,5,5],(O,.call 31 174 [(S 25),(S 30)])),([6,6,0,1,2,3,4,5,6],(O,.mv 6 (S 31)))]
def ZJ:Hw:=([(6,[1,3,5,9,10,11],[3,5],[])],[])
abbrev HZ(a1:P X0)(a0:X6)(a2:X0)(r9:V)(wo2_:AV)(c0_ c1_:V)(c2_ c3_:V)(c4_ c5_:V)(c6_ c7_:V)(bx_:P (W × P AC))(rs_:Rows):St:=⟨[(1,vc (aL (Y X0.row a1))),(3,vc (.pb 3 0)),(5,vc (.pb 5 0)),(25,bif c0_ then va ([aI a0.Forecast.Tide.Mean,aL (Y zB a0.Forecast.Tide.Parts),aL (Y zC a0.Forecast.Surges),aL (Y X8.row a0.Chart.Points),aL (Y X2.row a0.Chart.Segments),aL (Y X4.row a0.Fleet),aI a0.Regime.Gap,aB a0.Regime.NoMeet]++dm a0.Crew.row) else .undef),(26,bif c1_ then vc (aL (Y X0.row a1)) else .undef),(27,bif c2_ then wo2_ else .undef),(28,bif c3_ then va (dm a2.row) else .undef),(29,bif c4_ then vc (.own 1856) else .undef),(30,bif c5_ then vc (.own 1728) else .undef),(31,bif c6_ then vc (aB r9) else .undef),(6,bif c7_ then vc (aB r9) else .undef)],bx_,rs_⟩
abbrev VS(a1:P X0)(a0:X6)(a2:X0)(r6:(P X0))(r9:V):St:=(HZ a1 a0 a2 r9 (vc (.undef)) T T T T T T T T [(3,([aI a0.Forecast.Tide.Mean,aL (Y zB a0.Forecast.Tide.Parts),aL (Y zC a0.Forecast.Surges),aL (Y X8.row a0.Chart.Points),aL (Y X2.row a0.Chart.Segments),aL (Y X4.row a0.Fleet),aI a0.Regime.Gap,aB a0.Regime.NoMeet]++dm a0.Crew.row)),(5,(dm a2.row))] [(1728,4,Y X0.row (r6++([a2]:P X0))),(1856,4,Y X0.row ([a2]:P X0))])
def Fi:=fun a1 a0 a2 r6 r9 (f:W) (c0:V) (c1:V) (c2:V) (c3:V) (c4:V) (c5:V) (c6:V) (c7:V) c8 c9=>BZ Z B5b (VS a1 a0 a2 r6 r9) f [c0,c1,c2,c3,c4,c5,c6,c7] (HZ a1 a0 a2 r9 (vc ((c8))) c0 c1 c2 c3 c4 c5 c6 c7 [(3,([aI a0.Forecast.Tide.Mean,aL (Y zB a0.Forecast.Tide.Parts),aL (Y zC a0.Forecast.Surges),aL (Y X8.row a0.Chart.Points),aL (Y X2.row a0.Chart.Segments),aL (Y X4.row a0.Fleet),aI a0.Regime.Gap,aB a0.Regime.NoMeet]++dm a0.Crew.row)),(5,(dm a2.row))] c9)
def Pm:=fun a1 a0 a2 r6 r9=>(L3 a1=N r6)∧((Ad r6.length ([a2]:P X0).length 48)=T)∧(GV a0 (r6++([a2]:P X0))=N r9)
theorem B2x{a1 a0 a2 r6 r9}(H:Pm a1 a0 a2 r6 r9):∀(f:W) (b0 b6 b7:V),Fi a1 a0 a2 r6 r9 f b0 T T T T T b6 b7 .undef [(1728,4,Y X0.row (r6++([a2]:P X0))),(1856,4,Y X0.row ([a2]:P X0))]:=by
 obtain⟨hr6,hg7,hr9⟩:=id H;unfold Fi HZ;intro f
 induction f with
 | zero=>
  intro b0 b6 b7 h;obtain rfl:b0=T:=zD.1 h b0 (by simp);obtain rfl:b6=T:=zD.1 h b6 (by simp);obtain rfl:b7=T:=zD.1 h b7 (by simp);rfl
 | succ f ih=>
  intro b0 b6 b7;refine Ag ⟨?_,?_,?_,?_,?_,?_,?_,?_,⟨⟩⟩<;>try exact gi
  ·intro h0 hw;obtain rfl:=hz h0 rfl;obtain rfl:=hq hw 0 rfl rfl;refine np ?_;try simp only[A7,A8,A4,C,E,F,G,I,J]
   refine AT (Ab A6s hr9) X (B1 X) (by simp only[St.fresh,zH,zI,D4]; simp[AV.cells,V1.cells,AC.uses]) (uf X) ?_;try simp only[A4,C,E,F,G,I,J]
   exact ih T T b7
theorem ff{a1 a0 a2 r6 r9}(H:Pm a1 a0 a2 r6 r9):∀(f:W) (b0:V),Fi a1 a0 a2 r6 r9 f b0 T T T T L L L (.own 1728) [(1728,4,Y X0.row r6),(1856,4,Y X0.row ([a2]:P X0))]:=by
 obtain⟨hr6,hg7,hr9⟩:=id H;unfold Fi HZ;intro f
 induction f with
 | zero=>intros; intro h; simp at h
 | succ f ih=>
  intros;refine Ag ⟨?_,?_,?_,?_,?_,?_,?_,?_,⟨⟩⟩<;>try exact gi
  ·intro h0 hw;refine np ?_;try simp only[hg7,A7,A8,A4,C,E,F,G,I,J]
   exact B2x H ..
theorem B2z{a1 a0 a2 r6 r9}(H:Pm a1 a0 a2 r6 r9):∀(f:W) (b0 b3:V),Fi a1 a0 a2 r6 r9 f b0 T T b3 L L L L (.own 1728) [(1728,4,Y X0.row r6)]:=by
 obtain⟨hr6,hg7,hr9⟩:=id H;unfold Fi HZ;intro f
 induction f with
 | zero=>intros; intro h; simp at h
 | succ f ih=>
  intros;refine Ag ⟨?_,?_,?_,?_,?_,?_,?_,?_,⟨⟩⟩<;>try exact gi
  ·intro h0 hw;obtain rfl:=hq hw 3 rfl rfl;refine np ?_;try simp only[A7,A8,A4,C,E,F,G,I,J]
   refine Au (Y X0.row ([a2]:P X0)) ?_;try simp only[A4,C,E,F,G,I,J]
   exact ff H ..
theorem B20{a1 a0 a2 r6 r9}(H:Pm a1 a0 a2 r6 r9):∀(f:W) (b0 b1:V),Fi a1 a0 a2 r6 r9 f b0 b1 L T T L L L (.own 1728) [(1856,4,Y X0.row ([a2]:P X0))]:=by
 obtain⟨hr6,hg7,hr9⟩:=id H;unfold Fi HZ;intro f
 induction f with
 | zero=>intros; intro h; simp at h
 | succ f ih=>
  intros;refine Ag ⟨?_,?_,?_,?_,?_,?_,?_,?_,⟨⟩⟩<;>try exact gi
  ·intro h0 hw;obtain rfl:=hq hw 1 rfl rfl;refine kp [1,3,5,25,26,27,28,29,30,31,6] [3,5] [1728,1856] ?_;try simp only[A7,A8,zF,zE,A4,C,E,F,G,I,J]
   refine LY (Ab ei hr6) X (by simp only[St.fresh,zH,zI,D4]; simp[AV.cells,V1.cells,AC.uses]) (uf X) ?_;try simp only[A4,C,E,F,G,I,J]
   exact ff H ..
theorem B21{a1 a0 a2 r6 r9}(H:Pm a1 a0 a2 r6 r9):∀(f:W) (b0 b1 b3:V),Fi a1 a0 a2 r6 r9 f b0 b1 L b3 L L L L (.own 1728) []:=by
 obtain⟨hr6,hg7,hr9⟩:=id H;unfold Fi HZ;intro f
 induction f with
 | zero=>intros; intro h; simp at h
 | succ f ih=>
  intros;refine Ag ⟨?_,?_,?_,?_,?_,?_,?_,?_,⟨⟩⟩<;>try exact gi
  ·intro h0 hw;obtain rfl:=hq hw 1 rfl rfl;refine np ?_;try simp only[A7,A8,A4,C,E,F,G,I,J]
   refine LY (Ab ei hr6) X (by simp only[St.fresh,zH,zI,D4]; simp[AV.cells,V1.cells,AC.uses]) (uf X) ?_;try simp only[A4,C,E,F,G,I,J]
   exact B2z H ..
  ·intro h0 hw;obtain rfl:=hq hw 3 rfl rfl;refine np ?_;try simp only[A7,A8,A4,C,E,F,G,I,J]
   refine Au (Y X0.row ([a2]:P X0)) ?_;try simp only[A4,C,E,F,G,I,J]
   exact B20 H ..
def iR:=fun a1 (a0:X6) (a2:X0) (k_:U→Q V)=>∀{v1} {zr},k_ v1=N zr→Kh Z 136 ZJ 6 [1,3,5,9,10,11] [3,5] [] ⟨[pL 1 X0.row a1,pB 3,pB 5,pL 9 X0.row a1,pI 10 (a1.length:U),pI 11 v1],[(3,([aI a0.Forecast.Tide.Mean,aM zB a0.Forecast.Tide.Parts,aM zC a0.Forecast.Surges,aM X8.row a0.Chart.Points,aM X2.row a0.Chart.Segments,aM X4.row a0.Fleet,aI a0.Regime.Gap,aB a0.Regime.NoMeet]++dm a0.Crew.row)),(5,(dm a2.row))],[]⟩ (A5 [6] [.sc (.v (.bool zr))])
theorem B22{a1 a0 a2}{n:W}:iR a1 a0 a2 (II a1 a0 a2 n):=by
 induction n with
 | zero=>intro _ r h; cases h
 | succ n ih=>
  intro v1 r h σ hσ S hS;refine ev hS ?_;rw[II] at h;refine AB (As ?_);obtain⟨h2,h⟩|⟨h2,h⟩:=ic h
  ·obtain⟨x3,h3,h⟩:=ob h;obtain⟨r4,h4,h⟩:=ob h;refine sg ?_;refine AF (Ab A6n h4) ?_;obtain⟨h5,h⟩|⟨h5,h⟩:=ic h
   ·refine sg ?_;cases h;exact t0
   ·refine sg ?_;exact ih h sq kr
  ·refine sg ?_;obtain⟨r6,h6,h⟩:=ob h;obtain⟨h7,h⟩:=B2 h;obtain⟨r9,h9,h⟩:=ob h;refine Em (ks:= [1,3,5]) (bs:= [3,5]) (rs:= []) (τ:=(VS a1 a0 a2 r6 r9)) X (B21 ⟨h6,h7,h9⟩ _ L L L) ?_;simp only[VS,HZ,A7];refine sg ?_;cases h;exact t0
instance A6t:Ct 136 (∀{a0} {a1} {a2} {r},Nx a0 a1 a2=N r→FC Z 136 [.ag (X6.row a0),.sc (.sl (Y X0.row a1)),.ag (X0.row a2)] [.sc (.v (.bool r))]):=by
 refine⟨fun h=> ?_⟩;unfold Nx at h;refine A3 A2 ZJ [6] 32 ?_;have k0:= @B22;exact gc
def B5e:P (P W × AItem):= [([],(O,.mv 40 (S 0))),([],(O,.mv 41 (S 0))),([],(O,.mv 42 (S 0))),([],(O,.mv 43 (S 0))),([3],(O,.nilc 44 (S 43))),([4],(O,.faddr 45 (S 44) 15)),([5],(O,.load 46 (S 45) L 1)),([6],(O,.call 47 135 [(S 46)])),([],(O,.load 48 (S 2) T 2)),([0,0,3,4,5,6,7],(O,.nilc 49 (S 40))),([9,0,3,4,5,6,7],(O,.faddr 50 (S 49) 16)),([10,7,7,0,3,4,5,6,7],(O,.store (S 50) (S 47) 1)),([1,0,1,3,4,5,6,7,8,9,10,11],(O,.nilc 51 (S 41))),([12,0,1,3,4,5,6,7,8,9,10,11],(O,.faddr 52 (S 51) 17)),([13,8,11,0,1,3,4,5,6,7,8,9,10,11],(O,.store (S 52) (S 48) 2)),([2,0,1,2,3,4,5,6,7,8,9,10,11,12,13,14],(O,.nilc 53 (S 42))),([15,0,1,2,3,4,5,6,7,8,9,10,11,12,13,14],(O,.faddr 54 (S 53) 19)),([16,14,0,1,2,3,4,5,6,7,8,9,10,11,12,13,14],(O,.store (S 54) (KB T) 1))]
def B5f:P (P W × AItem):= [([],(O,.mv 79 (S 0))),([],(O,.mv 80 (S 0))),([],(O,.mv 81 (S 0))),([2],(O,.nilc 82 (S 81))),([3],(O,.faddr 83 (S 82) 14)),([4],(O,.load 84 (S 83) L 1)),([],(O,.load 85 (S 5) T 4)),([6],(O,.bslice 86 4 [.int .i64 0,.int .i64 0,.int .i64 0,.sl []] 1 [(0,(S 85))])),([5,7],(O,.app 87 4 48 (S 84) (S 86))),([],(O,.mv 88 (S 0))),([9],(O,.nilc 89 (S 88))),([10],(O,.faddr 90 (S 89) 15)),([11],(O,.load 91 (S 90) L 1)),([],(O,.mv 92 (S 4))),([13],(O,.bslice 93 1 [.int .i64 0] 1 [(0,(S 92))])),([12,14,8],(O,.app 94 1 8 (S 91) (S 93))),([0,0,2,3,4,5,6,7,8,12,15],(O,.nilc 95 (S 79))),([16,0,2,3,4,5,6,7,8,12,15],(O,.faddr 96 (S 95) 14)),([17,8,15,0,2,3,4,5,6,7,8,12,15],(O,.store (S 96) (S 87) 1)),([1,0,1,2,3,4,5,6,7,8,9,10,11,12,13,14,15,16,17,18],(O,.nilc 97 (S 80))),([19,0,1,2,3,4,5,6,7,8,9,10,11,12,13,14,15,16,17,18],(O,.faddr 98 (S 97) 15)),([20,15,18,0,1,2,3,4,5,6,7,8,9,10,11,12,13,14,15,16,17,18],(O,.store (S 98) (S 94) 1))]
def B5g:P (P W × AItem):= [([],(O,.mv 101 (S 0))),([],(O,.mv 102 (S 0))),([],(O,.mv 103 (S 0))),([2],(O,.nilc 104 (S 103))),([3],(O,.faddr 105 (S 104) 14)),([4],(O,.load 106 (S 105) L 1)),([],(O,.mv 107 (S 3))),([5,6],(O,.slc 108 4 (S 106) O (N (S 107)) O)),([],(O,.mv 109 (S 0))),([8],(O,.nilc 110 (S 109))),([9],(O,.faddr 111 (S 110) 15)),([10],(O,.load 112 (S 111) L 1)),([],(O,.mv 113 (S 3))),([11,12],(O,.slc 114 1 (S 112) O (N (S 113)) O)),([0,0,2,3,4,5,6,7,11],(O,.nilc 115 (S 101))),([14,0,2,3,4,5,6,7,11],(O,.faddr 116 (S 115) 14)),([15,7,0,2,3,4,5,6,7,11],(O,.store (S 116) (S 108) 1)),([1,0,1,2,3,4,5,6,7,8,9,10,11,12,13,14,15,16],(O,.nilc 117 (S 102))),([17,0,1,2,3,4,5,6,7,8,9,10,11,12,13,14,15,16],(O,.faddr 118 (S 117) 15)),([18,13,16,0,1,2,3,4,5,6,7,8,9,10,11,12,13,14,15,16],(O,.store (S 118) (S 114) 1))]
def S0:Hw:=([(8,[0,2],[99999999999,2],[90000,90001,90002]),(21,[0,3,61,62,63],[99999999999],[90000,90001,90002])],[])
abbrev I0(r1:Xk)(c0_ c1_:V)(c2_ c3_:V)(c4_ c5_:V)(c6_ c7_:V)(c8_ c9_:V)(c10_ c12_:V)(c13_ c15_ c16_:V)(bx_:P (W × P AC))(rs_:Rows):St:=⟨[(0,vc (.pb 99999999999 0)),(2,vc (.pb 2 0)),(40,bif c0_ then vc (.pb 99999999999 0) else .undef),(41,bif c1_ then vc (.pb 99999999999 0) else .undef),(42,bif c2_ then vc (.pb 99999999999 0) else .undef),(43,bif c3_ then vc (.pb 99999999999 0) else .undef),(44,bif c4_ then vc (.pb 99999999999 0) else .undef),(45,bif c5_ then vc (.pb 99999999999 15) else .undef),(46,bif c6_ then vc (.own 90001) else .undef),(47,bif c7_ then vc (.own 3008) else .undef),(48,bif c8_ then va [aI r1.i0,aI r1.i1] else .undef),(49,bif c9_ then vc (.pb 99999999999 0) else .undef),(50,bif c10_ then vc (.pb 99999999999 16) else .undef),(51,bif c12_ then vc (.pb 99999999999 0) else .undef),(52,bif c13_ then vc (.pb 99999999999 17) else .undef),(53,bif c15_ then vc (.pb 99999999999 0) else .undef),(54,bif c16_ then vc (.pb 99999999999 19) else .undef)],bx_,rs_⟩
abbrev VW(F_w0:FuncId)(caps_w0:P D)(a0:Xi)(r1:Xk)(r7:(P U)):St:=(I0 r1 T T T T T T T T T T T T T T T [(99999999999,([aI a0.h.Forecast.Tide.Mean,aL (Y zB a0.h.Forecast.Tide.Parts),aL (Y zC a0.h.Forecast.Surges),aL (Y X8.row a0.h.Chart.Points),aL (Y X2.row a0.h.Chart.Segments),aL (Y X4.row a0.h.Fleet),aI a0.h.Regime.Gap,aB a0.h.Regime.NoMeet]++dm a0.h.Crew.row++ [aL (Y (rL X0.row) a0.choices),.dat (.clo F_w0 caps_w0),.own 90000,.own 90001,.own 3008,aI r1.i0,aI r1.i1,aB T])),(2,[aI r1.i0,aI r1.i1])] [(90000,4,Y X0.row a0.plan),(90001,1,Y rI a0.choice),(90002,1,Y rI a0.best),(3008,1,Y rI r7)])
def Fj:=fun(F_w0:FuncId) (caps_w0:P D) (a0:Xi) (r1:Xk) r7 (f:W) (c0:V) (c1:V) (c2:V) (c3:V) (c4:V) (c5:V) (c6:V) (c7:V) (c8:V) (c9:V) (c10:V) (c11:V) (c12:V) (c13:V) (c14:V) (c15:V) (c16:V) (c17:V) c18 c19 c20 c21 c22=>BZ Z B5e (VW F_w0 caps_w0 a0 r1 r7) f [c0,c1,c2,c3,c4,c5,c6,c7,c8,c9,c10,c11,c12,c13,c14,c15,c16,c17] (I0 r1 c0 c1 c2 c3 c4 c5 c6 c7 c8 c9 c10 c12 c13 c15 c16 [(99999999999,([aI a0.h.Forecast.Tide.Mean,aL (Y zB a0.h.Forecast.Tide.Parts),aL (Y zC a0.h.Forecast.Surges),aL (Y X8.row a0.h.Chart.Points),aL (Y X2.row a0.h.Chart.Segments),aL (Y X4.row a0.h.Fleet),aI a0.h.Regime.Gap,aB a0.h.Regime.NoMeet]++dm a0.h.Crew.row++ [aL (Y (rL X0.row) a0.choices),.dat (.clo F_w0 caps_w0),.own 90000,.own 90001,.own c18,aI c19,aI c20,aB c21])),(2,[aI r1.i0,aI r1.i1])] c22)
def Pn:=fun(a0:Xi) r7=>(Ec a0.choice=N r7)∧True
theorem B23{F_w0 caps_w0 a0 r1 r7}(H:Pn a0 r7):∀(f:W) (b15:V),Fj F_w0 caps_w0 a0 r1 r7 f T T T T T T T T T T T T T T T b15 T T 3008 r1.i0 r1.i1 T [(90000,4,Y X0.row a0.plan),(90001,1,Y rI a0.choice),(90002,1,Y rI a0.best),(3008,1,Y rI r7)]:=by
 obtain⟨h7,_⟩:=id H;unfold Fj I0;intro f
 induction f with
 | zero=>
  intro b15 h;obtain rfl:b15=T:=zD.1 h b15 (by simp);rfl
 | succ f ih=>
  intros;refine Ag ⟨?_,?_,?_,?_,?_,?_,?_,?_,?_,?_,?_,?_,?_,?_,?_,?_,?_,?_,⟨⟩⟩<;>try exact gi
theorem B24{F_w0 caps_w0 a0 r1 v5 r7}(H:Pn a0 r7):∀(f:W) (b2 b12:V) (b15 b16:V),Fj F_w0 caps_w0 a0 r1 r7 f T T b2 T T T T T T T T T b12 T T b15 b16 L 3008 r1.i0 r1.i1 v5 [(90000,4,Y X0.row a0.plan),(90001,1,Y rI a0.choice),(90002,1,Y rI a0.best),(3008,1,Y rI r7)]:=by
 obtain⟨hr7,_⟩:=id H;unfold Fj I0;intro f
 induction f with
 | zero=>intros; intro h; simp at h
 | succ f ih=>
  intros;refine Ag ⟨?_,?_,?_,?_,?_,?_,?_,?_,?_,?_,?_,?_,?_,?_,?_,?_,?_,?_,⟨⟩⟩<;>try exact gi
  ·intro h0 hw;obtain rfl:=hq hw 2 rfl rfl;obtain rfl:=hq hw 12 rfl rfl;obtain rfl:=hq hw 16 rfl rfl;refine np ?_;try simp only[A7,A8,A4,C,E,F,G,I,J]
   exact B23 H ..
theorem B25{F_w0 caps_w0 a0 r1 v5 r7}(H:Pn a0 r7):∀(f:W) (b1 b2:V) (b8 b9:V) (b12 b13:V),Fj F_w0 caps_w0 a0 r1 r7 f T b1 b2 T T T T T b8 b9 T T b12 b13 L L L L 3008 a0.least.i0 a0.least.i1 v5 [(90000,4,Y X0.row a0.plan),(90001,1,Y rI a0.choice),(90002,1,Y rI a0.best),(3008,1,Y rI r7)]:=by
 obtain⟨hr7,_⟩:=id H;unfold Fj I0;intro f
 induction f with
 | zero=>intros; intro h; simp at h
 | succ f ih=>
  intros;refine Ag ⟨?_,?_,?_,?_,?_,?_,?_,?_,?_,?_,?_,?_,?_,?_,?_,?_,?_,?_,⟨⟩⟩<;>try exact gi
  ·intro h0 hw;obtain rfl:=hq hw 1 rfl rfl;obtain rfl:=hq hw 8 rfl rfl;obtain rfl:=hq hw 9 rfl rfl;obtain rfl:=hq hw 13 rfl rfl;refine np ?_;try simp only[A7,A8,A4,C,E,F,G,I,J]
   exact B24 H ..
theorem B26{F_w0 caps_w0 a0 r1 v5 r7}(H:Pn a0 r7):∀(f:W) (b0 b1:V) (b2 b3:V) (b4 b5:V) (b8 b9 b10:V),Fj F_w0 caps_w0 a0 r1 r7 f b0 b1 b2 b3 b4 b5 T T b8 b9 b10 L L L L L L L 90002 a0.least.i0 a0.least.i1 v5 [(90000,4,Y X0.row a0.plan),(90001,1,Y rI a0.choice),(90002,1,Y rI a0.best),(3008,1,Y rI r7)]:=by
 obtain⟨hr7,_⟩:=id H;unfold Fj I0;intro f
 induction f with
 | zero=>intros; intro h; simp at h
 | succ f ih=>
  intros;refine Ag ⟨?_,?_,?_,?_,?_,?_,?_,?_,?_,?_,?_,?_,?_,?_,?_,?_,?_,?_,⟨⟩⟩<;>try exact gi
  ·intro h0 hw;obtain rfl:=hq hw 0 rfl rfl;obtain rfl:=hq hw 3 rfl rfl;obtain rfl:=hq hw 4 rfl rfl;obtain rfl:=hq hw 5 rfl rfl;obtain rfl:=hq hw 10 rfl rfl;refine np ?_;try simp only[A7,A8,A4,C,E,F,G,I,J]
   exact B25 H ..
theorem B27{F_w0 caps_w0 a0 r1 v5 r7}(H:Pn a0 r7):∀(f:W) (b0 b1:V) (b2 b3:V) (b4 b5:V) (b6 b8:V),Fj F_w0 caps_w0 a0 r1 r7 f b0 b1 b2 b3 b4 b5 b6 L b8 L L L L L L L L L 90002 a0.least.i0 a0.least.i1 v5 [(90000,4,Y X0.row a0.plan),(90001,1,Y rI a0.choice),(90002,1,Y rI a0.best)]:=by
 obtain⟨hr7,_⟩:=id H;unfold Fj I0;intro f
 induction f with
 | zero=>intros; intro h; simp at h
 | succ f ih=>
  intros;refine Ag ⟨?_,?_,?_,?_,?_,?_,?_,?_,?_,?_,?_,?_,?_,?_,?_,?_,?_,?_,⟨⟩⟩<;>try exact gi
  ·intro h0 hw;obtain rfl:=hq hw 6 rfl rfl;refine np ?_;try simp only[A7,A8,A4,C,E,F,G,I,J]
   refine AT (Ab SS hr7) X (BD X ⟨AN,⟨⟩⟩) (by simp only[St.fresh,zH,zI,D4]; simp[AV.cells,V1.cells,AC.uses]) (uf X) ?_;try simp only[A4,C,E,F,G,I,J]
   exact B26 H ..
abbrev DX(a0:Xi)(x8:P X0)(v9:U)(x19:X0)(wo5_ wo12_:AV)(c0_ c1_:V)(c2_ c3_:V)(c4_ c5_:V)(c6_ c7_:V)(c8_ c9_:V)(c10_ c11_:V)(c12_ c13_:V)(c14_ c15_:V)(c16_ c17_:V)(c19_ c20_:V)(bx_:P (W × P AC))(rs_:Rows):St:=⟨[(0,vc (.pb 99999999999 0)),(3,vc (aI (a0.plan.length:U))),(4,vc (aI v9)),(5,vc (.pb 5 0)),(61,vc (aL (Y X0.row x8))),(62,vc (aI (x8.length:U))),(63,vc (aI v9)),(79,bif c0_ then vc (.pb 99999999999 0) else .undef),(80,bif c1_ then vc (.pb 99999999999 0) else .undef),(81,bif c2_ then vc (.pb 99999999999 0) else .undef),(82,bif c3_ then vc (.pb 99999999999 0) else .undef),(83,bif c4_ then vc (.pb 99999999999 14) else .undef),(84,bif c5_ then wo5_ else .undef),(85,bif c6_ then va (dm x19.row) else .undef),(86,bif c7_ then vc (.own 5504) else .undef),(87,bif c8_ then vc (.own 90000) else .undef),(88,bif c9_ then vc (.pb 99999999999 0) else .undef),(89,bif c10_ then vc (.pb 99999999999 0) else .undef),(90,bif c11_ then vc (.pb 99999999999 15) else .undef),(91,bif c12_ then wo12_ else .undef),(92,bif c13_ then vc (aI v9) else .undef),(93,bif c14_ then vc (.own 5952) else .undef),(94,bif c15_ then vc (.own 90001) else .undef),(95,bif c16_ then vc (.pb 99999999999 0) else .undef),(96,bif c17_ then vc (.pb 99999999999 14) else .undef),(97,bif c19_ then vc (.pb 99999999999 0) else .undef),(98,bif c20_ then vc (.pb 99999999999 15) else .undef)],bx_,rs_⟩
abbrev VX(F_w0:FuncId)(caps_w0:P D)(a0:Xi)(x8:P X0)(v9:U)(v10:X6)(v11:P (P X0))(v12 v13:U)(v14:V)(v15:P X0)(v16 v17:P U)(x19:X0):St:=(DX a0 x8 v9 x19 (vc (.undef)) (vc (.undef)) T T T T T T T T T T T T T T T T T T T T [(99999999999,([aI v10.Forecast.Tide.Mean,aL (Y zB v10.Forecast.Tide.Parts),aL (Y zC v10.Forecast.Surges),aL (Y X8.row v10.Chart.Points),aL (Y X2.row v10.Chart.Segments),aL (Y X4.row v10.Fleet),aI v10.Regime.Gap,aB v10.Regime.NoMeet]++dm v10.Crew.row++ [aL (Y (rL X0.row) v11),.dat (.clo F_w0 caps_w0),.own 90000,.own 90001,.own 90002,aI v12,aI v13,aB v14])),(5,(dm x19.row))] [(90000,4,Y X0.row (v15++([x19]:P X0))),(90001,1,Y rI (v16++([v9]:P U))),(90002,1,Y rI v17),(5504,4,Y X0.row ([x19]:P X0)),(5952,1,Y rI ([v9]:P U))])
def Co:=fun(F_w0:FuncId) (caps_w0:P D) (a0:Xi) (x8:P X0) v9 (v10:X6) v11 v12 v13 v14 (v15:P X0) (v16:P U) v17 x19 (f:W) (c0:V) (c1:V) (c2:V) (c3:V) (c4:V) (c5:V) (c6:V) (c7:V) (c8:V) (c9:V) (c10:V) (c11:V) (c12:V) (c13:V) (c14:V) (c15:V) (c16:V) (c17:V) (c18:V) (c19:V) (c20:V) (c21:V) c22 c23 c24 c25 c26=>BZ Z B5f (VX F_w0 caps_w0 a0 x8 v9 v10 v11 v12 v13 v14 v15 v16 v17 x19) f [c0,c1,c2,c3,c4,c5,c6,c7,c8,c9,c10,c11,c12,c13,c14,c15,c16,c17,c18,c19,c20,c21] (DX a0 x8 v9 x19 (vc ((c22))) (vc ((c23))) c0 c1 c2 c3 c4 c5 c6 c7 c8 c9 c10 c11 c12 c13 c14 c15 c16 c17 c19 c20 [(99999999999,([aI v10.Forecast.Tide.Mean,aL (Y zB v10.Forecast.Tide.Parts),aL (Y zC v10.Forecast.Surges),aL (Y X8.row v10.Chart.Points),aL (Y X2.row v10.Chart.Segments),aL (Y X4.row v10.Fleet),aI v10.Regime.Gap,aB v10.Regime.NoMeet]++dm v10.Crew.row++ [aL (Y (rL X0.row) v11),.dat (.clo F_w0 caps_w0),(c24),(c25),.own 90002,aI v12,aI v13,aB v14])),(5,(dm x19.row))] c26)
def Gc:=fun v9 (v15:P X0) (v16:P U) x19=>((Ad v15.length ([x19]:P X0).length 48)=T)∧((Ad v16.length ([v9]:P U).length 8)=T)
theorem B28{F_w0 caps_w0 a0 x8 v9 v10 v11 v12 v13 v14 v15 v16 v17 x19}(H:Gc v9 v15 v16 x19):∀(f:W) (b19:V),Co F_w0 caps_w0 a0 x8 v9 v10 v11 v12 v13 v14 v15 v16 v17 x19 f T T T T T T T T T T T T T T T T T T T b19 T T .undef .undef (.own 90000) (.own 90001) [(90000,4,Y X0.row (v15++([x19]:P X0))),(90001,1,Y rI (v16++([v9]:P U))),(90002,1,Y rI v17),(5504,4,Y X0.row ([x19]:P X0)),(5952,1,Y rI ([v9]:P U))]:=by
 obtain⟨h22,h23⟩:=id H;unfold Co DX;intro f
 induction f with
 | zero=>
  intro b19 h;obtain rfl:b19=T:=zD.1 h b19 (by simp);rfl
 | succ f ih=>
  intros;refine Ag ⟨?_,?_,?_,?_,?_,?_,?_,?_,?_,?_,?_,?_,?_,?_,?_,?_,?_,?_,?_,?_,?_,?_,⟨⟩⟩<;>try exact gi
theorem B29{F_w0 caps_w0 a0 x8 v9 v10 v11 v12 v13 v14 v15 v16 v17 x19}(H:Gc v9 v15 v16 x19):∀(f:W) (b1 b9:V) (b10 b11:V) (b16 b19 b20:V),Co F_w0 caps_w0 a0 x8 v9 v10 v11 v12 v13 v14 v15 v16 v17 x19 f T b1 T T T T T T T b9 b10 b11 T T T T b16 T T b19 b20 L .undef .undef (.own 90000) .undef [(90000,4,Y X0.row (v15++([x19]:P X0))),(90001,1,Y rI (v16++([v9]:P U))),(90002,1,Y rI v17),(5504,4,Y X0.row ([x19]:P X0)),(5952,1,Y rI ([v9]:P U))]:=by
 obtain⟨hg22,hg23⟩:=id H;unfold Co DX;intro f
 induction f with
 | zero=>intros; intro h; simp at h
 | succ f ih=>
  intros;refine Ag ⟨?_,?_,?_,?_,?_,?_,?_,?_,?_,?_,?_,?_,?_,?_,?_,?_,?_,?_,?_,?_,?_,?_,⟨⟩⟩<;>try exact gi
  ·intro h0 hw;obtain rfl:=hq hw 1 rfl rfl;obtain rfl:=hq hw 9 rfl rfl;obtain rfl:=hq hw 10 rfl rfl;obtain rfl:=hq hw 11 rfl rfl;obtain rfl:=hq hw 16 rfl rfl;obtain rfl:=hq hw 20 rfl rfl;refine np ?_;try simp only[A7,A8,A4,C,E,F,G,I,J]
   exact B28 H ..
theorem B3a{F_w0 caps_w0 a0 x8 v9 v10 v11 v12 v13 v14 v15 v16 v17 x19}(H:Gc v9 v15 v16 x19):∀(f:W) (b0 b1:V) (b2 b3:V) (b4 b9:V) (b10 b11:V) (b16 b17:V),Co F_w0 caps_w0 a0 x8 v9 v10 v11 v12 v13 v14 v15 v16 v17 x19 f b0 b1 b2 b3 b4 T T T T b9 b10 b11 T T T T b16 b17 L L L L .undef .undef .undef .undef [(90000,4,Y X0.row (v15++([x19]:P X0))),(90001,1,Y rI (v16++([v9]:P U))),(90002,1,Y rI v17),(5504,4,Y X0.row ([x19]:P X0)),(5952,1,Y rI ([v9]:P U))]:=by
 obtain⟨hg22,hg23⟩:=id H;unfold Co DX;intro f
 induction f with
 | zero=>intros; intro h; simp at h
 | succ f ih=>
  intros;refine Ag ⟨?_,?_,?_,?_,?_,?_,?_,?_,?_,?_,?_,?_,?_,?_,?_,?_,?_,?_,?_,?_,?_,?_,⟨⟩⟩<;>try exact gi
  ·intro h0 hw;obtain rfl:=hq hw 0 rfl rfl;obtain rfl:=hq hw 2 rfl rfl;obtain rfl:=hq hw 3 rfl rfl;obtain rfl:=hq hw 4 rfl rfl;obtain rfl:=hq hw 17 rfl rfl;refine np ?_;try simp only[A7,A8,A4,C,E,F,G,I,J]
   exact B29 H ..
theorem fg{F_w0 caps_w0 a0 x8 v9 v10 v11 v12 v13 v14 v15 v16 v17 x19}(H:Gc v9 v15 v16 x19):∀(f:W) (b0 b1:V) (b2 b3:V) (b4 b9:V) (b10 b11 b12:V),Co F_w0 caps_w0 a0 x8 v9 v10 v11 v12 v13 v14 v15 v16 v17 x19 f b0 b1 b2 b3 b4 T T T T b9 b10 b11 b12 T T L L L L L L L .undef (.own 90001) .undef (.own 90001) [(90000,4,Y X0.row (v15++([x19]:P X0))),(90001,1,Y rI v16),(90002,1,Y rI v17),(5504,4,Y X0.row ([x19]:P X0)),(5952,1,Y rI ([v9]:P U))]:=by
 obtain⟨hg22,hg23⟩:=id H;unfold Co DX;intro f
 induction f with
 | zero=>intros; intro h; simp at h
 | succ f ih=>
  intros;refine Ag ⟨?_,?_,?_,?_,?_,?_,?_,?_,?_,?_,?_,?_,?_,?_,?_,?_,?_,?_,?_,?_,?_,?_,⟨⟩⟩<;>try exact gi
  ·intro h0 hw;obtain rfl:=hq hw 12 rfl rfl;refine np ?_;try simp only[hg23,A7,A8,A4,C,E,F,G,I,J]
   exact B3a H ..
theorem B3b{F_w0 caps_w0 a0 x8 v9 v10 v11 v12 v13 v14 v15 v16 v17 x19}(H:Gc v9 v15 v16 x19):∀(f:W) (b0 b1:V) (b2 b3:V) (b4 b9:V) (b10 b11:V) (b12 b13:V),Co F_w0 caps_w0 a0 x8 v9 v10 v11 v12 v13 v14 v15 v16 v17 x19 f b0 b1 b2 b3 b4 T T T T b9 b10 b11 b12 b13 L L L L L L L L .undef (.own 90001) .undef (.own 90001) [(90000,4,Y X0.row (v15++([x19]:P X0))),(90001,1,Y rI v16),(90002,1,Y rI v17),(5504,4,Y X0.row ([x19]:P X0))]:=by
 obtain⟨hg22,hg23⟩:=id H;unfold Co DX;intro f
 induction f with
 | zero=>intros; intro h; simp at h
 | succ f ih=>
  intros;refine Ag ⟨?_,?_,?_,?_,?_,?_,?_,?_,?_,?_,?_,?_,?_,?_,?_,?_,?_,?_,?_,?_,?_,?_,⟨⟩⟩<;>try exact gi
  ·intro h0 hw;obtain rfl:=hq hw 13 rfl rfl;refine np ?_;try simp only[A7,A8,A4,C,E,F,G,I,J]
   refine Au (Y rI ([v9]:P U)) ?_;try simp only[A4,C,E,F,G,I,J]
   exact fg H ..
theorem fh{F_w0 caps_w0 a0 x8 v9 v10 v11 v12 v13 v14 v15 v16 v17 x19}(H:Gc v9 v15 v16 x19):∀(f:W) (b0 b1:V) (b2 b3:V) (b4 b5:V) (b9 b10:V) (b11 b12:V),Co F_w0 caps_w0 a0 x8 v9 v10 v11 v12 v13 v14 v15 v16 v17 x19 f b0 b1 b2 b3 b4 b5 T T L b9 b10 b11 b12 T T L L L L L L L (.own 90000) (.own 90001) (.own 90000) (.own 90001) [(90000,4,Y X0.row v15),(90001,1,Y rI v16),(90002,1,Y rI v17),(5504,4,Y X0.row ([x19]:P X0)),(5952,1,Y rI ([v9]:P U))]:=by
 obtain⟨hg22,hg23⟩:=id H;unfold Co DX;intro f
 induction f with
 | zero=>intros; intro h; simp at h
 | succ f ih=>
  intros;refine Ag ⟨?_,?_,?_,?_,?_,?_,?_,?_,?_,?_,?_,?_,?_,?_,?_,?_,?_,?_,?_,?_,?_,?_,⟨⟩⟩<;>try exact gi
  ·intro h0 hw;obtain rfl:=hq hw 5 rfl rfl;refine np ?_;try simp only[hg22,A7,A8,A4,C,E,F,G,I,J]
   exact fg H ..
theorem B3c{F_w0 caps_w0 a0 x8 v9 v10 v11 v12 v13 v14 v15 v16 v17 x19}(H:Gc v9 v15 v16 x19):∀(f:W) (b0 b1:V) (b2 b3:V) (b4 b5:V) (b9 b10:V) (b11 b12 b13:V),Co F_w0 caps_w0 a0 x8 v9 v10 v11 v12 v13 v14 v15 v16 v17 x19 f b0 b1 b2 b3 b4 b5 T T L b9 b10 b11 b12 b13 L L L L L L L L (.own 90000) (.own 90001) (.own 90000) (.own 90001) [(90000,4,Y X0.row v15),(90001,1,Y rI v16),(90002,1,Y rI v17),(5504,4,Y X0.row ([x19]:P X0))]:=by
 obtain⟨hg22,hg23⟩:=id H;unfold Co DX;intro f
 induction f with
 | zero=>intros; intro h; simp at h
 | succ f ih=>
  intros;refine Ag ⟨?_,?_,?_,?_,?_,?_,?_,?_,?_,?_,?_,?_,?_,?_,?_,?_,?_,?_,?_,?_,?_,?_,⟨⟩⟩<;>try exact gi
  ·intro h0 hw;obtain rfl:=hq hw 5 rfl rfl;refine np ?_;try simp only[hg22,A7,A8,A4,C,E,F,G,I,J]
   exact B3b H ..
  ·intro h0 hw;obtain rfl:=hq hw 13 rfl rfl;refine np ?_;try simp only[A7,A8,A4,C,E,F,G,I,J]
   refine Au (Y rI ([v9]:P U)) ?_;try simp only[A4,C,E,F,G,I,J]
   exact fh H ..
theorem B3d{F_w0 caps_w0 a0 x8 v9 v10 v11 v12 v13 v14 v15 v16 v17 x19}(H:Gc v9 v15 v16 x19):∀(f:W) (b0 b1:V) (b2 b3:V) (b4 b5:V) (b6 b9:V) (b10 b11 b12:V),Co F_w0 caps_w0 a0 x8 v9 v10 v11 v12 v13 v14 v15 v16 v17 x19 f b0 b1 b2 b3 b4 b5 b6 L L b9 b10 b11 b12 T T L L L L L L L (.own 90000) (.own 90001) (.own 90000) (.own 90001) [(90000,4,Y X0.row v15),(90001,1,Y rI v16),(90002,1,Y rI v17),(5952,1,Y rI ([v9]:P U))]:=by
 obtain⟨hg22,hg23⟩:=id H;unfold Co DX;intro f
 induction f with
 | zero=>intros; intro h; simp at h
 | succ f ih=>
  intros;refine Ag ⟨?_,?_,?_,?_,?_,?_,?_,?_,?_,?_,?_,?_,?_,?_,?_,?_,?_,?_,?_,?_,?_,?_,⟨⟩⟩<;>try exact gi
  ·intro h0 hw;obtain rfl:=hq hw 6 rfl rfl;refine kp [0,3,4,5,61,62,63,79,80,81,82,83,84,85,86,87,88,89,90,91,92,93,94,95,96,97,98] [99999999999,5] [90000,90001,90002,5504,5952] ?_;try simp only[A7,A8,zF,zE,A4,C,E,F,G,I,J]
   refine Au (Y X0.row ([x19]:P X0)) ?_;try simp only[A4,C,E,F,G,I,J]
   exact fh H ..
theorem B3e{F_w0 caps_w0 a0 x8 v9 v10 v11 v12 v13 v14 v15 v16 v17 x19}(H:Gc v9 v15 v16 x19):∀(f:W) (b0 b1:V) (b2 b3:V) (b4 b5:V) (b6 b9:V) (b10 b11:V) (b12 b13:V),Co F_w0 caps_w0 a0 x8 v9 v10 v11 v12 v13 v14 v15 v16 v17 x19 f b0 b1 b2 b3 b4 b5 b6 L L b9 b10 b11 b12 b13 L L L L L L L L (.own 90000) (.own 90001) (.own 90000) (.own 90001) [(90000,4,Y X0.row v15),(90001,1,Y rI v16),(90002,1,Y rI v17)]:=by
 obtain⟨hg22,hg23⟩:=id H;unfold Co DX;intro f
 induction f with
 | zero=>intros; intro h; simp at h
 | succ f ih=>
  intros;refine Ag ⟨?_,?_,?_,?_,?_,?_,?_,?_,?_,?_,?_,?_,?_,?_,?_,?_,?_,?_,?_,?_,?_,?_,⟨⟩⟩<;>try exact gi
  ·intro h0 hw;obtain rfl:=hq hw 6 rfl rfl;refine np ?_;try simp only[A7,A8,A4,C,E,F,G,I,J]
   refine Au (Y X0.row ([x19]:P X0)) ?_;try simp only[A4,C,E,F,G,I,J]
   exact B3c H ..
  ·intro h0 hw;obtain rfl:=hq hw 13 rfl rfl;refine np ?_;try simp only[A7,A8,A4,C,E,F,G,I,J]
   refine Au (Y rI ([v9]:P U)) ?_;try simp only[A4,C,E,F,G,I,J]
   exact B3d H ..
abbrev Fa(a0:Xi)(x8:P X0)(v9:U)(wo5_ wo11_:AV)(c0_ c1_:V)(c2_ c3_:V)(c4_ c5_:V)(c6_ c7_:V)(c8_ c9_:V)(c10_ c11_:V)(c12_ c13_:V)(c14_ c15_:V)(c17_ c18_:V)(bx_:P (W × P AC))(rs_:Rows):St:=⟨[(0,vc (.pb 99999999999 0)),(3,vc (aI (a0.plan.length:U))),(61,vc (aL (Y X0.row x8))),(62,vc (aI (x8.length:U))),(63,vc (aI v9)),(101,bif c0_ then vc (.pb 99999999999 0) else .undef),(102,bif c1_ then vc (.pb 99999999999 0) else .undef),(103,bif c2_ then vc (.pb 99999999999 0) else .undef),(104,bif c3_ then vc (.pb 99999999999 0) else .undef),(105,bif c4_ then vc (.pb 99999999999 14) else .undef),(106,bif c5_ then wo5_ else .undef),(107,bif c6_ then vc (aI (a0.plan.length:U)) else .undef),(108,bif c7_ then vc (.own 90000) else .undef),(109,bif c8_ then vc (.pb 99999999999 0) else .undef),(110,bif c9_ then vc (.pb 99999999999 0) else .undef),(111,bif c10_ then vc (.pb 99999999999 15) else .undef),(112,bif c11_ then wo11_ else .undef),(113,bif c12_ then vc (aI (a0.plan.length:U)) else .undef),(114,bif c13_ then vc (.own 90001) else .undef),(115,bif c14_ then vc (.pb 99999999999 0) else .undef),(116,bif c15_ then vc (.pb 99999999999 14) else .undef),(117,bif c17_ then vc (.pb 99999999999 0) else .undef),(118,bif c18_ then vc (.pb 99999999999 15) else .undef)],bx_,rs_⟩
abbrev VY(F_w0:FuncId)(caps_w0:P D)(a0:Xi)(x8:P X0)(v9:U)(r24:Xi)(p25 p26:W × W):St:=(Fa a0 x8 v9 (vc (.undef)) (vc (.undef)) T T T T T T T T T T T T T T T T T T [(99999999999,([aI r24.h.Forecast.Tide.Mean,aL (Y zB r24.h.Forecast.Tide.Parts),aL (Y zC r24.h.Forecast.Surges),aL (Y X8.row r24.h.Chart.Points),aL (Y X2.row r24.h.Chart.Segments),aL (Y X4.row r24.h.Fleet),aI r24.h.Regime.Gap,aB r24.h.Regime.NoMeet]++dm r24.h.Crew.row++ [aL (Y (rL X0.row) r24.choices),.dat (.clo F_w0 caps_w0),.own 90000,.own 90001,.own 90002,aI r24.least.i0,aI r24.least.i1,aB r24.found]))] [(90000,4,Y X0.row (r24.plan.take p25.2)),(90001,1,Y rI (r24.choice.take p26.2)),(90002,1,Y rI r24.best)])
def Dh:=fun(F_w0:FuncId) (caps_w0:P D) (a0:Xi) (x8:P X0) (v9:U) (r24:Xi) p25 p26 (f:W) (c0:V) (c1:V) (c2:V) (c3:V) (c4:V) (c5:V) (c6:V) (c7:V) (c8:V) (c9:V) (c10:V) (c11:V) (c12:V) (c13:V) (c14:V) (c15:V) (c16:V) (c17:V) (c18:V) (c19:V) c20 c21 c22 c23 c24 c25=>BZ Z B5g (VY F_w0 caps_w0 a0 x8 v9 r24 p25 p26) f [c0,c1,c2,c3,c4,c5,c6,c7,c8,c9,c10,c11,c12,c13,c14,c15,c16,c17,c18,c19] (Fa a0 x8 v9 (vc ((c20))) (vc ((c21))) c0 c1 c2 c3 c4 c5 c6 c7 c8 c9 c10 c11 c12 c13 c14 c15 c17 c18 [(99999999999,([aI r24.h.Forecast.Tide.Mean,aL (Y zB r24.h.Forecast.Tide.Parts),aL (Y zC r24.h.Forecast.Surges),aL (Y X8.row r24.h.Chart.Points),aL (Y X2.row r24.h.Chart.Segments),aL (Y X4.row r24.h.Fleet),aI r24.h.Regime.Gap,aB r24.h.Regime.NoMeet]++dm r24.h.Crew.row++ [aL (Y (rL X0.row) r24.choices),.dat (.clo F_w0 caps_w0),(c22),(c23),.own 90002,aI r24.least.i0,aI r24.least.i1,aB r24.found]))] [(90000,4,Y X0.row c24),(90001,1,Y rI c25),(90002,1,Y rI r24.best)])
def JW:=fun(a0:Xi) (r24:Xi) p25 p26=>(bnd (r24.plan.length:U) (a0.plan.length:U) 0 r24.plan.length=N p25)∧(bnd (r24.choice.length:U) (a0.plan.length:U) 0 r24.choice.length=N p26)
theorem B3f{F_w0 caps_w0 a0 x8 v9 r24 p25 p26}(H:JW a0 r24 p25 p26):∀(f:W) (b17:V),Dh F_w0 caps_w0 a0 x8 v9 r24 p25 p26 f T T T T T T T T T T T T T T T T T b17 T T .undef .undef (.own 90000) (.own 90001) (r24.plan.take p25.2) (r24.choice.take p26.2):=by
 obtain⟨h25,h26⟩:=id H;unfold Dh Fa;intro f
 induction f with
 | zero=>
  intro b17 h;obtain rfl:b17=T:=zD.1 h b17 (by simp);rfl
 | succ f ih=>
  intros;refine Ag ⟨?_,?_,?_,?_,?_,?_,?_,?_,?_,?_,?_,?_,?_,?_,?_,?_,?_,?_,?_,?_,⟨⟩⟩<;>try exact gi
theorem fi{F_w0 caps_w0 a0 x8 v9 r24 p25 p26}(H:JW a0 r24 p25 p26):∀(f:W) (b1 b8:V) (b9 b10:V) (b14 b17 b18:V),Dh F_w0 caps_w0 a0 x8 v9 r24 p25 p26 f T b1 T T T T T T b8 b9 b10 T T T b14 T T b17 b18 L .undef .undef (.own 90000) .undef (r24.plan.take p25.2) (r24.choice.take p26.2):=by
 obtain⟨hp25,hp26⟩:=id H;unfold Dh Fa;intro f
 induction f with
 | zero=>intros; intro h; simp at h
 | succ f ih=>
  intros;refine Ag ⟨?_,?_,?_,?_,?_,?_,?_,?_,?_,?_,?_,?_,?_,?_,?_,?_,?_,?_,?_,?_,⟨⟩⟩<;>try exact gi
  ·intro h0 hw;obtain rfl:=hq hw 1 rfl rfl;obtain rfl:=hq hw 8 rfl rfl;obtain rfl:=hq hw 9 rfl rfl;obtain rfl:=hq hw 10 rfl rfl;obtain rfl:=hq hw 14 rfl rfl;obtain rfl:=hq hw 18 rfl rfl;refine np ?_;try simp only[A7,A8,A4,C,E,F,G,I,J]
   exact B3f H ..
theorem fj{F_w0 caps_w0 a0 x8 v9 r24 p25 p26}(H:JW a0 r24 p25 p26):∀(f:W) (b0 b1:V) (b2 b3:V) (b4 b8:V) (b9 b10:V) (b14 b15:V),Dh F_w0 caps_w0 a0 x8 v9 r24 p25 p26 f b0 b1 b2 b3 b4 T T T b8 b9 b10 T T T b14 b15 L L L L .undef .undef .undef .undef (r24.plan.take p25.2) (r24.choice.take p26.2):=by
 obtain⟨hp25,hp26⟩:=id H;unfold Dh Fa;intro f
 induction f with
 | zero=>intros; intro h; simp at h
 | succ f ih=>
  intros;refine Ag ⟨?_,?_,?_,?_,?_,?_,?_,?_,?_,?_,?_,?_,?_,?_,?_,?_,?_,?_,?_,?_,⟨⟩⟩<;>try exact gi
  ·intro h0 hw;obtain rfl:=hq hw 0 rfl rfl;obtain rfl:=hq hw 2 rfl rfl;obtain rfl:=hq hw 3 rfl rfl;obtain rfl:=hq hw 4 rfl rfl;obtain rfl:=hq hw 15 rfl rfl;refine np ?_;try simp only[A7,A8,A4,C,E,F,G,I,J]
   exact fi H ..
theorem B3h{F_w0 caps_w0 a0 x8 v9 r24 p25 p26}(H:JW a0 r24 p25 p26):∀(f:W) (b1 b8:V) (b9 b10:V) (b12 b14:V),Dh F_w0 caps_w0 a0 x8 v9 r24 p25 p26 f T b1 T T T T T T b8 b9 b10 T b12 L b14 T T L L L .undef (.own 90001) (.own 90000) (.own 90001) (r24.plan.take p25.2) r24.choice:=by
 obtain⟨hp25,hp26⟩:=id H;unfold Dh Fa;intro f
 induction f with
 | zero=>intros; intro h; simp at h
 | succ f ih=>
  intros;refine Ag ⟨?_,?_,?_,?_,?_,?_,?_,?_,?_,?_,?_,?_,?_,?_,?_,?_,?_,?_,?_,?_,⟨⟩⟩<;>try exact gi
  ·intro h0 hw;obtain rfl:=hq hw 12 rfl rfl;refine⟨[],[(O,.cut 114)],X,X,?_⟩;try simp only[A7,A8,zF,zE,A4,C,E,F,G,I,J]
   refine Ga X X hp26 (by rfl) ?_;try simp only[A4,C,E,F,G,I,J]
   exact fi H ..
theorem B3i{F_w0 caps_w0 a0 x8 v9 r24 p25 p26}(H:JW a0 r24 p25 p26):∀(f:W) (b0 b1:V) (b2 b3:V) (b4 b8:V) (b9 b10:V) (b11 b12:V) (b14 b15:V),Dh F_w0 caps_w0 a0 x8 v9 r24 p25 p26 f b0 b1 b2 b3 b4 T T T b8 b9 b10 b11 b12 L b14 b15 L L L L .undef (.own 90001) .undef (.own 90001) (r24.plan.take p25.2) r24.choice:=by
 obtain⟨hp25,hp26⟩:=id H;unfold Dh Fa;intro f
 induction f with
 | zero=>intros; intro h; simp at h
 | succ f ih=>
  intros;refine Ag ⟨?_,?_,?_,?_,?_,?_,?_,?_,?_,?_,?_,?_,?_,?_,?_,?_,?_,?_,?_,?_,⟨⟩⟩<;>try exact gi
  ·intro h0 hw;obtain rfl:=hq hw 11 rfl rfl;obtain rfl:=hq hw 12 rfl rfl;refine⟨[],[(O,.cut 114)],X,X,?_⟩;try simp only[A7,A8,zF,zE,A4,C,E,F,G,I,J]
   refine Ga X X hp26 (by rfl) ?_;try simp only[A4,C,E,F,G,I,J]
   exact fj H ..
  ·intro h0 hw;obtain rfl:=hq hw 0 rfl rfl;obtain rfl:=hq hw 2 rfl rfl;obtain rfl:=hq hw 3 rfl rfl;obtain rfl:=hq hw 4 rfl rfl;obtain rfl:=hq hw 11 rfl rfl;obtain rfl:=hq hw 15 rfl rfl;refine np ?_;try simp only[A7,A8,A4,C,E,F,G,I,J]
   exact B3h H ..
theorem B3j{F_w0 caps_w0 a0 x8 v9 r24 p25 p26}(H:JW a0 r24 p25 p26):∀(f:W) (b0 b1:V) (b2 b3:V) (b4 b5:V) (b6 b8:V) (b9 b10:V),Dh F_w0 caps_w0 a0 x8 v9 r24 p25 p26 f b0 b1 b2 b3 b4 b5 b6 L b8 b9 b10 T T T L L L L L L (.own 90000) .undef (.own 90000) .undef r24.plan (r24.choice.take p26.2):=by
 obtain⟨hp25,hp26⟩:=id H;unfold Dh Fa;intro f
 induction f with
 | zero=>intros; intro h; simp at h
 | succ f ih=>
  intros;refine Ag ⟨?_,?_,?_,?_,?_,?_,?_,?_,?_,?_,?_,?_,?_,?_,?_,?_,?_,?_,?_,?_,⟨⟩⟩<;>try exact gi
  ·intro h0 hw;obtain rfl:=hq hw 5 rfl rfl;obtain rfl:=hq hw 6 rfl rfl;refine⟨[],[(O,.cut 108)],X,X,?_⟩;try simp only[A7,A8,zF,zE,A4,C,E,F,G,I,J]
   refine Ga X X hp25 (by rfl) ?_;try simp only[A4,C,E,F,G,I,J]
   exact fj H ..
theorem B3k{F_w0 caps_w0 a0 x8 v9 r24 p25 p26}(H:JW a0 r24 p25 p26):∀(f:W) (b0 b1:V) (b2 b3:V) (b4 b5:V) (b6 b8:V) (b9 b10:V) (b11 b12:V),Dh F_w0 caps_w0 a0 x8 v9 r24 p25 p26 f b0 b1 b2 b3 b4 b5 b6 L b8 b9 b10 b11 b12 L L L L L L L (.own 90000) (.own 90001) (.own 90000) (.own 90001) r24.plan r24.choice:=by
 obtain⟨hp25,hp26⟩:=id H;unfold Dh Fa;intro f
 induction f with
 | zero=>intros; intro h; simp at h
 | succ f ih=>
  intros;refine Ag ⟨?_,?_,?_,?_,?_,?_,?_,?_,?_,?_,?_,?_,?_,?_,?_,?_,?_,?_,?_,?_,⟨⟩⟩<;>try exact gi
  ·intro h0 hw;obtain rfl:=hq hw 5 rfl rfl;obtain rfl:=hq hw 6 rfl rfl;refine⟨[],[(O,.cut 108)],X,X,?_⟩;try simp only[A7,A8,zF,zE,A4,C,E,F,G,I,J]
   refine Ga X X hp25 (by rfl) ?_;try simp only[A4,C,E,F,G,I,J]
   exact B3i H ..
  ·intro h0 hw;obtain rfl:=hq hw 11 rfl rfl;obtain rfl:=hq hw 12 rfl rfl;refine⟨[],[(O,.cut 114)],X,X,?_⟩;try simp only[A7,A8,zF,zE,A4,C,E,F,G,I,J]
   refine Ga X X hp26 (by rfl) ?_;try simp only[A4,C,E,F,G,I,J]
   exact B3j H ..
def iY:=fun F_w0 caps_w0 (a0:Xi) x8 (k_:U→X6→(P (P X0))→U→U→V→(P X0)→(P U)→(P U)→Q Xi)=>∀{v9 v10 v11 v12 v13 v14 v15 v16 v17} {zr},k_ v9 v10 v11 v12 v13 v14 v15 v16 v17=N zr→Kh Z 85 S0 21 [0,3,61,62,63] [99999999999] [90000,90001,90002] ⟨[(0,vc (.pb 99999999999 0)),pI 3 (a0.plan.length:U),pL 61 X0.row x8,pI 62 (x8.length:U),pI 63 v9],[(99999999999,([aI v10.Forecast.Tide.Mean,aM zB v10.Forecast.Tide.Parts,aM zC v10.Forecast.Surges,aM X8.row v10.Chart.Points,aM X2.row v10.Chart.Segments,aM X4.row v10.Fleet,aI v10.Regime.Gap,aB v10.Regime.NoMeet]++dm v10.Crew.row++ [aM (rL X0.row) v11,.dat (.clo F_w0 caps_w0),.own 90000,.own 90001,.own 90002,aI v12,aI v13,aB v14]))],[(90000,4,Y X0.row v15),(90001,1,Y rI v16),(90002,1,Y rI v17)]⟩ (Dj [] [] (Dg F_w0 caps_w0 zr) (Di zr))
def iX:=fun F_w0 caps_w0 (a0:Xi) (r1:Xk) (k_:V→Q Xi)=>∀{v5} {zr},k_ v5=N zr→Kh Z 85 S0 8 [0,2] [99999999999,2] [90000,90001,90002] ⟨[(0,vc (.pb 99999999999 0)),pB 2],[(99999999999,([aI a0.h.Forecast.Tide.Mean,aM zB a0.h.Forecast.Tide.Parts,aM zC a0.h.Forecast.Surges,aM X8.row a0.h.Chart.Points,aM X2.row a0.h.Chart.Segments,aM X4.row a0.h.Fleet,aI a0.h.Regime.Gap,aB a0.h.Regime.NoMeet]++dm a0.h.Crew.row++ [aM (rL X0.row) a0.choices,.dat (.clo F_w0 caps_w0),.own 90000,.own 90001,.own 90002,aI a0.least.i0,aI a0.least.i1,aB v5])),(2,[aI r1.i0,aI r1.i1])],[(90000,4,Y X0.row a0.plan),(90001,1,Y rI a0.choice),(90002,1,Y rI a0.best)]⟩ (Dj [] [] (Dg F_w0 caps_w0 zr) (Di zr))
theorem B3l{w0:(P X0)→Q Xk}{rec_:Xi→Q Xi}{F_w0 caps_w0}(hF_w0:AW Z F_w0=T)(h_w0:∀z0 zr,w0 z0=N zr→FC Z F_w0 ([.sc (.sl (Y X0.row z0))]++caps_w0.map .sc) [.ag [.v (.int .i64 zr.i0),.v (.int .i64 zr.i1)]])(h_rec:∀(a0:Xi) zr,rec_ a0=N zr→FCz Z 85 [.p] (Dg F_w0 caps_w0 a0) (Di a0) (Dg F_w0 caps_w0 zr) (Di zr) []){a0 x8}{n:W}:iY F_w0 caps_w0 a0 x8 (Ef w0 rec_ a0 x8 n):=by
 induction n with
 | zero=>intro _ _ _ _ _ _ _ _ _ r h; cases h
 | succ n ih=>
  intro v9 v10 v11 v12 v13 v14 v15 v16 v17 r h σ hσ S hS;refine ev hS ?_;rw[Ef] at h;refine AB (As ?_);obtain⟨h18,h⟩|⟨h18,h⟩:=ic h
  ·obtain⟨x19,h19,h⟩:=ob h;obtain⟨r20,h20,h⟩:=ob h;refine sg ?_;refine AT (Ab A6t h20) X (B1 X) X (uf X) ?_;refine sg ?_;obtain⟨h21,h⟩|⟨h21,h⟩:=ic h
   ·refine sg ?_;obtain⟨h22,h⟩:=B2 h;obtain⟨h23,h⟩:=B2 h;refine Em (ks:= [0,3,4,5,61,62,63]) (bs:= [99999999999,5]) (rs:= [90000,90001,90002]) (τ:=(VX F_w0 caps_w0 a0 x8 v9 v10 v11 v12 v13 v14 v15 v16 v17 x19)) X (B3e ⟨h22,h23⟩ _ L L L L L L L L L L L L) ?_;simp only[VX,DX,A7];refine sg ?_;refine RL ?_;obtain⟨r24,h24,h⟩:=ob h;refine sg ?_;refine HA (h_rec _ _ h24) 99999999999 [90000,90001,90002] rfl X X X (by decide) X X X ?_;refine sg ?_;obtain⟨p25,h25,h⟩:=ob h;obtain⟨p26,h26,h⟩:=ob h;refine Em (ks:= [0,3,61,62,63]) (bs:= [99999999999]) (rs:= [90000,90001,90002]) (τ:=(VY F_w0 caps_w0 a0 x8 v9 r24 p25 p26)) X (B3k ⟨h25,h26⟩ _ L L L L L L L L L L L L) ?_;simp only[VY,Fa,A7];refine sg ?_;exact ih h sq kr
   ·refine sg ?_;exact ih h sq kr
  ·refine sg ?_;cases h;exact⟨trivial,[90000,90001,90002],by decide,by decide,X,X⟩
theorem fk{w0:(P X0)→Q Xk}{rec_:Xi→Q Xi}{F_w0 caps_w0}(hF_w0:AW Z F_w0=T)(h_w0:∀z0 zr,w0 z0=N zr→FC Z F_w0 ([.sc (.sl (Y X0.row z0))]++caps_w0.map .sc) [.ag [.v (.int .i64 zr.i0),.v (.int .i64 zr.i1)]])(h_rec:∀(a0:Xi) zr,rec_ a0=N zr→FCz Z 85 [.p] (Dg F_w0 caps_w0 a0) (Di a0) (Dg F_w0 caps_w0 zr) (Di zr) []){a0 r1}:iX F_w0 caps_w0 a0 r1 (IM w0 rec_ a0 r1):=by
 intro v5 r h σ hσ S hS;refine ev hS ?_;refine As ?_;unfold IM at h;obtain⟨h6,h⟩|⟨h6,h⟩:=ic h
 ·refine sg ?_;obtain⟨r7,h7,h⟩:=ob h;refine Em (ks:= [0,2]) (bs:= [99999999999,2]) (rs:= [90000,90001,90002]) (τ:=(VW F_w0 caps_w0 a0 r1 r7)) X (B27 ⟨h7,⟨⟩⟩ _ L L L L L L L L) ?_;simp only[VW,I0,A7];refine sg ?_;cases h;exact⟨trivial,[90000,90001,3008],by decide,by decide,X,X⟩
 ·obtain⟨x8,h8,h⟩:=ob h;refine sg ?_;exact B3l hF_w0 h_w0 h_rec h sq kr
theorem qo:AE Z 85=N ((Bp Z 85 S0).strip,[],120):=by kernel_rfl
theorem A6z(w0:(P X0)→Q Xk)(rec_:Xi→Q Xi)(a0 r:Xi)(F_w0:FuncId)(caps_w0:P D)(hF_w0:AW Z F_w0=T)(h_w0:∀z0 zr,w0 z0=N zr→FC Z F_w0 ([.sc (.sl (Y X0.row z0))]++caps_w0.map .sc) [.ag [.v (.int .i64 zr.i0),.v (.int .i64 zr.i1)]])(h_rec:∀(a0:Xi) zr,rec_ a0=N zr→FCz Z 85 [.p] (Dg F_w0 caps_w0 a0) (Di a0) (Dg F_w0 caps_w0 zr) (Di zr) [])(h:NC w0 rec_ a0=N r):FCz Z 85 [.p] (Dg F_w0 caps_w0 a0) (Di a0) (Dg F_w0 caps_w0 r) (Di r) []:=by
 unfold NC at h;refine Qs (σ:=⟨[(0,vc (.pb 99999999999 0))],[(99999999999,[aI a0.h.Forecast.Tide.Mean,aL (Y zB a0.h.Forecast.Tide.Parts),aL (Y zC a0.h.Forecast.Surges),aL (Y X8.row a0.h.Chart.Points),aL (Y X2.row a0.h.Chart.Segments),aL (Y X4.row a0.h.Fleet),aI a0.h.Regime.Gap,aB a0.h.Regime.NoMeet,aI a0.h.Crew.Tugs,aI a0.h.Crew.Pilots,aI a0.h.Crew.Rest,aL (Y rI a0.h.Crew.Moves),aL (Y (rL X0.row) a0.choices),.dat (.clo F_w0 caps_w0),.own 90000,.own 90001,.own 90002,aI a0.least.i0,aI a0.least.i1,aB a0.found])],[(90000,4,Y X0.row a0.plan),(90001,1,Y rI a0.choice),(90002,1,Y rI a0.best)]⟩) A2 qo X X X X ?_;refine Bt S0 ?_;intro S hS;refine ev hS ?_;obtain⟨r1,h1,h⟩:=ob h;refine sg ?_;refine ti (h_w0 _ _ h1) hF_w0 (by first | rfl | kernel_rfl) (by first | rfl | kernel_rfl) (B1 X) X (uf X) ?_;refine sg ?_;refine U6 (m:= .box 2 [aI (0:U),aI (0:U)]) X X (Su X X) ?_;refine sg ?_;obtain⟨h2,h⟩|⟨h2,h⟩:=ic h
 ·obtain⟨r3,h3,h⟩:=ob h;refine sg ?_;refine Pf (by first | rfl | kernel_rfl) ?_;refine AF (Ab A61 h3) ?_;refine sg ?_;obtain⟨h4,h⟩|⟨h4,h⟩:=ic h
  ·refine sg ?_;exact fk hF_w0 h_w0 h_rec h sq kr
  ·refine sg ?_;cases h;exact⟨trivial,[90000,90001,90002],by decide,by decide,X,X⟩
 ·refine sg ?_;refine Pe (by first | rfl | kernel_rfl) X ?_;refine sg ?_;exact fk hF_w0 h_w0 h_rec h sq kr
theorem A60(w0:(P X0)→Q Xk)(F_w0:FuncId)(caps_w0:P D)(hF_w0:AW Z F_w0=T)(h_w0:∀z0 zr,w0 z0=N zr→FC Z F_w0 ([.sc (.sl (Y X0.row z0))]++caps_w0.map .sc) [.ag [.v (.int .i64 zr.i0),.v (.int .i64 zr.i1)]]):∀(n:W) (a0 r:Xi),DG w0 n a0=N r→FCz Z 85 [.p] (Dg F_w0 caps_w0 a0) (Di a0) (Dg F_w0 caps_w0 r) (Di r) []:=by
 intro n
 induction n with
 | zero=>intro _ r h; cases h
 | succ n ih=>intro a0 r h; rw[DG] at h; exact A6z w0 (DG w0 n) a0 r F_w0 caps_w0 hF_w0 h_w0 ih h
theorem A6y{w0}{a0}{r}(F_w0:FuncId)(caps_w0:P D)(hF_w0:AW Z F_w0=T)(h_w0:∀z0 zr,w0 z0=N zr→FC Z F_w0 ([.sc (.sl (Y X0.row z0))]++caps_w0.map .sc) [.ag [.v (.int .i64 zr.i0),.v (.int .i64 zr.i1)]])(h:TW w0 a0=N r):FCz Z 85 [.p] (Dg F_w0 caps_w0 a0) (Di a0) (Dg F_w0 caps_w0 r) (Di r) []:=A60 w0 F_w0 caps_w0 hF_w0 h_w0 bigN a0 r h
def B5c:P (P W × AItem):= [([],(O,.mv 17 (S 9))),([0],(O,.nilc 18 (S 17))),([1],(O,.faddr 19 (S 18) 16)),([2],(O,.load 20 (S 19) L 1)),([],(O,.mv 21 (S 9))),([4],(O,.nilc 22 (S 21))),([5],(O,.faddr 23 (S 22) 17)),([6],(O,.load 24 (S 23) T 2)),([],(O,.mv 25 (S 9))),([8],(O,.nilc 26 (S 25))),([9],(O,.faddr 27 (S 26) 19)),([10],(O,.load 28 (S 27) L 1)),([3,0,1,2,3],(O,.mv 6 (S 20))),([7,12,0,1,2,3,4,5,6,7,12],(O,.store (S 7) (S 24) 2)),([11,13,0,1,2,3,4,5,6,7,8,9,10,11,12,13],(O,.mv 8 (S 28)))]
def vA:Hw:=([],[(3,5,(O,.ownb 14 14 143232 4)),(3,6,(O,.ownb 14 15 143296 1)),(3,7,(O,.ownb 14 16 143360 1))])
abbrev Qb(r1:Xi)(c0_ c1_:V)(c2_ c3_:V)(c4_ c5_:V)(c6_ c7_:V)(c8_ c9_:V)(c10_ c11_:V)(c12_ c14_:V)(bx_:P (W × P AC))(rs_:Rows):St:=⟨[(7,vc (.pb 7 0)),(9,vc (.pb 14 0)),(17,bif c0_ then vc (.pb 14 0) else .undef),(18,bif c1_ then vc (.pb 14 0) else .undef),(19,bif c2_ then vc (.pb 14 16) else .undef),(20,bif c3_ then vc (.own 143360) else .undef),(21,bif c4_ then vc (.pb 14 0) else .undef),(22,bif c5_ then vc (.pb 14 0) else .undef),(23,bif c6_ then vc (.pb 14 17) else .undef),(24,bif c7_ then va [aI r1.least.i0,aI r1.least.i1] else .undef),(25,bif c8_ then vc (.pb 14 0) else .undef),(26,bif c9_ then vc (.pb 14 0) else .undef),(27,bif c10_ then vc (.pb 14 19) else .undef),(28,bif c11_ then vc (aB r1.found) else .undef),(6,bif c12_ then vc (.own 143360) else .undef),(8,bif c14_ then vc (aB r1.found) else .undef)],bx_,rs_⟩
abbrev VT(F_a2:FuncId)(caps_a2:P D)(r1:Xi):St:=(Qb r1 T T T T T T T T T T T T T T [(7,[aI r1.least.i0,aI r1.least.i1]),(14,([aI r1.h.Forecast.Tide.Mean,aL (Y zB r1.h.Forecast.Tide.Parts),aL (Y zC r1.h.Forecast.Surges),aL (Y X8.row r1.h.Chart.Points),aL (Y X2.row r1.h.Chart.Segments),aL (Y X4.row r1.h.Fleet),aI r1.h.Regime.Gap,aB r1.h.Regime.NoMeet]++dm r1.h.Crew.row++ [aL (Y (rL X0.row) r1.choices),.dat (.clo F_a2 caps_a2),.own 143232,.own 143296,.own 143360,aI r1.least.i0,aI r1.least.i1,aB r1.found]))] [(143232,4,Y X0.row r1.plan),(143296,1,Y rI r1.choice),(143360,1,Y rI r1.best)])
def T2:=fun(F_a2:FuncId) (caps_a2:P D) (r1:Xi) (f:W) (c0:V) (c1:V) (c2:V) (c3:V) (c4:V) (c5:V) (c6:V) (c7:V) (c8:V) (c9:V) (c10:V) (c11:V) (c12:V) (c13:V) (c14:V) c15 c16=>BZ Z B5c (VT F_a2 caps_a2 r1) f [c0,c1,c2,c3,c4,c5,c6,c7,c8,c9,c10,c11,c12,c13,c14] (Qb r1 c0 c1 c2 c3 c4 c5 c6 c7 c8 c9 c10 c11 c12 c14 [(7,[aI c15,aI c16]),(14,([aI r1.h.Forecast.Tide.Mean,aL (Y zB r1.h.Forecast.Tide.Parts),aL (Y zC r1.h.Forecast.Surges),aL (Y X8.row r1.h.Chart.Points),aL (Y X2.row r1.h.Chart.Segments),aL (Y X4.row r1.h.Fleet),aI r1.h.Regime.Gap,aB r1.h.Regime.NoMeet]++dm r1.h.Crew.row++ [aL (Y (rL X0.row) r1.choices),.dat (.clo F_a2 caps_a2),.own 143232,.own 143296,.own 143360,aI r1.least.i0,aI r1.least.i1,aB r1.found]))] [(143232,4,Y X0.row r1.plan),(143296,1,Y rI r1.choice),(143360,1,Y rI r1.best)])
def aP:Prop:=True
theorem B3m{F_a2 caps_a2 r1}(H:aP):∀(f:W) (b8 b9:V) (b10 b11 b14:V),T2 F_a2 caps_a2 r1 f T T T T T T T T b8 b9 b10 b11 T T b14 r1.least.i0 r1.least.i1:=by
 unfold T2 Qb;intro f
 induction f with
 | zero=>
  intro b8 b9 b10 b11 b14 h;obtain rfl:b8=T:=zD.1 h b8 (by simp);obtain rfl:b9=T:=zD.1 h b9 (by simp);obtain rfl:b10=T:=zD.1 h b10 (by simp);obtain rfl:b11=T:=zD.1 h b11 (by simp);obtain rfl:b14=T:=zD.1 h b14 (by simp);rfl
 | succ f ih=>
  intros;refine Ag ⟨?_,?_,?_,?_,?_,?_,?_,?_,?_,?_,?_,?_,?_,?_,?_,⟨⟩⟩<;>try exact gi
theorem B3n{F_a2 caps_a2 r1}(H:aP):∀(f:W) (b0 b1:V) (b2 b3:V) (b4 b5:V) (b6 b7:V) (b8 b9:V) (b10 b11 b12:V),T2 F_a2 caps_a2 r1 f b0 b1 b2 b3 b4 b5 b6 b7 b8 b9 b10 b11 b12 L L (0:U) (0:U):=by
 unfold T2 Qb;intro f
 induction f with
 | zero=>intros; intro h; simp at h
 | succ f ih=>
  intros;refine Ag ⟨?_,?_,?_,?_,?_,?_,?_,?_,?_,?_,?_,?_,?_,?_,?_,⟨⟩⟩<;>try exact gi
  ·intro h0 hw;obtain rfl:=hq hw 0 rfl rfl;obtain rfl:=hq hw 1 rfl rfl;obtain rfl:=hq hw 2 rfl rfl;obtain rfl:=hq hw 3 rfl rfl;obtain rfl:=hq hw 4 rfl rfl;obtain rfl:=hq hw 5 rfl rfl;obtain rfl:=hq hw 6 rfl rfl;obtain rfl:=hq hw 7 rfl rfl;obtain rfl:=hq hw 12 rfl rfl;refine np ?_;try simp only[A7,A8,A4,C,E,F,G,I,J]
   exact B3m H ..
theorem A6w{a0}{a1}{a2}{r}(F_a2:FuncId)(caps_a2:P D)(hF_a2:AW Z F_a2=T)(h_a2:∀z0 zr,a2 z0=N zr→FC Z F_a2 ([.sc (.sl (Y X0.row z0))]++caps_a2.map .sc) [.ag [.v (.int .i64 zr.i0),.v (.int .i64 zr.i1)]])(h:Nz a0 a1 a2=N r):FC Z 39 [.ag (X6.row a0),.sc (.sl (Y (rL X0.row) a1)),.sc (.clo F_a2 caps_a2)] [.sc (.o 1 (Y rI r.1)),.ag [.v (.int .i64 r.2.1.i0),.v (.int .i64 r.2.1.i1)],.sc (.v (.bool r.2.2))]:=by
 unfold Nz at h;refine A3 A2 vA [6,.c 7 T 2,8] 29 ?_;intro S hS;refine ev hS ?_;refine sg ?_;refine G9 (cs':= [aI a0.Forecast.Tide.Mean,aL (Y zB a0.Forecast.Tide.Parts),aL (Y zC a0.Forecast.Surges),aL (Y X8.row a0.Chart.Points),aL (Y X2.row a0.Chart.Segments),aL (Y X4.row a0.Fleet),aI a0.Regime.Gap,aB a0.Regime.NoMeet,aI a0.Crew.Tugs,aI a0.Crew.Pilots,aI a0.Crew.Rest,aL (Y rI a0.Crew.Moves),aL (Y (rL X0.row) a1),.dat (.clo F_a2 caps_a2),.own 143232,.nil,.nil,aI (0:U),aI (0:U),aB L]) X X X X ?_;refine sg ?_;refine G9 (cs':= [aI a0.Forecast.Tide.Mean,aL (Y zB a0.Forecast.Tide.Parts),aL (Y zC a0.Forecast.Surges),aL (Y X8.row a0.Chart.Points),aL (Y X2.row a0.Chart.Segments),aL (Y X4.row a0.Fleet),aI a0.Regime.Gap,aB a0.Regime.NoMeet,aI a0.Crew.Tugs,aI a0.Crew.Pilots,aI a0.Crew.Rest,aL (Y rI a0.Crew.Moves),aL (Y (rL X0.row) a1),.dat (.clo F_a2 caps_a2),.own 143232,.own 143296,.nil,aI (0:U),aI (0:U),aB L]) X X X X ?_;refine sg ?_;refine G9 (cs':= [aI a0.Forecast.Tide.Mean,aL (Y zB a0.Forecast.Tide.Parts),aL (Y zC a0.Forecast.Surges),aL (Y X8.row a0.Chart.Points),aL (Y X2.row a0.Chart.Segments),aL (Y X4.row a0.Fleet),aI a0.Regime.Gap,aB a0.Regime.NoMeet,aI a0.Crew.Tugs,aI a0.Crew.Pilots,aI a0.Crew.Rest,aL (Y rI a0.Crew.Moves),aL (Y (rL X0.row) a1),.dat (.clo F_a2 caps_a2),.own 143232,.own 143296,.own 143360,aI (0:U),aI (0:U),aB L]) X X X X ?_;refine sg ?_;refine RL ?_;obtain⟨r1,h1,h⟩:=ob h;refine sg ?_;refine HA (A6y F_a2 caps_a2 hF_a2 h_a2 h1) 14 [143232,143296,143360] rfl X X X (by decide) X X X ?_;refine sg ?_;refine Em (ks:= [7,9]) (bs:= [7,14]) (rs:= [143232,143296,143360]) (τ:=(VT F_a2 caps_a2 r1)) X (B3n ⟨⟩ _ L L L L L L L L L L L L L) ?_;simp only[VT,Qb,A7];refine sg ?_;cases h;try simp only[Q5,C,E,F,G,I,J]
 trivial
def ZM:Hw:=([(8,[3,6,7,8],[],[])],[])
def gr:=fun a0 (k_:U→U→Q U)=>∀{v1 v2} {zr},k_ v1 v2=N zr→Kh Z 86 ZM 8 [3,6,7,8] [] [] ⟨[pI 3 v1,pL 6 X0.row a0,pI 7 (a0.length:U),pI 8 v2],[],[]⟩ (A5 [2] [.sc (.v (.int .i64 zr))])
theorem B3o{a0}{n:W}:gr a0 (Ip a0 n):=by
 induction n with
 | zero=>intro _ _ r h; cases h
 | succ n ih=>
  intro v1 v2 r h σ hσ;rw[Ip] at h;exact gc
instance B6v:Ct 86 (∀{a0} {r},N0 a0=N r→FC Z 86 [.sc (.sl (Y X0.row a0))] [.sc (.v (.int .i64 r))]):=by
 refine⟨fun h=> ?_⟩;unfold N0 at h;refine A3 A2 ZM [2] 18 ?_;have k0:= @B3o;exact gc
theorem A6l{a0}{r}(h:L0 a0=N r):FC Z 40 [.sc (.sl (Y X0.row a0))] [.ag [.v (.int .i64 r.i0),.v (.int .i64 r.i1)]]:=by
 unfold L0 at h;refine A3 A2 h0 [.c 2 T 2] 6 ?_;exact gc
def ZN:Hw:=([(8,[0,5,9,10,11],[],[512])],[])
def iI:=fun a0 a1 (k_:U→(P X0)→Q (P X0))=>∀{v1 v2} {zr},k_ v1 v2=N zr→Kh Z 41 ZN 8 [0,5,9,10,11] [] [512] ⟨[pL 0 (rL X0.row) a0,pW 5 512,pL 9 rI a1,pI 10 (a1.length:U),pI 11 v1],[],[(512,4,Y X0.row v2)]⟩ (A5 [4] [.sc (.o 4 (Y X0.row zr))])
theorem B3p{a0 a1}{n:W}:iI a0 a1 (DF a0 a1 n):=by
 induction n with
 | zero=>intro _ _ r h; cases h
 | succ n ih=>
  intro v1 v2 r h σ hσ;rw[DF] at h;have s0:=fun(x6:X0)=> @Aw (Y X0.row ([x6]:P X0))
  exact gc
instance B7w:Ct 41 (∀{a0} {a1} {r},IE a0 a1=N r→FC Z 41 [.sc (.sl (Y (rL X0.row) a0)),.sc (.sl (Y rI a1))] [.sc (.o 4 (Y X0.row r))]):=by
 refine⟨fun h=> ?_⟩;unfold IE at h;refine A3 A2 ZN [4] 28 ?_;have s0:= @Aw (Y X0.row ([]:P X0));have k0:= @B3p;exact gc
instance B8i:Ct 137 (∀{a0} {a1} {r},NQ a0 a1=N r→FC Z 137 [.ag (X1.row a0),.ag (X1.row a1)] [.sc (.v (.bool r))]):=by
 refine⟨fun h=> ?_⟩;unfold NQ at h;refine A3 A2 h0 [4] 30 ?_;exact gc
def ZO:Hw:=([(14,[0,1,5],[],[])],[])
def ir:=fun a0 a1 (k_:U→Q V)=>∀{v2} {zr},k_ v2=N zr→Kh Z 87 ZO 14 [0,1,5] [] [] ⟨[pL 0 X1.row a0,pL 1 X1.row a1,pI 5 v2],[],[]⟩ (A5 [4] [.sc (.v (.bool zr))])
theorem B3r{a0 a1}{n:W}:ir a0 a1 (IY a0 a1 n):=by
 induction n with
 | zero=>intro _ r h; cases h
 | succ n ih=>
  intro v2 r h σ hσ;rw[IY] at h;exact gc
instance B8j:Ct 87 (∀{a0} {a1} {r},NR a0 a1=N r→FC Z 87 [.sc (.sl (Y X1.row a0)),.sc (.sl (Y X1.row a1))] [.sc (.v (.bool r))]):=by
 refine⟨fun h=> ?_⟩;unfold NR at h;refine A3 A2 ZO [4] 27 ?_;have k0:= @B3r;exact gc
instance B8f:Ct 42 (∀{a0} {a1} {r},NN a0 a1=N r→FC Z 42 [.ag (X0.row a0),.ag (X0.row a1)] [.sc (.v (.bool r))]):=by
 refine⟨fun h=> ?_⟩;unfold NN at h;refine A3 A2 h0 [4] 26 ?_;exact gc
def ZP:Hw:=([(14,[0,1,5],[],[])],[])
def ip:=fun a0 a1 (k_:U→Q V)=>∀{v2} {zr},k_ v2=N zr→Kh Z 12 ZP 14 [0,1,5] [] [] ⟨[pL 0 X0.row a0,pL 1 X0.row a1,pI 5 v2],[],[]⟩ (A5 [4] [.sc (.v (.bool zr))])
theorem B3s{a0 a1}{n:W}:ip a0 a1 (IW a0 a1 n):=by
 induction n with
 | zero=>intro _ r h; cases h
 | succ n ih=>
  intro v2 r h σ hσ;rw[IW] at h;exact gc
theorem Wa{a0}{a1}{r}(h:H2 a0 a1=N r):FC Z 12 [.sc (.sl (Y X0.row a0)),.sc (.sl (Y X0.row a1))] [.sc (.v (.bool r))]:=by
 unfold H2 at h;refine A3 A2 ZP [4] 27 ?_;have k0:= @B3s;exact gc
instance B8g:Ct 176 (∀{a0} {a1} {r},NO a0 a1=N r→FC Z 176 [.ag (zB a0),.ag (zB a1)] [.sc (.v (.bool r))]):=by
 refine⟨fun h=> ?_⟩;unfold NO at h;refine A3 A2 h0 [4] 20 ?_;exact gc
def ZQ:Hw:=([(14,[0,1,5],[],[])],[])
def iq:=fun a0 a1 (k_:U→Q V)=>∀{v2} {zr},k_ v2=N zr→Kh Z 138 ZQ 14 [0,1,5] [] [] ⟨[pL 0 zB a0,pL 1 zB a1,pI 5 v2],[],[]⟩ (A5 [4] [.sc (.v (.bool zr))])
theorem B3t{a0 a1}{n:W}:iq a0 a1 (IX a0 a1 n):=by
 induction n with
 | zero=>intro _ r h; cases h
 | succ n ih=>
  intro v2 r h σ hσ;rw[IX] at h;exact gc
instance B8h:Ct 138 (∀{a0} {a1} {r},NP a0 a1=N r→FC Z 138 [.sc (.sl (Y zB a0)),.sc (.sl (Y zB a1))] [.sc (.v (.bool r))]):=by
 refine⟨fun h=> ?_⟩;unfold NP at h;refine A3 A2 ZQ [4] 27 ?_;have k0:= @B3t;exact gc
instance B8t:Ct 88 (∀{a0} {a1} {r},R7 a0 a1=N r→FC Z 88 [.ag (Xn.row a0),.ag (Xn.row a1)] [.sc (.v (.bool r))]):=by
 refine⟨fun h=> ?_⟩;unfold R7 at h;refine A3 A2 h0 [4] 16 ?_;exact gc
instance B8r:Ct 139 (∀{a0} {a1} {r},NY a0 a1=N r→FC Z 139 [.ag (zC a0),.ag (zC a1)] [.sc (.v (.bool r))]):=by
 refine⟨fun h=> ?_⟩;unfold NY at h;refine A3 A2 h0 [4] 20 ?_;exact gc
def ZR:Hw:=([(14,[0,1,5],[],[])],[])
def iy:=fun a0 a1 (k_:U→Q V)=>∀{v2} {zr},k_ v2=N zr→Kh Z 89 ZR 14 [0,1,5] [] [] ⟨[pL 0 zC a0,pL 1 zC a1,pI 5 v2],[],[]⟩ (A5 [4] [.sc (.v (.bool zr))])
theorem B3u{a0 a1}{n:W}:iy a0 a1 (J2 a0 a1 n):=by
 induction n with
 | zero=>intro _ r h; cases h
 | succ n ih=>
  intro v2 r h σ hσ;rw[J2] at h;exact gc
instance B8s:Ct 89 (∀{a0} {a1} {r},NZ a0 a1=N r→FC Z 89 [.sc (.sl (Y zC a0)),.sc (.sl (Y zC a1))] [.sc (.v (.bool r))]):=by
 refine⟨fun h=> ?_⟩;unfold NZ at h;refine A3 A2 ZR [4] 27 ?_;have k0:= @B3u;exact gc
instance B8d:Ct 43 (∀{a0} {a1} {r},NK a0 a1=N r→FC Z 43 [.ag (Xe.row a0),.ag (Xe.row a1)] [.sc (.v (.bool r))]):=by
 refine⟨fun h=> ?_⟩;unfold NK at h;refine A3 A2 h0 [4] 17 ?_;exact gc
instance B8k:Ct 140 (∀{a0} {a1} {r},NS a0 a1=N r→FC Z 140 [.ag (X8.row a0),.ag (X8.row a1)] [.sc (.v (.bool r))]):=by
 refine⟨fun h=> ?_⟩;unfold NS at h;refine A3 A2 h0 [4] 15 ?_;exact gc
def ZS:Hw:=([(14,[0,1,5],[],[])],[])
def iu:=fun a0 a1 (k_:U→Q V)=>∀{v2} {zr},k_ v2=N zr→Kh Z 90 ZS 14 [0,1,5] [] [] ⟨[pL 0 X8.row a0,pL 1 X8.row a1,pI 5 v2],[],[]⟩ (A5 [4] [.sc (.v (.bool zr))])
theorem B3v{a0 a1}{n:W}:iu a0 a1 (IZ a0 a1 n):=by
 induction n with
 | zero=>intro _ r h; cases h
 | succ n ih=>
  intro v2 r h σ hσ;rw[IZ] at h;exact gc
instance B8l:Ct 90 (∀{a0} {a1} {r},NT a0 a1=N r→FC Z 90 [.sc (.sl (Y X8.row a0)),.sc (.sl (Y X8.row a1))] [.sc (.v (.bool r))]):=by
 refine⟨fun h=> ?_⟩;unfold NT at h;refine A3 A2 ZS [4] 27 ?_;have k0:= @B3v;exact gc
instance B8n:Ct 141 (∀{a0} {a1} {r},NU a0 a1=N r→FC Z 141 [.ag (X2.row a0),.ag (X2.row a1)] [.sc (.v (.bool r))]):=by
 refine⟨fun h=> ?_⟩;unfold NU at h;refine A3 A2 h0 [4] 30 ?_;exact gc
def ZT:Hw:=([(14,[0,1,5],[],[])],[])
def iv:=fun a0 a1 (k_:U→Q V)=>∀{v2} {zr},k_ v2=N zr→Kh Z 91 ZT 14 [0,1,5] [] [] ⟨[pL 0 X2.row a0,pL 1 X2.row a1,pI 5 v2],[],[]⟩ (A5 [4] [.sc (.v (.bool zr))])
theorem B3w{a0 a1}{n:W}:iv a0 a1 (J0 a0 a1 n):=by
 induction n with
 | zero=>intro _ r h; cases h
 | succ n ih=>
  intro v2 r h σ hσ;rw[J0] at h;exact gc
instance B8o:Ct 91 (∀{a0} {a1} {r},NV a0 a1=N r→FC Z 91 [.sc (.sl (Y X2.row a0)),.sc (.sl (Y X2.row a1))] [.sc (.v (.bool r))]):=by
 refine⟨fun h=> ?_⟩;unfold NV at h;refine A3 A2 ZT [4] 27 ?_;have k0:= @B3w;exact gc
instance B8a:Ct 44 (∀{a0} {a1} {r},NI a0 a1=N r→FC Z 44 [.ag (X3.row a0),.ag (X3.row a1)] [.sc (.v (.bool r))]):=by
 refine⟨fun h=> ?_⟩;unfold NI at h;refine A3 A2 h0 [4] 17 ?_;exact gc
instance B8p:Ct 92 (∀{a0} {a1} {r},NW a0 a1=N r→FC Z 92 [.ag (X4.row a0),.ag (X4.row a1)] [.sc (.v (.bool r))]):=by
 refine⟨fun h=> ?_⟩;unfold NW at h;refine A3 A2 h0 [4] 35 ?_;exact gc
def ZV:Hw:=([(14,[0,1,5],[],[])],[])
def iw:=fun a0 a1 (k_:U→Q V)=>∀{v2} {zr},k_ v2=N zr→Kh Z 45 ZV 14 [0,1,5] [] [] ⟨[pL 0 X4.row a0,pL 1 X4.row a1,pI 5 v2],[],[]⟩ (A5 [4] [.sc (.v (.bool zr))])
theorem B3x{a0 a1}{n:W}:iw a0 a1 (J1 a0 a1 n):=by
 induction n with
 | zero=>intro _ r h; cases h
 | succ n ih=>
  intro v2 r h σ hσ;rw[J1] at h;exact gc
instance B8q:Ct 45 (∀{a0} {a1} {r},NX a0 a1=N r→FC Z 45 [.sc (.sl (Y X4.row a0)),.sc (.sl (Y X4.row a1))] [.sc (.v (.bool r))]):=by
 refine⟨fun h=> ?_⟩;unfold NX at h;refine A3 A2 ZV [4] 27 ?_;have k0:= @B3x;exact gc
instance B8m:Ct 46 (∀{a0} {a1} {r},R6 a0 a1=N r→FC Z 46 [.ag (Xj.row a0),.ag (Xj.row a1)] [.sc (.v (.bool r))]):=by
 refine⟨fun h=> ?_⟩;unfold R6 at h;refine A3 A2 h0 [4] 15 ?_;exact gc
def ZW:Hw:=([(14,[0,1,5],[],[])],[])
def io:=fun a0 a1 (k_:U→Q V)=>∀{v2} {zr},k_ v2=N zr→Kh Z 93 ZW 14 [0,1,5] [] [] ⟨[pL 0 rI a0,pL 1 rI a1,pI 5 v2],[],[]⟩ (A5 [4] [.sc (.v (.bool zr))])
theorem B3y{a0 a1}{n:W}:io a0 a1 (IV a0 a1 n):=by
 induction n with
 | zero=>intro _ r h; cases h
 | succ n ih=>
  intro v2 r h σ hσ;rw[IV] at h;exact gc
instance B8e:Ct 93 (∀{a0} {a1} {r},NM a0 a1=N r→FC Z 93 [.sc (.sl (Y rI a0)),.sc (.sl (Y rI a1))] [.sc (.v (.bool r))]):=by
 refine⟨fun h=> ?_⟩;unfold NM at h;refine A3 A2 ZW [4] 26 ?_;have k0:= @B3y;exact gc
instance B8c:Ct 47 (∀{a0} {a1} {r},R5 a0 a1=N r→FC Z 47 [.ag (Xo.row a0),.ag (Xo.row a1)] [.sc (.v (.bool r))]):=by
 refine⟨fun h=> ?_⟩;unfold R5 at h;refine A3 A2 h0 [4] 26 ?_;exact gc
theorem A65{a0}{a1}{r}(h:NL a0 a1=N r):FC Z 13 [.ag (X6.row a0),.ag (X6.row a1)] [.sc (.v (.bool r))]:=by
 unfold NL at h;refine A3 A2 h0 [4] 35 ?_;exact gc
instance B79:Ct 48 (∀{a0} {a1} {r},R4 a0 a1=N r→FC Z 48 [.ag (zG a0),.ag (zG a1)] [.sc (.v (.bool r))]):=by
 refine⟨fun h=> ?_⟩;unfold R4 at h;refine A3 A2 h0 [4] 30 ?_;exact gc
def ZX:Hw:=([(14,[0,1,5],[],[])],[])
def il:=fun a0 a1 (k_:U→Q V)=>∀{v2} {zr},k_ v2=N zr→Kh Z 14 ZX 14 [0,1,5] [] [] ⟨[pL 0 zG a0,pL 1 zG a1,pI 5 v2],[],[]⟩ (A5 [4] [.sc (.v (.bool zr))])
theorem B3z{a0 a1}{n:W}:il a0 a1 (IT a0 a1 n):=by
 induction n with
 | zero=>intro _ r h; cases h
 | succ n ih=>
  intro v2 r h σ hσ;rw[IT] at h;exact gc
theorem A63{a0}{a1}{r}(h:NH a0 a1=N r):FC Z 14 [.sc (.sl (Y zG a0)),.sc (.sl (Y zG a1))] [.sc (.v (.bool r))]:=by
 unfold NH at h;refine A3 A2 ZX [4] 27 ?_;have k0:= @B3z;exact gc
instance B8b:Ct 49 (∀{a0} {a1} {r},NJ a0 a1=N r→FC Z 49 [.ag (X7.row a0),.ag (X7.row a1)] [.sc (.v (.bool r))]):=by
 refine⟨fun h=> ?_⟩;unfold NJ at h;refine A3 A2 h0 [4] 20 ?_;exact gc
def ZY:Hw:=([(14,[0,1,5],[],[])],[])
def im:=fun a0 a1 (k_:U→Q V)=>∀{v2} {zr},k_ v2=N zr→Kh Z 15 ZY 14 [0,1,5] [] [] ⟨[pL 0 X7.row a0,pL 1 X7.row a1,pI 5 v2],[],[]⟩ (A5 [4] [.sc (.v (.bool zr))])
theorem B30{a0 a1}{n:W}:im a0 a1 (IU a0 a1 n):=by
 induction n with
 | zero=>intro _ r h; cases h
 | succ n ih=>
  intro v2 r h σ hσ;rw[IU] at h;exact gc
theorem A64{a0}{a1}{r}(h:Lb a0 a1=N r):FC Z 15 [.sc (.sl (Y X7.row a0)),.sc (.sl (Y X7.row a1))] [.sc (.v (.bool r))]:=by
 unfold Lb at h;refine A3 A2 ZY [4] 27 ?_;have k0:= @B30;exact gc
def Ut:Hw:=([(6,[0,1,5],[],[99999999999])],[])
def jE:=fun(k_:U→U→(P Xd)→Q (U × P Xd))=>∀{v1 v2 v3} {zr},k_ v1 v2 v3=N zr→Kh Z 142 Ut 6 [0,1,5] [] [99999999999] ⟨[pW 0 99999999999,pI 1 v1,pI 5 v2],[],[(99999999999,3,Y zB v3)]⟩ (CD [4] (.int .i64 zr.1) [(3,Y zB zr.2)] [(0,0)])
theorem B32{n:W}:jE (FO n):=by
 induction n with
 | zero=>intro _ _ _ r h; cases h
 | succ n ih=>
  intro v1 v2 v3 r h σ hσ S hS;refine ev hS ?_;rw[FO] at h;refine AB (As ?_);obtain⟨h4,h⟩|⟨h4,h⟩:=ic h
  ·obtain⟨x5,h5,h⟩:=ob h;have h5n:=Am h5;refine sg ?_;refine AK (row:=zB) (y:=(⟨v1,x5.Period,x5.Phase⟩:Xd)) X X h5n X X (by rfl) ?_;obtain⟨x6,h6,h⟩:=ob h;have h6n:=Am h6;refine sg ?_;refine AK (row:=zB) (y:=(⟨x6.Amp,(zK .i64 (v1+(1:U))),x6.Phase⟩:Xd)) X X h6n X X (by rfl) ?_;obtain⟨x7,h7,h⟩:=ob h;have h7n:=Am h7;refine sg ?_;refine AK (row:=zB) (y:=(⟨x7.Amp,x7.Period,(zK .i64 ((zK .i64 (v1+(1:U)))+(1:U)))⟩:Xd)) X X h7n X X (by rfl) ?_;refine sg ?_;exact ih h sq kr
  ·refine sg ?_;cases h;exact⟨⟨X,⟨⟩⟩,⟨⟨⟨_,X,X⟩,X⟩,⟨⟩⟩⟩
theorem qp:AE Z 142=N ((Bp Z 142 Ut).strip,[4],34):=by kernel_rfl
theorem xg:∀(n:W) (v1 v2:U) (v3:P Xd) (r:U × P Xd),FO n v1 v2 v3=N r→r.2.length=v3.length:=by
 intro n
 induction n with
 | zero=>intro _ _ _ r h; cases h
 | succ n ih=>
  intro v1 v2 v3 r h;rw[FO] at h;obtain⟨h4,h⟩|⟨h4,h⟩:=ic h
  ·obtain⟨x5,h5,h⟩:=ob h;obtain⟨x6,h6,h⟩:=ob h;obtain⟨x7,h7,h⟩:=ob h;have hl:=ih _ _ _ _ h;try simp only[zA] at hl
   omega
  ·cases h;all_goals (try dsimp only); first | done | omega | (simp only[zA] at *; omega) | simp_all
theorem UT{a0}{a1}{r}(h:Lk a0 a1=N r):r.2.length=a0.length:=by
 unfold Lk at h;have hl:=xg _ _ _ _ _ h;try simp only[zA] at hl
 omega
theorem A7d{a0}{a1}{r}(h:Lk a0 a1=N r):FCx Z 142 [.sc (.r 0),.sc (.d (.int .i64 a1))] [(3,Y zB a0)] [(3,Y zB r.2)] (.int .i64 r.1):=by
 unfold Lk at h;refine D3 (ps:= [(0,0)]) (σ:=⟨[(0,vc (.own 99999999999)),(1,vc (aI a1))],[],[(99999999999,3,Y zB a0)]⟩) A2 qp X X X (AS Bw) X ?_;refine Bt Ut ?_;have k0:= @B32;exact gc
theorem qq:AE Z 94=N ((Bp Z 94 h0).strip,[4],10):=by kernel_rfl
theorem UZ{a0}{a1}{r}(h:Lr a0 a1=N r):r.2.length=a0.Parts.length:=by
 unfold Lr at h;obtain⟨r1,h1,h⟩:=ob h;have lrr1:=(UT h1);cases h;all_goals (try dsimp only); first | done | omega | (simp only[zA] at *; omega) | simp_all
theorem A7j{a0}{a1}{r}(h:Lr a0 a1=N r):FCx Z 94 [.ag [.d (.int .i64 a0.Mean),.r 0],.sc (.d (.int .i64 a1))] [(3,Y zB a0.Parts)] [(3,Y zB r.2)] (.int .i64 r.1):=by
 unfold Lr at h;refine D3 (ps:= [(0,1)]) (σ:=⟨[(0,va [aI a0.Mean,.own 99999999999]),(1,vc (aI a1))],[],[(99999999999,3,Y zB a0.Parts)]⟩) A2 qq X X X (AS Bw) X ?_;refine Bt h0 ?_;intro S hS;refine ev hS ?_;obtain⟨r1,hr1,h⟩:=ob h;refine sg ?_;have lrr1:=(UT hr1);refine Dr (ids:= [99999999999]) (A7d hr1) X X X (AS Bw) (Cd (UT hr1) DA) ?_;refine sg ?_;cases h;exact⟨⟨X,⟨⟩⟩,⟨⟨⟨_,X,X⟩,X⟩,⟨⟩⟩⟩
def Uu:Hw:=([(6,[0,1,5],[],[99999999999])],[])
def jJ:=fun(k_:U→U→(P Xa)→Q (U × P Xa))=>∀{v1 v2 v3} {zr},k_ v1 v2 v3=N zr→Kh Z 95 Uu 6 [0,1,5] [] [99999999999] ⟨[pW 0 99999999999,pI 1 v1,pI 5 v2],[],[(99999999999,3,Y zC v3)]⟩ (CD [4] (.int .i64 zr.1) [(3,Y zC zr.2)] [(0,0)])
theorem B33{n:W}:jJ (FT n):=by
 induction n with
 | zero=>intro _ _ _ r h; cases h
 | succ n ih=>
  intro v1 v2 v3 r h σ hσ S hS;refine ev hS ?_;rw[FT] at h;refine AB (As ?_);obtain⟨h4,h⟩|⟨h4,h⟩:=ic h
  ·obtain⟨x5,h5,h⟩:=ob h;have h5n:=Am h5;refine sg ?_;refine AK (row:=zC) (y:=(⟨v1,x5.Low,x5.High⟩:Xa)) X X h5n X X (by rfl) ?_;obtain⟨x6,h6,h⟩:=ob h;have h6n:=Am h6;refine sg ?_;refine AK (row:=zC) (y:=(⟨x6.From,(zK .i64 (v1+(1:U))),x6.High⟩:Xa)) X X h6n X X (by rfl) ?_;obtain⟨x7,h7,h⟩:=ob h;have h7n:=Am h7;refine sg ?_;refine AK (row:=zC) (y:=(⟨x7.From,x7.Low,(zK .i64 ((zK .i64 (v1+(1:U)))+(1:U)))⟩:Xa)) X X h7n X X (by rfl) ?_;refine sg ?_;exact ih h sq kr
  ·refine sg ?_;cases h;exact⟨⟨X,⟨⟩⟩,⟨⟨⟨_,X,X⟩,X⟩,⟨⟩⟩⟩
theorem qr:AE Z 95=N ((Bp Z 95 Uu).strip,[4],34):=by kernel_rfl
theorem xl:∀(n:W) (v1 v2:U) (v3:P Xa) (r:U × P Xa),FT n v1 v2 v3=N r→r.2.length=v3.length:=by
 intro n
 induction n with
 | zero=>intro _ _ _ r h; cases h
 | succ n ih=>
  intro v1 v2 v3 r h;rw[FT] at h;obtain⟨h4,h⟩|⟨h4,h⟩:=ic h
  ·obtain⟨x5,h5,h⟩:=ob h;obtain⟨x6,h6,h⟩:=ob h;obtain⟨x7,h7,h⟩:=ob h;have hl:=ih _ _ _ _ h;try simp only[zA] at hl
   omega
  ·cases h;all_goals (try dsimp only); first | done | omega | (simp only[zA] at *; omega) | simp_all
theorem UY{a0}{a1}{r}(h:Lp a0 a1=N r):r.2.length=a0.length:=by
 unfold Lp at h;have hl:=xl _ _ _ _ _ h;try simp only[zA] at hl
 omega
theorem A7i{a0}{a1}{r}(h:Lp a0 a1=N r):FCx Z 95 [.sc (.r 0),.sc (.d (.int .i64 a1))] [(3,Y zC a0)] [(3,Y zC r.2)] (.int .i64 r.1):=by
 unfold Lp at h;refine D3 (ps:= [(0,0)]) (σ:=⟨[(0,vc (.own 99999999999)),(1,vc (aI a1))],[],[(99999999999,3,Y zC a0)]⟩) A2 qr X X X (AS Bw) X ?_;refine Bt Uu ?_;have k0:= @B33;exact gc
theorem qt:AE Z 50=N ((Bp Z 50 h0).strip,[4],14):=by kernel_rfl
theorem Sq{a0}{a1}{r}(h:Li a0 a1=N r):r.2.1.length=a0.Tide.Parts.length∧r.2.2.length=a0.Surges.length:=by
 unfold Li at h;obtain⟨r1,h1,h⟩:=ob h;have lrr1:=(UZ h1);obtain⟨r2,h2,h⟩:=ob h;have lrr2:=(UY h2);cases h;all_goals (try dsimp only); first | done | omega | (simp only[zA] at *; omega) | simp_all
theorem A7a{a0}{a1}{r}(h:Li a0 a1=N r):FCx Z 50 [.ag [.d (.int .i64 a0.Tide.Mean),.r 0,.r 1],.sc (.d (.int .i64 a1))] [(3,Y zB a0.Tide.Parts),(3,Y zC a0.Surges)] [(3,Y zB r.2.1),(3,Y zC r.2.2)] (.int .i64 r.1):=by
 unfold Li at h;refine D3 (ps:= [(0,1),(0,2)]) (σ:=⟨[(0,va [aI a0.Tide.Mean,.own 99999999999,.own 100000000000]),(1,vc (aI a1))],[],[(99999999999,3,Y zB a0.Tide.Parts),(100000000000,3,Y zC a0.Surges)]⟩) A2 qt X X X (AS (AS Bw)) X ?_;refine Bt h0 ?_;intro S hS;refine ev hS ?_;obtain⟨r1,hr1,h⟩:=ob h;refine sg ?_;have lrr1:=(UZ hr1);refine Dr (ids:= [99999999999]) (A7j hr1) X X X (AS Bw) (Cd (UZ hr1) DA) ?_;obtain⟨r2,hr2,h⟩:=ob h;refine sg ?_;have lrr2:=(UY hr2);refine Dr (ids:= [100000000000]) (A7i hr2) X X X (AS Bw) (Cd (UY hr2) DA) ?_;refine sg ?_;cases h;exact⟨⟨X,⟨⟩⟩,⟨⟨⟨_,X,X⟩,X⟩,⟨⟨⟨_,X,X⟩,X⟩,⟨⟩⟩⟩⟩
def ZZ:Hw:=([(14,[0,3],[],[])],[])
def jK:=fun(k_:U→(P UInt8)→Q (P UInt8))=>∀{v2 v3} {zr},k_ v2 v3=N zr→Kh Z 98 ZZ 14 [0,3] [] [] ⟨[pI 0 v2,(3,vc (aS v3))],[],[]⟩ (A5 [2] [.sc (.v (.str zr))])
theorem B34{n:W}:jK (J6 n):=by
 induction n with
 | zero=>intro _ _ r h; cases h
 | succ n ih=>
  intro v2 v3 r h σ hσ;rw[J6] at h;have s0:= @Aw (Y r8 ([(IntKind.u8.wrap (zK .i64 ((48:U)+(zK .i64 (zJ v2 (10:U))))))]:P U));exact gc
instance ey:Ct 98 (∀{a0} {r},Lq a0=N r→FC Z 98 [.sc (.int .i64 a0)] [.sc (.v (.str r))]):=by
 refine⟨fun h=> ?_⟩;unfold Lq at h;refine A3 A2 ZZ [2] 20 ?_;have k0:= @B34;exact gc
def Uv:Hw:=([(6,[0,1,5],[],[99999999999])],[])
def jG:=fun(k_:U→U→(P X8)→Q (U × P X8))=>∀{v1 v2 v3} {zr},k_ v1 v2 v3=N zr→Kh Z 96 Uv 6 [0,1,5] [] [99999999999] ⟨[pW 0 99999999999,pI 1 v1,pI 5 v2],[],[(99999999999,2,Y X8.row v3)]⟩ (CD [4] (.int .i64 zr.1) [(2,Y X8.row zr.2)] [(0,0)])
theorem B35{n:W}:jG (FQ n):=by
 induction n with
 | zero=>intro _ _ _ r h; cases h
 | succ n ih=>
  intro v1 v2 v3 r h σ hσ S hS;refine ev hS ?_;rw[FQ] at h;refine AB (As ?_);obtain⟨h4,h⟩|⟨h4,h⟩:=ic h
  ·obtain⟨r5,h5,h⟩:=ob h;refine sg ?_;refine AF (Ab ey h5) ?_;obtain⟨x6,h6,h⟩:=ob h;have h6n:=Am h6;refine sg ?_;refine AK (row:=X8.row) (y:=(⟨r5,x6.Wait⟩:X8)) X X h6n X X (by rfl) ?_;obtain⟨x7,h7,h⟩:=ob h;have h7n:=Am h7;refine sg ?_;refine AK (row:=X8.row) (y:=(⟨x7.Name,((zK .i64 (zJ (zK .i64 (v1+(1:U))) (3:U)))==(0:U))⟩:X8)) X X h7n X X (by rfl) ?_;refine sg ?_;exact ih h sq kr
  ·refine sg ?_;cases h;exact⟨⟨X,⟨⟩⟩,⟨⟨⟨_,X,X⟩,X⟩,⟨⟩⟩⟩
theorem qu:AE Z 96=N ((Bp Z 96 Uv).strip,[4],30):=by kernel_rfl
theorem xi:∀(n:W) (v1 v2:U) (v3:P X8) (r:U × P X8),FQ n v1 v2 v3=N r→r.2.length=v3.length:=by
 intro n
 induction n with
 | zero=>intro _ _ _ r h; cases h
 | succ n ih=>
  intro v1 v2 v3 r h;rw[FQ] at h;obtain⟨h4,h⟩|⟨h4,h⟩:=ic h
  ·obtain⟨r5,h5,h⟩:=ob h;obtain⟨x6,h6,h⟩:=ob h;obtain⟨x7,h7,h⟩:=ob h;have hl:=ih _ _ _ _ h;try simp only[zA] at hl
   omega
  ·cases h;all_goals (try dsimp only); first | done | omega | (simp only[zA] at *; omega) | simp_all
theorem UV{a0}{a1}{r}(h:Ll a0 a1=N r):r.2.length=a0.length:=by
 unfold Ll at h;have hl:=xi _ _ _ _ _ h;try simp only[zA] at hl
 omega
theorem A7f{a0}{a1}{r}(h:Ll a0 a1=N r):FCx Z 96 [.sc (.r 0),.sc (.d (.int .i64 a1))] [(2,Y X8.row a0)] [(2,Y X8.row r.2)] (.int .i64 r.1):=by
 unfold Ll at h;refine D3 (ps:= [(0,0)]) (σ:=⟨[(0,vc (.own 99999999999)),(1,vc (aI a1))],[],[(99999999999,2,Y X8.row a0)]⟩) A2 qu X X X (AS Bw) X ?_;refine Bt Uv ?_;have k0:= @B35;exact gc
def Ux:Hw:=([(6,[0,1,5],[],[99999999999])],[])
def jH:=fun(k_:U→U→(P X2)→Q (U × P X2))=>∀{v1 v2 v3} {zr},k_ v1 v2 v3=N zr→Kh Z 97 Ux 6 [0,1,5] [] [99999999999] ⟨[pW 0 99999999999,pI 1 v1,pI 5 v2],[],[(99999999999,5,Y X2.row v3)]⟩ (CD [4] (.int .i64 zr.1) [(5,Y X2.row zr.2)] [(0,0)])
theorem B36{n:W}:jH (FR n):=by
 induction n with
 | zero=>intro _ _ _ r h; cases h
 | succ n ih=>
  intro v1 v2 v3 r h σ hσ S hS;refine ev hS ?_;rw[FR] at h;refine AB (As ?_);obtain⟨h4,h⟩|⟨h4,h⟩:=ic h
  ·obtain⟨x5,h5,h⟩:=ob h;have h5n:=Am h5;refine sg ?_;refine AK (row:=X2.row) (y:=(⟨v1,x5.B,x5.Depth,x5.Minutes,x5.Meet⟩:X2)) X X h5n X X (by rfl) ?_;obtain⟨x6,h6,h⟩:=ob h;have h6n:=Am h6;refine sg ?_;refine AK (row:=X2.row) (y:=(⟨x6.A,(zK .i64 (v1+(1:U))),x6.Depth,x6.Minutes,x6.Meet⟩:X2)) X X h6n X X (by rfl) ?_;obtain⟨x7,h7,h⟩:=ob h;have h7n:=Am h7;refine sg ?_;refine AK (row:=X2.row) (y:=(⟨x7.A,x7.B,(zK .i64 ((zK .i64 (v1+(1:U)))+(1:U))),x7.Minutes,x7.Meet⟩:X2)) X X h7n X X (by rfl) ?_;obtain⟨x8,h8,h⟩:=ob h;have h8n:=Am h8;refine sg ?_;refine AK (row:=X2.row) (y:=(⟨x8.A,x8.B,x8.Depth,(zK .i64 ((zK .i64 ((zK .i64 (v1+(1:U)))+(1:U)))+(1:U))),x8.Meet⟩:X2)) X X h8n X X (by rfl) ?_;obtain⟨x9,h9,h⟩:=ob h;have h9n:=Am h9;refine sg ?_;refine AK (row:=X2.row) (y:=(⟨x9.A,x9.B,x9.Depth,x9.Minutes,((zK .i64 (zJ (zK .i64 ((zK .i64 ((zK .i64 ((zK .i64 (v1+(1:U)))+(1:U)))+(1:U)))+(1:U))) (3:U)))==(0:U))⟩:X2)) X X h9n X X (by rfl) ?_;refine sg ?_;exact ih h sq kr
  ·refine sg ?_;cases h;exact⟨⟨X,⟨⟩⟩,⟨⟨⟨_,X,X⟩,X⟩,⟨⟩⟩⟩
theorem qv:AE Z 97=N ((Bp Z 97 Ux).strip,[4],50):=by kernel_rfl
theorem xj:∀(n:W) (v1 v2:U) (v3:P X2) (r:U × P X2),FR n v1 v2 v3=N r→r.2.length=v3.length:=by
 intro n
 induction n with
 | zero=>intro _ _ _ r h; cases h
 | succ n ih=>
  intro v1 v2 v3 r h;rw[FR] at h;obtain⟨h4,h⟩|⟨h4,h⟩:=ic h
  ·obtain⟨x5,h5,h⟩:=ob h;obtain⟨x6,h6,h⟩:=ob h;obtain⟨x7,h7,h⟩:=ob h;obtain⟨x8,h8,h⟩:=ob h;obtain⟨x9,h9,h⟩:=ob h;have hl:=ih _ _ _ _ h;try simp only[zA] at hl
   omega
  ·cases h;all_goals (try dsimp only); first | done | omega | (simp only[zA] at *; omega) | simp_all
theorem UW{a0}{a1}{r}(h:Ln a0 a1=N r):r.2.length=a0.length:=by
 unfold Ln at h;have hl:=xj _ _ _ _ _ h;try simp only[zA] at hl
 omega
theorem A7g{a0}{a1}{r}(h:Ln a0 a1=N r):FCx Z 97 [.sc (.r 0),.sc (.d (.int .i64 a1))] [(5,Y X2.row a0)] [(5,Y X2.row r.2)] (.int .i64 r.1):=by
 unfold Ln at h;refine D3 (ps:= [(0,0)]) (σ:=⟨[(0,vc (.own 99999999999)),(1,vc (aI a1))],[],[(99999999999,5,Y X2.row a0)]⟩) A2 qv X X X (AS Bw) X ?_;refine Bt Ux ?_;have k0:= @B36;exact gc
theorem qw:AE Z 51=N ((Bp Z 51 h0).strip,[4],14):=by kernel_rfl
theorem Sp{a0}{a1}{r}(h:Le a0 a1=N r):r.2.1.length=a0.Points.length∧r.2.2.length=a0.Segments.length:=by
 unfold Le at h;obtain⟨r1,h1,h⟩:=ob h;have lrr1:=(UV h1);obtain⟨r2,h2,h⟩:=ob h;have lrr2:=(UW h2);cases h;all_goals (try dsimp only); first | done | omega | (simp only[zA] at *; omega) | simp_all
theorem A67{a0}{a1}{r}(h:Le a0 a1=N r):FCx Z 51 [.ag [.r 0,.r 1],.sc (.d (.int .i64 a1))] [(2,Y X8.row a0.Points),(5,Y X2.row a0.Segments)] [(2,Y X8.row r.2.1),(5,Y X2.row r.2.2)] (.int .i64 r.1):=by
 unfold Le at h;refine D3 (ps:= [(0,0),(0,1)]) (σ:=⟨[(0,va [.own 99999999999,.own 100000000000]),(1,vc (aI a1))],[],[(99999999999,2,Y X8.row a0.Points),(100000000000,5,Y X2.row a0.Segments)]⟩) A2 qw X X X (AS (AS Bw)) X ?_;refine Bt h0 ?_;intro S hS;refine ev hS ?_;obtain⟨r1,hr1,h⟩:=ob h;refine sg ?_;have lrr1:=(UV hr1);refine Dr (ids:= [99999999999]) (A7f hr1) X X X (AS Bw) (Cd (UV hr1) DA) ?_;obtain⟨r2,hr2,h⟩:=ob h;refine sg ?_;have lrr2:=(UW hr2);refine Dr (ids:= [100000000000]) (A7g hr2) X X X (AS Bw) (Cd (UW hr2) DA) ?_;refine sg ?_;cases h;exact⟨⟨X,⟨⟩⟩,⟨⟨⟨_,X,X⟩,X⟩,⟨⟨⟨_,X,X⟩,X⟩,⟨⟩⟩⟩⟩
def Uy:Hw:=([(6,[0,1,5],[],[99999999999])],[])
def jI:=fun(k_:U→U→(P X4)→Q (U × P X4))=>∀{v1 v2 v3} {zr},k_ v1 v2 v3=N zr→Kh Z 52 Uy 6 [0,1,5] [] [99999999999] ⟨[pW 0 99999999999,pI 1 v1,pI 5 v2],[],[(99999999999,6,Y X4.row v3)]⟩ (CD [4] (.int .i64 zr.1) [(6,Y X4.row zr.2)] [(0,0)])
theorem B37{n:W}:jI (Fsz n):=by
 induction n with
 | zero=>intro _ _ _ r h; cases h
 | succ n ih=>
  intro v1 v2 v3 r h σ hσ S hS;refine ev hS ?_;rw[Fsz] at h;refine AB (As ?_);obtain⟨h4,h⟩|⟨h4,h⟩:=ic h
  ·obtain⟨r5,h5,h⟩:=ob h;refine sg ?_;refine AF (Ab ey h5) ?_;obtain⟨x6,h6,h⟩:=ob h;have h6n:=Am h6;refine sg ?_;refine AK (row:=X4.row) (y:=(⟨r5,x6.Length,x6.Draught,x6.Line,x6.Tugs,x6.Slow⟩:X4)) X X h6n X X (by rfl) ?_;obtain⟨x7,h7,h⟩:=ob h;have h7n:=Am h7;refine sg ?_;refine AK (row:=X4.row) (y:=(⟨x7.Name,(zK .i64 (v1+(1:U))),x7.Draught,x7.Line,x7.Tugs,x7.Slow⟩:X4)) X X h7n X X (by rfl) ?_;obtain⟨x8,h8,h⟩:=ob h;have h8n:=Am h8;refine sg ?_;refine AK (row:=X4.row) (y:=(⟨x8.Name,x8.Length,(zK .i64 ((zK .i64 (v1+(1:U)))+(1:U))),x8.Line,x8.Tugs,x8.Slow⟩:X4)) X X h8n X X (by rfl) ?_;obtain⟨x9,h9,h⟩:=ob h;have h9n:=Am h9;refine sg ?_;refine AK (row:=X4.row) (y:=(⟨x9.Name,x9.Length,x9.Draught,(zK .i64 ((zK .i64 ((zK .i64 (v1+(1:U)))+(1:U)))+(1:U))),x9.Tugs,x9.Slow⟩:X4)) X X h9n X X (by rfl) ?_;obtain⟨x10,h10,h⟩:=ob h;have h10n:=Am h10;refine sg ?_;refine AK (row:=X4.row) (y:=(⟨x10.Name,x10.Length,x10.Draught,x10.Line,(zK .i64 ((zK .i64 ((zK .i64 ((zK .i64 (v1+(1:U)))+(1:U)))+(1:U)))+(1:U))),x10.Slow⟩:X4)) X X h10n X X (by rfl) ?_;obtain⟨x11,h11,h⟩:=ob h;have h11n:=Am h11;refine sg ?_;refine AK (row:=X4.row) (y:=(⟨x11.Name,x11.Length,x11.Draught,x11.Line,x11.Tugs,((zK .i64 (zJ (zK .i64 ((zK .i64 ((zK .i64 ((zK .i64 ((zK .i64 (v1+(1:U)))+(1:U)))+(1:U)))+(1:U)))+(1:U))) (3:U)))==(0:U))⟩:X4)) X X h11n X X (by rfl) ?_;refine sg ?_;exact ih h sq kr
  ·refine sg ?_;cases h;exact⟨⟨X,⟨⟩⟩,⟨⟨⟨_,X,X⟩,X⟩,⟨⟩⟩⟩
theorem qx:AE Z 52=N ((Bp Z 52 Uy).strip,[4],58):=by kernel_rfl
theorem xk:∀(n:W) (v1 v2:U) (v3:P X4) (r:U × P X4),Fsz n v1 v2 v3=N r→r.2.length=v3.length:=by
 intro n
 induction n with
 | zero=>intro _ _ _ r h; cases h
 | succ n ih=>
  intro v1 v2 v3 r h;rw[Fsz] at h;obtain⟨h4,h⟩|⟨h4,h⟩:=ic h
  ·obtain⟨r5,h5,h⟩:=ob h;obtain⟨x6,h6,h⟩:=ob h;obtain⟨x7,h7,h⟩:=ob h;obtain⟨x8,h8,h⟩:=ob h;obtain⟨x9,h9,h⟩:=ob h;obtain⟨x10,h10,h⟩:=ob h;obtain⟨x11,h11,h⟩:=ob h;have hl:=ih _ _ _ _ h;try simp only[zA] at hl
   omega
  ·cases h;all_goals (try dsimp only); first | done | omega | (simp only[zA] at *; omega) | simp_all
theorem UX{a0}{a1}{r}(h:Lo a0 a1=N r):r.2.length=a0.length:=by
 unfold Lo at h;have hl:=xk _ _ _ _ _ h;try simp only[zA] at hl
 omega
theorem A7h{a0}{a1}{r}(h:Lo a0 a1=N r):FCx Z 52 [.sc (.r 0),.sc (.d (.int .i64 a1))] [(6,Y X4.row a0)] [(6,Y X4.row r.2)] (.int .i64 r.1):=by
 unfold Lo at h;refine D3 (ps:= [(0,0)]) (σ:=⟨[(0,vc (.own 99999999999)),(1,vc (aI a1))],[],[(99999999999,6,Y X4.row a0)]⟩) A2 qx X X X (AS Bw) X ?_;refine Bt Uy ?_;have k0:= @B37;exact gc
def Uz:Hw:=([(6,[0,1,5],[],[99999999999])],[])
def jD:=fun(k_:U→U→(P U)→Q (U × P U))=>∀{v1 v2 v3} {zr},k_ v1 v2 v3=N zr→Kh Z 99 Uz 6 [0,1,5] [] [99999999999] ⟨[pW 0 99999999999,pI 1 v1,pI 5 v2],[],[(99999999999,1,Y rI v3)]⟩ (CD [4] (.int .i64 zr.1) [(1,Y rI zr.2)] [(0,0)])
theorem B39{n:W}:jD (FM n):=by
 induction n with
 | zero=>intro _ _ _ r h; cases h
 | succ n ih=>
  intro v1 v2 v3 r h σ hσ S hS;refine ev hS ?_;rw[FM] at h;refine AB (As ?_);obtain⟨h4,h⟩|⟨h4,h⟩:=ic h
  ·obtain⟨x5,h5,h⟩:=ob h;have h5n:=Am h5;refine sg ?_;refine AK (row:=rI) (y:=v1) X X h5n X X (by rfl) ?_;refine sg ?_;exact ih h sq kr
  ·refine sg ?_;cases h;exact⟨⟨X,⟨⟩⟩,⟨⟨⟨_,X,X⟩,X⟩,⟨⟩⟩⟩
theorem qy:AE Z 99=N ((Bp Z 99 Uz).strip,[4],19):=by kernel_rfl
theorem xf:∀(n:W) (v1 v2:U) (v3:P U) (r:U × P U),FM n v1 v2 v3=N r→r.2.length=v3.length:=by
 intro n
 induction n with
 | zero=>intro _ _ _ r h; cases h
 | succ n ih=>
  intro v1 v2 v3 r h;rw[FM] at h;obtain⟨h4,h⟩|⟨h4,h⟩:=ic h
  ·obtain⟨x5,h5,h⟩:=ob h;have hl:=ih _ _ _ _ h;try simp only[zA] at hl
   omega
  ·cases h;all_goals (try dsimp only); first | done | omega | (simp only[zA] at *; omega) | simp_all
theorem US{a0}{a1}{r}(h:Lj a0 a1=N r):r.2.length=a0.length:=by
 unfold Lj at h;have hl:=xf _ _ _ _ _ h;try simp only[zA] at hl
 omega
theorem A7c{a0}{a1}{r}(h:Lj a0 a1=N r):FCx Z 99 [.sc (.r 0),.sc (.d (.int .i64 a1))] [(1,Y rI a0)] [(1,Y rI r.2)] (.int .i64 r.1):=by
 unfold Lj at h;refine D3 (ps:= [(0,0)]) (σ:=⟨[(0,vc (.own 99999999999)),(1,vc (aI a1))],[],[(99999999999,1,Y rI a0)]⟩) A2 qy X X X (AS Bw) X ?_;refine Bt Uz ?_;have k0:= @B39;exact gc
theorem qz:AE Z 53=N ((Bp Z 53 h0).strip,[4],10):=by kernel_rfl
theorem UR{a0}{a1}{r}(h:Lg a0 a1=N r):r.2.length=a0.Moves.length:=by
 unfold Lg at h;obtain⟨r1,h1,h⟩:=ob h;have lrr1:=(US h1);cases h;all_goals (try dsimp only); first | done | omega | (simp only[zA] at *; omega) | simp_all
theorem A69{a0}{a1}{r}(h:Lg a0 a1=N r):FCx Z 53 [.ag [.d (.int .i64 a0.Tugs),.d (.int .i64 a0.Pilots),.d (.int .i64 a0.Rest),.r 0],.sc (.d (.int .i64 a1))] [(1,Y rI a0.Moves)] [(1,Y rI r.2)] (.int .i64 r.1):=by
 unfold Lg at h;refine D3 (ps:= [(0,3)]) (σ:=⟨[(0,va [aI a0.Tugs,aI a0.Pilots,aI a0.Rest,.own 99999999999]),(1,vc (aI a1))],[],[(99999999999,1,Y rI a0.Moves)]⟩) A2 qz X X X (AS Bw) X ?_;refine Bt h0 ?_;intro S hS;refine ev hS ?_;obtain⟨r1,hr1,h⟩:=ob h;refine sg ?_;have lrr1:=(US hr1);refine Dr (ids:= [99999999999]) (A7c hr1) X X X (AS Bw) (Cd (US hr1) DA) ?_;refine sg ?_;cases h;exact⟨⟨X,⟨⟩⟩,⟨⟨⟨_,X,X⟩,X⟩,⟨⟩⟩⟩
theorem rA:AE Z 16=N ((Bp Z 16 h0).strip,[4],22):=by kernel_rfl
theorem Mb{a0}{a1}{r}(h:J5 a0 a1=N r):r.2.1.length=a0.Forecast.Tide.Parts.length∧r.2.2.1.length=a0.Forecast.Surges.length∧r.2.2.2.1.length=a0.Chart.Points.length∧r.2.2.2.2.1.length=a0.Chart.Segments.length∧r.2.2.2.2.2.1.length=a0.Fleet.length∧r.2.2.2.2.2.2.length=a0.Crew.Moves.length:=by
 unfold J5 at h;obtain⟨r1,h1,h⟩:=ob h;have lrr1:=(Sq h1);obtain⟨r2,h2,h⟩:=ob h;have lrr2:=(Sp h2);obtain⟨r3,h3,h⟩:=ob h;have lrr3:=(UX h3);obtain⟨r4,h4,h⟩:=ob h;have lrr4:=(UR h4);cases h;all_goals (try dsimp only); first | done | omega | (simp only[zA] at *; omega) | simp_all
theorem A7b{a0}{a1}{r}(h:J5 a0 a1=N r):FCx Z 16 [.ag [.d (.int .i64 a0.Forecast.Tide.Mean),.r 0,.r 1,.r 2,.r 3,.r 4,.d (.int .i64 a0.Regime.Gap),.d (.bool a0.Regime.NoMeet),.d (.int .i64 a0.Crew.Tugs),.d (.int .i64 a0.Crew.Pilots),.d (.int .i64 a0.Crew.Rest),.r 5],.sc (.d (.int .i64 a1))] [(3,Y zB a0.Forecast.Tide.Parts),(3,Y zC a0.Forecast.Surges),(2,Y X8.row a0.Chart.Points),(5,Y X2.row a0.Chart.Segments),(6,Y X4.row a0.Fleet),(1,Y rI a0.Crew.Moves)] [(3,Y zB r.2.1),(3,Y zC r.2.2.1),(2,Y X8.row r.2.2.2.1),(5,Y X2.row r.2.2.2.2.1),(6,Y X4.row r.2.2.2.2.2.1),(1,Y rI r.2.2.2.2.2.2)] (.int .i64 r.1):=by
 unfold J5 at h;refine D3 (ps:= [(0,1),(0,2),(0,3),(0,4),(0,5),(0,11)]) (σ:=⟨[(0,va [aI a0.Forecast.Tide.Mean,.own 99999999999,.own 100000000000,.own 100000000001,.own 100000000002,.own 100000000003,aI a0.Regime.Gap,aB a0.Regime.NoMeet,aI a0.Crew.Tugs,aI a0.Crew.Pilots,aI a0.Crew.Rest,.own 100000000004]),(1,vc (aI a1))],[],[(99999999999,3,Y zB a0.Forecast.Tide.Parts),(100000000000,3,Y zC a0.Forecast.Surges),(100000000001,2,Y X8.row a0.Chart.Points),(100000000002,5,Y X2.row a0.Chart.Segments),(100000000003,6,Y X4.row a0.Fleet),(100000000004,1,Y rI a0.Crew.Moves)]⟩) A2 rA X X X (AS (AS (AS (AS (AS (AS Bw)))))) X ?_;refine Bt h0 ?_;intro S hS;refine ev hS ?_;obtain⟨r1,hr1,h⟩:=ob h;refine sg ?_;have lrr1:=(Sq hr1);refine Dr (ids:= [99999999999,100000000000]) (A7a hr1) X X X (AS (AS Bw)) (Cd (Sq hr1).1 (Cd (Sq hr1).2 DA)) ?_;obtain⟨r2,hr2,h⟩:=ob h;refine sg ?_;have lrr2:=(Sp hr2);refine Dr (ids:= [100000000001,100000000002]) (A67 hr2) X X X (AS (AS Bw)) (Cd (Sp hr2).1 (Cd (Sp hr2).2 DA)) ?_;obtain⟨r3,hr3,h⟩:=ob h;refine sg ?_;have lrr3:=(UX hr3);refine Dr (ids:= [100000000003]) (A7h hr3) X X X (AS Bw) (Cd (UX hr3) DA) ?_;obtain⟨r4,hr4,h⟩:=ob h;refine sg ?_;have lrr4:=(UR hr4);refine Dr (ids:= [100000000004]) (A69 hr4) X X X (AS Bw) (Cd (UR hr4) DA) ?_;refine sg ?_;cases h;exact⟨⟨X,⟨⟩⟩,⟨⟨⟨_,X,X⟩,X⟩,⟨⟨⟨_,X,X⟩,X⟩,⟨⟨⟨_,X,X⟩,X⟩,⟨⟨⟨_,X,X⟩,X⟩,⟨⟨⟨_,X,X⟩,X⟩,⟨⟨⟨_,X,X⟩,X⟩,⟨⟩⟩⟩⟩⟩⟩⟩⟩
def UA:Hw:=([(6,[0,1,5],[],[99999999999])],[])
def jB:=fun(k_:U→U→(P Xc)→Q (U × P Xc))=>∀{v1 v2 v3} {zr},k_ v1 v2 v3=N zr→Kh Z 17 UA 6 [0,1,5] [] [99999999999] ⟨[pW 0 99999999999,pI 1 v1,pI 5 v2],[],[(99999999999,5,Y zG v3)]⟩ (CD [4] (.int .i64 zr.1) [(5,Y zG zr.2)] [(0,0)])
theorem B4a{n:W}:jB (FJ n):=by
 induction n with
 | zero=>intro _ _ _ r h; cases h
 | succ n ih=>
  intro v1 v2 v3 r h σ hσ S hS;refine ev hS ?_;rw[FJ] at h;refine AB (As ?_);obtain⟨h4,h⟩|⟨h4,h⟩:=ic h
  ·obtain⟨x5,h5,h⟩:=ob h;have h5n:=Am h5;refine sg ?_;refine AK (row:=zG) (y:=(⟨v1,x5.From,x5.To,x5.Ready,x5.Due⟩:Xc)) X X h5n X X (by rfl) ?_;obtain⟨x6,h6,h⟩:=ob h;have h6n:=Am h6;refine sg ?_;refine AK (row:=zG) (y:=(⟨x6.Ship,(zK .i64 (v1+(1:U))),x6.To,x6.Ready,x6.Due⟩:Xc)) X X h6n X X (by rfl) ?_;obtain⟨x7,h7,h⟩:=ob h;have h7n:=Am h7;refine sg ?_;refine AK (row:=zG) (y:=(⟨x7.Ship,x7.From,(zK .i64 ((zK .i64 (v1+(1:U)))+(1:U))),x7.Ready,x7.Due⟩:Xc)) X X h7n X X (by rfl) ?_;obtain⟨x8,h8,h⟩:=ob h;have h8n:=Am h8;refine sg ?_;refine AK (row:=zG) (y:=(⟨x8.Ship,x8.From,x8.To,(zK .i64 ((zK .i64 ((zK .i64 (v1+(1:U)))+(1:U)))+(1:U))),x8.Due⟩:Xc)) X X h8n X X (by rfl) ?_;obtain⟨x9,h9,h⟩:=ob h;have h9n:=Am h9;refine sg ?_;refine AK (row:=zG) (y:=(⟨x9.Ship,x9.From,x9.To,x9.Ready,(zK .i64 ((zK .i64 ((zK .i64 ((zK .i64 (v1+(1:U)))+(1:U)))+(1:U)))+(1:U)))⟩:Xc)) X X h9n X X (by rfl) ?_;refine sg ?_;exact ih h sq kr
  ·refine sg ?_;cases h;exact⟨⟨X,⟨⟩⟩,⟨⟨⟨_,X,X⟩,X⟩,⟨⟩⟩⟩
theorem rC:AE Z 17=N ((Bp Z 17 UA).strip,[4],48):=by kernel_rfl
theorem xc:∀(n:W) (v1 v2:U) (v3:P Xc) (r:U × P Xc),FJ n v1 v2 v3=N r→r.2.length=v3.length:=by
 intro n
 induction n with
 | zero=>intro _ _ _ r h; cases h
 | succ n ih=>
  intro v1 v2 v3 r h;rw[FJ] at h;obtain⟨h4,h⟩|⟨h4,h⟩:=ic h
  ·obtain⟨x5,h5,h⟩:=ob h;obtain⟨x6,h6,h⟩:=ob h;obtain⟨x7,h7,h⟩:=ob h;obtain⟨x8,h8,h⟩:=ob h;obtain⟨x9,h9,h⟩:=ob h;have hl:=ih _ _ _ _ h;try simp only[zA] at hl
   omega
  ·cases h;all_goals (try dsimp only); first | done | omega | (simp only[zA] at *; omega) | simp_all
theorem xb(a0:P Xc)(a1:U)(r:U × P Xc)(h:Ld a0 a1=N r):r.2.length=a0.length:=by
 unfold Ld at h;have hl:=xc _ _ _ _ _ h;try simp only[zA] at hl
 omega
theorem A66(a0:P Xc)(a1:U)(r:U × P Xc)(h:Ld a0 a1=N r):FCx Z 17 [.sc (.r 0),.sc (.d (.int .i64 a1))] [(5,Y zG a0)] [(5,Y zG r.2)] (.int .i64 r.1):=by
 unfold Ld at h;refine D3 (ps:= [(0,0)]) (σ:=⟨[(0,vc (.own 99999999999)),(1,vc (aI a1))],[],[(99999999999,5,Y zG a0)]⟩) A2 rC X X X (AS Bw) X ?_;refine Bt UA ?_;have k0:= @B4a;exact gc
def UB:Hw:=([(6,[0,1,5],[],[99999999999])],[])
def jC:=fun(k_:U→U→(P X7)→Q (U × P X7))=>∀{v1 v2 v3} {zr},k_ v1 v2 v3=N zr→Kh Z 18 UB 6 [0,1,5] [] [99999999999] ⟨[pW 0 99999999999,pI 1 v1,pI 5 v2],[],[(99999999999,3,Y X7.row v3)]⟩ (CD [4] (.int .i64 zr.1) [(3,Y X7.row zr.2)] [(0,0)])
theorem B4b{n:W}:jC (FL n):=by
 induction n with
 | zero=>intro _ _ _ r h; cases h
 | succ n ih=>
  intro v1 v2 v3 r h σ hσ S hS;refine ev hS ?_;rw[FL] at h;refine AB (As ?_);obtain⟨h4,h⟩|⟨h4,h⟩:=ic h
  ·obtain⟨x5,h5,h⟩:=ob h;have h5n:=Am h5;refine sg ?_;refine AK (row:=X7.row) (y:=(⟨v1,x5.From,x5.To⟩:X7)) X X h5n X X (by rfl) ?_;obtain⟨x6,h6,h⟩:=ob h;have h6n:=Am h6;refine sg ?_;refine AK (row:=X7.row) (y:=(⟨x6.Segment,(zK .i64 (v1+(1:U))),x6.To⟩:X7)) X X h6n X X (by rfl) ?_;obtain⟨x7,h7,h⟩:=ob h;have h7n:=Am h7;refine sg ?_;refine AK (row:=X7.row) (y:=(⟨x7.Segment,x7.From,(zK .i64 ((zK .i64 (v1+(1:U)))+(1:U)))⟩:X7)) X X h7n X X (by rfl) ?_;refine sg ?_;exact ih h sq kr
  ·refine sg ?_;cases h;exact⟨⟨X,⟨⟩⟩,⟨⟨⟨_,X,X⟩,X⟩,⟨⟩⟩⟩
theorem rD:AE Z 18=N ((Bp Z 18 UB).strip,[4],34):=by kernel_rfl
theorem xe:∀(n:W) (v1 v2:U) (v3:P X7) (r:U × P X7),FL n v1 v2 v3=N r→r.2.length=v3.length:=by
 intro n
 induction n with
 | zero=>intro _ _ _ r h; cases h
 | succ n ih=>
  intro v1 v2 v3 r h;rw[FL] at h;obtain⟨h4,h⟩|⟨h4,h⟩:=ic h
  ·obtain⟨x5,h5,h⟩:=ob h;obtain⟨x6,h6,h⟩:=ob h;obtain⟨x7,h7,h⟩:=ob h;have hl:=ih _ _ _ _ h;try simp only[zA] at hl
   omega
  ·cases h;all_goals (try dsimp only); first | done | omega | (simp only[zA] at *; omega) | simp_all
theorem xd(a0:P X7)(a1:U)(r:U × P X7)(h:Lf a0 a1=N r):r.2.length=a0.length:=by
 unfold Lf at h;have hl:=xe _ _ _ _ _ h;try simp only[zA] at hl
 omega
theorem A68(a0:P X7)(a1:U)(r:U × P X7)(h:Lf a0 a1=N r):FCx Z 18 [.sc (.r 0),.sc (.d (.int .i64 a1))] [(3,Y X7.row a0)] [(3,Y X7.row r.2)] (.int .i64 r.1):=by
 unfold Lf at h;refine D3 (ps:= [(0,0)]) (σ:=⟨[(0,vc (.own 99999999999)),(1,vc (aI a1))],[],[(99999999999,3,Y X7.row a0)]⟩) A2 rD X X X (AS Bw) X ?_;refine Bt UB ?_;have k0:= @B4b;exact gc
def UC:Hw:=([(6,[0,1,5],[],[99999999999])],[])
def jF:=fun(k_:U→U→(P X1)→Q (U × P X1))=>∀{v1 v2 v3} {zr},k_ v1 v2 v3=N zr→Kh Z 54 UC 6 [0,1,5] [] [99999999999] ⟨[pW 0 99999999999,pI 1 v1,pI 5 v2],[],[(99999999999,5,Y X1.row v3)]⟩ (CD [4] (.int .i64 zr.1) [(5,Y X1.row zr.2)] [(0,0)])
theorem B4d{n:W}:jF (FP n):=by
 induction n with
 | zero=>intro _ _ _ r h; cases h
 | succ n ih=>
  intro v1 v2 v3 r h σ hσ S hS;refine ev hS ?_;rw[FP] at h;refine AB (As ?_);obtain⟨h4,h⟩|⟨h4,h⟩:=ic h
  ·obtain⟨x5,h5,h⟩:=ob h;have h5n:=Am h5;refine sg ?_;refine AK (row:=X1.row) (y:=(⟨v1,x5.Segment,x5.Toward,x5.Start,x5.End⟩:X1)) X X h5n X X (by rfl) ?_;obtain⟨x6,h6,h⟩:=ob h;have h6n:=Am h6;refine sg ?_;refine AK (row:=X1.row) (y:=(⟨x6.Ship,(zK .i64 (v1+(1:U))),x6.Toward,x6.Start,x6.End⟩:X1)) X X h6n X X (by rfl) ?_;obtain⟨x7,h7,h⟩:=ob h;have h7n:=Am h7;refine sg ?_;refine AK (row:=X1.row) (y:=(⟨x7.Ship,x7.Segment,((zK .i64 (zJ (zK .i64 ((zK .i64 (v1+(1:U)))+(1:U))) (3:U)))==(0:U)),x7.Start,x7.End⟩:X1)) X X h7n X X (by rfl) ?_;obtain⟨x8,h8,h⟩:=ob h;have h8n:=Am h8;refine sg ?_;refine AK (row:=X1.row) (y:=(⟨x8.Ship,x8.Segment,x8.Toward,(zK .i64 ((zK .i64 ((zK .i64 (v1+(1:U)))+(1:U)))+(1:U))),x8.End⟩:X1)) X X h8n X X (by rfl) ?_;obtain⟨x9,h9,h⟩:=ob h;have h9n:=Am h9;refine sg ?_;refine AK (row:=X1.row) (y:=(⟨x9.Ship,x9.Segment,x9.Toward,x9.Start,(zK .i64 ((zK .i64 ((zK .i64 ((zK .i64 (v1+(1:U)))+(1:U)))+(1:U)))+(1:U)))⟩:X1)) X X h9n X X (by rfl) ?_;refine sg ?_;exact ih h sq kr
  ·refine sg ?_;cases h;exact⟨⟨X,⟨⟩⟩,⟨⟨⟨_,X,X⟩,X⟩,⟨⟩⟩⟩
theorem rE:AE Z 54=N ((Bp Z 54 UC).strip,[4],50):=by kernel_rfl
theorem xh:∀(n:W) (v1 v2:U) (v3:P X1) (r:U × P X1),FP n v1 v2 v3=N r→r.2.length=v3.length:=by
 intro n
 induction n with
 | zero=>intro _ _ _ r h; cases h
 | succ n ih=>
  intro v1 v2 v3 r h;rw[FP] at h;obtain⟨h4,h⟩|⟨h4,h⟩:=ic h
  ·obtain⟨x5,h5,h⟩:=ob h;obtain⟨x6,h6,h⟩:=ob h;obtain⟨x7,h7,h⟩:=ob h;obtain⟨x8,h8,h⟩:=ob h;obtain⟨x9,h9,h⟩:=ob h;have hl:=ih _ _ _ _ h;try simp only[zA] at hl
   omega
  ·cases h;all_goals (try dsimp only); first | done | omega | (simp only[zA] at *; omega) | simp_all
theorem UU(a0:P X1)(a1:U)(r:U × P X1)(h:H3 a0 a1=N r):r.2.length=a0.length:=by
 unfold H3 at h;have hl:=xh _ _ _ _ _ h;try simp only[zA] at hl
 omega
theorem A7e(a0:P X1)(a1:U)(r:U × P X1)(h:H3 a0 a1=N r):FCx Z 54 [.sc (.r 0),.sc (.d (.int .i64 a1))] [(5,Y X1.row a0)] [(5,Y X1.row r.2)] (.int .i64 r.1):=by
 unfold H3 at h;refine D3 (ps:= [(0,0)]) (σ:=⟨[(0,vc (.own 99999999999)),(1,vc (aI a1))],[],[(99999999999,5,Y X1.row a0)]⟩) A2 rE X X X (AS Bw) X ?_;refine Bt UC ?_;have k0:= @B4d;exact gc
def aC:Hw:=([(6,[0,1,5],[],[])],[])
def jA:=fun a0 (k_:U→U→Q U)=>∀{v1 v2} {zr},k_ v1 v2=N zr→Kh Z 55 aC 6 [0,1,5] [] [] ⟨[pL 0 X1.row a0,pI 1 v1,pI 5 v2],[],[]⟩ (A5 [4] [.sc (.v (.int .i64 zr))])
theorem B4e{a0}{n:W}:jA a0 (J4 a0 n):=by
 induction n with
 | zero=>intro _ _ r h; cases h
 | succ n ih=>
  intro v1 v2 r h σ hσ;rw[J4] at h;exact gc
instance B8u:Ct 55 (∀{a0} {a1} {r},O0 a0 a1=N r→FC Z 55 [.sc (.sl (Y X1.row a0)),.sc (.int .i64 a1)] [.sc (.v (.int .i64 r))]):=by
 refine⟨fun h=> ?_⟩;unfold O0 at h;refine A3 A2 aC [4] 60 ?_;have k0:= @B4e;exact gc
def aD:Hw:=([(6,[0,1,5],[],[])],[])
def iz:=fun a0 (k_:U→U→Q U)=>∀{v1 v2} {zr},k_ v1 v2=N zr→Kh Z 20 aD 6 [0,1,5] [] [] ⟨[pL 0 X0.row a0,pI 1 v1,pI 5 v2],[],[]⟩ (A5 [4] [.sc (.v (.int .i64 zr))])
theorem B4f{a0}{n:W}:iz a0 (J3 a0 n):=by
 induction n with
 | zero=>intro _ _ r h; cases h
 | succ n ih=>
  intro v1 v2 r h σ hσ;rw[J3] at h;exact gc
theorem en(a0:P X0)(a1 r:U)(h:Lc a0 a1=N r):FC Z 20 [.sc (.sl (Y X0.row a0)),.sc (.int .i64 a1)] [.sc (.v (.int .i64 r))]:=by
 unfold Lc at h;refine A3 A2 aD [4] 49 ?_;have k0:= @B4f;exact gc
end Go.Vi
