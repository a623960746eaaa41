/-
Walks. No condition.
-/
import Derived.Test.YtfmhammmkkbonaaGreatDoorCNf
import Derived.Test.YtfmhammmkkbonaaGreatDoorChecked
import Derived.Test.YtfmhammmkkbonaaGreatDoorCSh
import Derived.Test.YtfmhammmkkbonaaGreatDoorCVi43
import Derived.KernelRfl
import Derived.Test.YtfmhammmkkbonaaGreatDoorCWConsolea
namespace Go.Vi
open Go.Proofs
set_option linter.all false
set_option maxRecDepth 4000
set_option maxHeartbeats 2000000
open Nat renaming reduceBEq → C, reduceMul → E, reduceAdd → F, reduceDiv → G, le_of_ble_eq_true → uf
open Int renaming reduceBEq → H
attribute [local irreducible] go B4 K9
open List renaming map → Y, map_nil → I, all_eq_true → zA, all_cons → zC, all_nil → zD, cons_append → zE, nil_append → zF
open Tryz renaming prog → Z
open Xd renaming row → zB
open Xb renaming row → zG
open Bool renaming true → T, false → L
open Option renaming some → N, none → O
open _root_ renaming List → P, Option → Q, Int → U, Bool → V, Nat → W, rfl → X
instance A8e:Ct 137 (∀{a0} {a1} {a2} {r},JH a0 a1 a2=N r→FC Z 137 [.ag (X4.row a0),.sc (.int .i64 a1),.ag (X8.row a2)] [.sc (.v (.bool r))]):=by
 refine⟨fun h=> ?_⟩;unfold JH at h;refine A2 mixed h0 [6] 20 ?_;exact gc
instance A7l:Ct 203 (∀{a0} {r},Oc a0=N r→FC Z 203 [.ag (X8.row a0)] [.sc (.v (.int .i64 r))]):=by
 refine⟨fun h=> ?_⟩;unfold Oc at h;refine A2 mixed h0 [2] 11 ?_;exact gc
instance A7k:Ct 178 (∀{a0} {r},Ob a0=N r→FC Z 178 [.ag (X8.row a0)] [.sc (.v (.int .i64 r))]):=by
 refine⟨fun h=> ?_⟩;unfold Ob at h;refine A2 mixed h0 [2] 9 ?_;exact gc
instance A61:Ct 140 (∀{a0} {a1} {a2} {r},Le a0 a1 a2=N r→FC Z 140 [.ag (X4.row a0),.sc (.int .i64 a1),.ag (X8.row a2)] [.sc (.v (.int .i64 r))]):=by
 refine⟨fun h=> ?_⟩;unfold Le at h;refine A2 mixed h0 [6] 21 ?_;exact gc
def OV:Hw:=([(10,[0,3,4,5],[],[384]),(35,[0,3,4,5],[],[384]),(36,[0,3,4,5],[],[384])],[])
def ck:=fun F_a0 caps_a0 v2 (k_:V→(P X9)→Q (P X9))=>∀{v11 v12} {zr},k_ v11 v12=N zr→Kh Z 176 OV 36 [0,3,4,5] [] [384] ⟨[(0,vc (.dat (.clo F_a0 caps_a0))),pW 3 384,(4,vc (aB v11)),pI 5 v2],[],[(384,2,Y X9.row v12)]⟩ (A6 [2] [.sc (.o 2 (Y X9.row zr))])
def cj:=fun F_a0 caps_a0 v2 (k_:(P X9)→Q (P X9))=>∀{v9} {zr},k_ v9=N zr→Kh Z 176 OV 35 [0,3,4,5] [] [384] ⟨[(0,vc (.dat (.clo F_a0 caps_a0))),pW 3 384,(4,vc (aB T)),pI 5 v2],[],[(384,2,Y X9.row v9)]⟩ (A6 [2] [.sc (.o 2 (Y X9.row zr))])
def PX:=fun F_a0 caps_a0 (k_:V→U→(P X9)→Q (P X9))=>∀{v1 v2 v3} {zr},k_ v1 v2 v3=N zr→Kh Z 176 OV 10 [0,3,4,5] [] [384] ⟨[(0,vc (.dat (.clo F_a0 caps_a0))),pW 3 384,(4,vc (aB v1)),pI 5 v2],[],[(384,2,Y X9.row v3)]⟩ (A6 [2] [.sc (.o 2 (Y X9.row zr))])
theorem ZL{a0:U→Q V}{F_a0 caps_a0}(hF_a0:BA Z F_a0=T)(h_a0:∀z0 zr,a0 z0=N zr→FC Z F_a0 ([.sc (.int .i64 z0)]++caps_a0.map .sc) [.sc (.v (.bool zr))]){v2}{FG}(VE:PX F_a0 caps_a0 FG):ck F_a0 caps_a0 v2 (HY a0 v2 FG):=by
 intro v11 v12 r h σ hσ;unfold HY at h;have k0:= @VE;exact gc
theorem Zm{a0:U→Q V}{F_a0 caps_a0}(hF_a0:BA Z F_a0=T)(h_a0:∀z0 zr,a0 z0=N zr→FC Z F_a0 ([.sc (.int .i64 z0)]++caps_a0.map .sc) [.sc (.v (.bool zr))]){v2}{FG}(VE:PX F_a0 caps_a0 FG):cj F_a0 caps_a0 v2 (JJ a0 v2 FG):=by
 intro v9 r h σ hσ;unfold JJ at h;have s0:=fun(x10:X9)=> @N2 _ X9.row ((⟨x10.From,v2⟩:X9))
 have k0:= @ZL;exact gc
theorem A1d{a0:U→Q V}{F_a0 caps_a0}(hF_a0:BA Z F_a0=T)(h_a0:∀z0 zr,a0 z0=N zr→FC Z F_a0 ([.sc (.int .i64 z0)]++caps_a0.map .sc) [.sc (.v (.bool zr))]){n:W}:PX F_a0 caps_a0 (Fw a0 n):=by
 induction n with
 | zero=>intro _ _ _ r h; cases h
 | succ n ih=>
  intro v1 v2 v3 r h σ hσ S hS;refine ev hS ?_;rw[Fw] at h;refine AY (Aw ?_);obtain⟨h4,h⟩|⟨h4,h⟩:=ic h
  ·obtain⟨r5,h5,h⟩:=ob h;try simp only[hσ,h4,C,E,F,G,H,J]
   refine nd (h_a0 _ _ h5) hF_a0 X X (Cm X) X (uf X) ?_;obtain⟨h6,h⟩|⟨h6,h⟩:=ic h
   ·obtain⟨h7,h⟩|⟨h7,h⟩:=ic h
    ·try simp only[h4,h6,h7,C,E,F,G,H,J]
     refine Zm hF_a0 h_a0 ih h ?_ (by kernel_rfl);try simp only[h4,h6,h7,C,E,F,G,H,J,pL,aM,I]
    ·try simp only[h4,h6,h7,C,E,F,G,H,J]
     refine AS (es:=Y X9.row ([(⟨v2,(0:U)⟩:X9)]:P X9)) ?_;obtain⟨h8,h⟩:=AN h;try simp only[h4,h6,h7,h8,C,E,F,G,H,J]
     refine Zm hF_a0 h_a0 ih h ?_ (by kernel_rfl);try simp only[h4,h6,h7,h8,C,E,F,G,H,J,pL,aM,I]
   ·try simp only[h4,h6,C,E,F,G,H,J]
    refine ZL hF_a0 h_a0 ih h ?_ (by kernel_rfl);try simp only[h4,h6,C,E,F,G,H,J,pL,aM,I]
  ·try simp only[hσ,h4,C,E,F,G,H,J]
   cases h;exact t0
theorem A0i{a0}{r}(F_a0:FuncId)(caps_a0:P D)(hF_a0:BA Z F_a0=T)(h_a0:∀z0 zr,a0 z0=N zr→FC Z F_a0 ([.sc (.int .i64 z0)]++caps_a0.map .sc) [.sc (.v (.bool zr))])(h:Oq a0=N r):FC Z 176 [.sc (.clo F_a0 caps_a0)] [.sc (.o 2 (Y X9.row r))]:=by
 unfold Oq at h;refine A2 mixed OV [2] 30 ?_;have s0:= @AA (Y X9.row ([]:P X9));have k0:= @A1d;exact gc
instance A7s:Ct 180 (∀{a0} {a1} {r},LI a0 a1=N r→FC Z 180 [.sc (.int .i64 a0),.sc (.int .i64 a1)] [.sc (.v (.int .i64 r))]):=by
 refine⟨fun h=> ?_⟩;unfold LI at h;refine A2 mixed h0 [4] 46 ?_;exact gc
def UF:Hw:=([(8,[1,5,11,12,13],[],[])],[])
def bw:=fun a1 (a0:Xq) (k_:U→U→Q U)=>∀{v1 v2} {zr},k_ v1 v2=N zr→Kh Z 142 UF 8 [1,5,11,12,13] [] [] ⟨[pI 1 a1,pI 5 v1,pL 11 Xf.row a0.Parts,pI 12 (a0.Parts.length:U),pI 13 v2],[],[]⟩ (A6 [4] [.sc (.v (.int .i64 zr))])
theorem A1e{a1 a0}{n:W}:bw a1 a0 (HM a1 a0 n):=by
 induction n with
 | zero=>intro _ _ r h; cases h
 | succ n ih=>
  intro v1 v2 r h σ hσ;rw[HM] at h;exact gc
instance A7r:Ct 142 (∀{a0} {a1} {r},LG a0 a1=N r→FC Z 142 [.ag (Xq.row a0),.sc (.int .i64 a1)] [.sc (.v (.int .i64 r))]):=by
 refine⟨fun h=> ?_⟩;unfold LG at h;refine A2 mixed UF [4] 32 ?_;have k0:= @A1e;exact gc
def UG:Hw:=([(8,[1,5,9,10,11],[],[])],[])
def bG:=fun a1 (a0:Xb) (k_:U→U→Q U)=>∀{v1 v2} {zr},k_ v1 v2=N zr→Kh Z 97 UG 8 [1,5,9,10,11] [] [] ⟨[pI 1 a1,pI 5 v1,pL 9 Xc.row a0.Surges,pI 10 (a0.Surges.length:U),pI 11 v2],[],[]⟩ (A6 [4] [.sc (.v (.int .i64 zr))])
theorem A1f{a1 a0}{n:W}:bG a1 a0 (Fg a1 a0 n):=by
 induction n with
 | zero=>intro _ _ r h; cases h
 | succ n ih=>
  intro v1 v2 r h σ hσ;rw[Fg] at h;exact gc
instance yg:Ct 97 (∀{a0} {a1} {r},Jk a0 a1=N r→FC Z 97 [.ag (zG a0),.sc (.int .i64 a1)] [.sc (.v (.int .i64 r))]):=by
 refine⟨fun h=> ?_⟩;unfold Jk at h;refine A2 mixed UG [4] 23 ?_;have k0:= @A1f;exact gc
instance A6r:Ct 98 (∀{a0} {a1} {r},Ff a0 a1=N r→FC Z 98 [.ag (zG a0),.sc (.int .i64 a1)] [.sc (.v (.int .i64 r))]):=by
 refine⟨fun h=> ?_⟩;unfold Ff at h;refine A2 mixed h0 [4] 18 ?_;exact gc
theorem A1g{a0}{c0}{c1}{r}(h:Lf a0 c0 c1=N r):FC Z 177 [.sc (.int .i64 a0),.sc (.pd (zG c0)),.sc (.pd (rI c1))] [.sc (.v (.bool r))]:=by
 unfold Lf at h;refine A2 mixed h0 [4] 10 ?_;exact gc
instance A62:Ct 139 (∀{a0} {a1} {r},O6 a0 a1=N r→FC Z 139 [.ag (zG a0),.sc (.int .i64 a1)] [.sc (.o 2 (Y X9.row r))]):=by
 refine⟨fun{a0} {a1} {r} h=> ?_⟩;unfold O6 at h;refine A2 mixed h0 [4] 10 ?_;intro S hS;refine ev hS ?_;simp only[C,E,F,G,H,J];try simp only[C,E,F,G,H,J]
 refine BZ ?_;try simp only[C,E,F,G,H,J]
 refine BZ ?_;obtain⟨r1,h1,h⟩:=ob h;try simp only[C,E,F,G,H,J]
 refine Ao (A8 yf h1) ?_;obtain⟨h2,h⟩|⟨h2,h⟩:=ic h
 ·obtain⟨r3,h3,h⟩:=ob h;try simp only[h2,C,E,F,G,H,J]
  refine Ec (A0i 177 [.pd (zG a0),.pd (rI a1)] (by kernel_rfl) (fun z0 zr zh=>A1g zh) h3) X (Ea X ⟨Eb,⟨⟩⟩) X (uf X) ?_;try simp only[h2,C,E,F,G,H,J]
  cases h;exact t0
 ·try simp only[h2,C,E,F,G,H,J]
  cases h;exact t0
instance A64:Ct 141 (∀{a0} {a1} {a2} {r},O7 a0 a1 a2=N r→FC Z 141 [.ag (X4.row a0),.sc (.int .i64 a1),.ag (X8.row a2)] [.sc (.v (.int .i64 r))]):=by
 refine⟨fun h=> ?_⟩;unfold O7 at h;refine A2 mixed h0 [6] 30 ?_;exact gc
def UH:Hw:=([(6,[0,5,6,7],[],[])],[])
def cA:=fun a0 (k_:U→Q V)=>∀{v1} {zr},k_ v1=N zr→Kh Z 136 UH 6 [0,5,6,7] [] [] ⟨[pL 0 X9.row a0,pL 5 X9.row a0,pI 6 (a0.length:U),pI 7 v1],[],[]⟩ (A6 [2] [.sc (.v (.bool zr))])
theorem A1h{a0}{n:W}:cA a0 (Gh a0 n):=by
 induction n with
 | zero=>intro _ r h; cases h
 | succ n ih=>
  intro v1 r h σ hσ;rw[Gh] at h;exact gc
instance A7t:Ct 136 (∀{a0} {r},Jv a0=N r→FC Z 136 [.sc (.sl (Y X9.row a0))] [.sc (.v (.bool r))]):=by
 refine⟨fun h=> ?_⟩;unfold Jv at h;refine A2 mixed UH [2] 44 ?_;have k0:= @A1h;exact gc
def UI:Hw:=([(16,[1,5,17,18,19],[],[1024])],[])
def bq:=fun a1 a0 (k_:U→(P X9)→Q (P X9))=>∀{v5 v6} {zr},k_ v5 v6=N zr→Kh Z 138 UI 16 [1,5,17,18,19] [] [1024] ⟨[pI 1 a1,pW 5 1024,pL 17 X9.row a0,pI 18 (a0.length:U),pI 19 v5],[],[(1024,2,Y X9.row v6)]⟩ (A6 [4] [.sc (.o 2 (Y X9.row zr))])
theorem A1i{a1 a0}{n:W}:bq a1 a0 (Gf a1 a0 n):=by
 induction n with
 | zero=>intro _ _ r h; cases h
 | succ n ih=>
  intro v5 v6 r h σ hσ;rw[Gf] at h;have s0:=fun(x8:X9)=> @AA (Y X9.row ([(⟨x8.From,(IntKind.i64.wrap (x8.To - a1))⟩:X9)]:P X9))
  exact gc
instance A7m:Ct 138 (∀{a0} {a1} {r},Lz a0 a1=N r→FC Z 138 [.sc (.sl (Y X9.row a0)),.sc (.int .i64 a1)] [.sc (.o 2 (Y X9.row r))]):=by
 refine⟨fun h=> ?_⟩;unfold Lz at h;refine A2 mixed UI [4] 42 ?_;have s0:= @AA (Y X9.row ([]:P X9));have k0:= @A1i;exact gc
instance yy:Ct 95 (∀{a0} {a1} {a2} {a3} {r},Jt a0 a1 a2 a3=N r→FC Z 95 [.ag (zG a0),.ag (X4.row a1),.sc (.int .i64 a2),.ag (X8.row a3)] [.sc (.o 2 (Y X9.row r))]):=by
 refine⟨fun h=> ?_⟩;unfold Jt at h;refine A2 mixed h0 [8] 30 ?_;exact gc
def R4:Hw:=([(5,[3,4,5,6,7,10,34],[5,6,7,10],[]),(16,[4,5,6,7,10,12,43,44,45],[5,6,7,10,12],[140288,140352,140416])],[(11,3,(O,.ownb 12 0 140288 1)),(11,4,(O,.ownb 12 1 140352 1)),(11,5,(O,.ownb 12 2 140416 1)),(14,6,(O,.frz 2560))])
def cf:=fun a4 (a0:Xb) (a1:X4) (a2:X8) y11 y12 (k_:U→(P V)→(P U)→(P (P X9))→Q (Xk × V))=>∀{v13 v14 v15 v16} {zr},k_ v13 v14 v15 v16=N zr→Kh Z 190 R4 16 [4,5,6,7,10,12,43,44,45] [5,6,7,10,12] [140288,140352,140416] ⟨[pL 4 rI a4,pB 5,pB 6,pB 7,pB 10,pB 12,pL 43 rI y11,pI 44 y12,pI 45 v13],[(5,(dm a0.row)),(6,(dm a1.row)),(7,(dm a2.row)),(10,[.nil,.nil,.nil]),(12,[.own 140288,.own 140352,.own 140416])],[(140288,1,Y rB v14),(140352,1,Y rI v15),(140416,1,Y (rL X9.row) v16)]⟩ (A6 [.c 10 T 3,11] [.ag [.o 1 (Y rB zr.1.waits),.o 1 (Y rI zr.1.minutes),.o 1 (Y (rL X9.row) zr.1.sure)],.sc (.v (.bool zr.2))])
def ce:=fun a3 a4 (a0:Xb) (a1:X4) (a2:X8) (k_:V→Q (Xk × V))=>∀{v7} {zr},k_ v7=N zr→Kh Z 190 R4 5 [3,4,5,6,7,10,34] [5,6,7,10] [] ⟨[pI 3 a3,pL 4 rI a4,pB 5,pB 6,pB 7,pB 10,(34,vc (aB v7))],[(5,(dm a0.row)),(6,(dm a1.row)),(7,(dm a2.row)),(10,[.nil,.nil,.nil])],[]⟩ (A6 [.c 10 T 3,11] [.ag [.o 1 (Y rB zr.1.waits),.o 1 (Y rI zr.1.minutes),.o 1 (Y (rL X9.row) zr.1.sure)],.sc (.v (.bool zr.2))])
theorem A1j{a4 a0 a1 a2 y11 y12}{n:W}:cf a4 a0 a1 a2 y11 y12 (HX a4 a0 a1 a2 y11 y12 n):=by
 induction n with
 | zero=>intro _ _ _ _ r h; cases h
 | succ n ih=>
  intro v13 v14 v15 v16 r h σ hσ S hS;refine ev hS ?_;rw[HX] at h;refine AY (Aw ?_);obtain⟨h17,h⟩|⟨h17,h⟩:=ic h
  ·obtain⟨x18,h18,h⟩:=ob h;try simp only[hσ,h17,h18,C,E,F,G,H,J]
   refine Ai ?_;obtain⟨x19,h19,h⟩:=ob h;try simp only[h17,h18,h19,C,E,F,G,H,J]
   refine AS (es:=Y rB ([x19.Wait]:P V)) ?_;obtain⟨h20,h⟩:=AN h;try simp only[h17,h18,h19,h20,C,E,F,G,H,J]
   refine Ai ?_;try simp only[h17,h18,h19,h20,C,E,F,G,H,J]
   refine Ai ?_;try simp only[h17,h18,h19,h20,C,E,F,G,H,J]
   refine Ai ?_;obtain⟨x21,h21,h⟩:=ob h;obtain⟨x22,h22,h⟩:=ob h;obtain⟨r23,h23,h⟩:=ob h;try simp only[h17,h18,h19,h20,h21,h22,C,E,F,G,H,J]
   refine AX (A8 Zg h23) ?_;try simp only[h17,h18,h19,h20,h21,h22,C,E,F,G,H,J]
   refine AS (es:=Y rI ([r23]:P U)) ?_;obtain⟨h24,h⟩:=AN h;try simp only[h17,h18,h19,h20,h21,h22,h24,C,E,F,G,H,J]
   refine Ai ?_;try simp only[h17,h18,h19,h20,h21,h22,h24,C,E,F,G,H,J]
   refine Ai ?_;try simp only[h17,h18,h19,h20,h21,h22,h24,C,E,F,G,H,J]
   refine Ai ?_;obtain⟨r25,h25,h⟩:=ob h;try simp only[h17,h18,h19,h20,h21,h22,h24,C,E,F,G,H,J]
   refine AX (FC.asV (rs':= [.sc (.v (.sl (Y X9.row r25)))]) (A8 yy h25) X) ?_;try simp only[h17,h18,h19,h20,h21,h22,h24,C,E,F,G,H,J]
   refine AS (es:=Y (rL X9.row) ([r25]:P (P X9))) ?_;obtain⟨h26,h⟩:=AN h;try simp only[h17,h18,h19,h20,h21,h22,h24,h26,C,E,F,G,H,J]
   refine Ai ?_;try simp only[h17,h18,h19,h20,h21,h22,h24,h26,C,E,F,G,H,J]
   refine Ai ?_;try simp only[h17,h18,h19,h20,h21,h22,h24,h26,C,E,F,G,H,J]
   refine ih h ?_ (by kernel_rfl);try simp only[h17,h18,h19,h20,h21,h22,h24,h26,C,E,F,G,H,J,pL,aM,I]
  ·try simp only[hσ,h17,C,E,F,G,H,J]
   cases h;try simp only[DT,C,E,F,G,H,J]
   trivial
theorem A1k{a3 a4 a0 a1 a2}:ce a3 a4 a0 a1 a2 (HW a3 a4 a0 a1 a2):=by
 intro v7 r h σ hσ S hS;refine ev hS ?_;refine Aw ?_;unfold HW at h;obtain⟨h8,h⟩|⟨h8,h⟩:=ic h
 ·try simp only[hσ,h8,C,E,F,G,H,J]
  cases h;try simp only[DT,C,E,F,G,H,J]
  trivial
 ·try simp only[hσ,h8,C,E,F,G,H,J]
  refine B0 ?_;try simp only[h8,C,E,F,G,H,J]
  refine EK (cs':= [.own 140288,.nil,.nil]) X X X X ?_;try simp only[h8,C,E,F,G,H,J]
  refine EK (cs':= [.own 140288,.own 140352,.nil]) X X X X ?_;try simp only[h8,C,E,F,G,H,J]
  refine EK (cs':= [.own 140288,.own 140352,.own 140416]) X X X X ?_;obtain⟨r9,h9,h⟩:=ob h;try simp only[h8,C,E,F,G,H,J]
  refine Ao (A8 Zd h9) ?_;try simp only[h8,C,E,F,G,H,J]
  refine Ae ?_;obtain⟨p10,h10,h⟩:=ob h;try simp only[h8,h10,C,E,F,G,H,J]
  refine A1j h ?_ (by kernel_rfl);try simp only[h8,h10,C,E,F,G,H,J,pL,aM,I]
instance A8h:Ct 190 (∀{a0} {a1} {a2} {a3} {a4} {r},M4 a0 a1 a2 a3 a4=N r→FC Z 190 [.ag (zG a0),.ag (X4.row a1),.ag (X8.row a2),.sc (.int .i64 a3),.sc (.sl (Y rI a4))] [.ag [.o 1 (Y rB r.1.waits),.o 1 (Y rI r.1.minutes),.o 1 (Y (rL X9.row) r.1.sure)],.sc (.v (.bool r.2))]):=by
 refine⟨fun h=> ?_⟩;unfold M4 at h;refine A2 mixed R4 [.c 10 T 3,11] 91 ?_;have k0:= @A1k;exact gc
def UJ:Hw:=([(7,[2,3,4,6,28],[3,4,6],[])],[])
def cF:=fun a2 (a0:X1) (a1:X3) (k_:V→Q (Xk × V))=>∀{v4} {zr},k_ v4=N zr→Kh Z 161 UJ 7 [2,3,4,6,28] [3,4,6] [] ⟨[pL 2 rI a2,pB 3,pB 4,pB 6,(28,vc (aB v4))],[(3,(dm a0.row)),(4,(dm a1.row)),(6,[.nil,.nil,.nil])],[]⟩ (A6 [.c 6 T 3,7] [.ag [.o 1 (Y rB zr.1.waits),.o 1 (Y rI zr.1.minutes),.o 1 (Y (rL X9.row) zr.1.sure)],.sc (.v (.bool zr.2))])
theorem Zn{a2 a0 a1}:cF a2 a0 a1 (Jy a2 a0 a1):=by
 intro v4 r h σ hσ;unfold Jy at h;exact gc
instance A7w:Ct 161 (∀{a0} {a1} {a2} {r},Gi a0 a1 a2=N r→FC Z 161 [.ag (X1.row a0),.ag (X3.row a1),.sc (.sl (Y rI a2))] [.ag [.o 1 (Y rB r.1.waits),.o 1 (Y rI r.1.minutes),.o 1 (Y (rL X9.row) r.1.sure)],.sc (.v (.bool r.2))]):=by
 refine⟨fun{a0} {a1} {a2} {r} h=> ?_⟩;unfold Gi at h;refine A2 mixed UJ [.c 6 T 3,7] 46 ?_;intro S hS;refine ev hS ?_;simp only[C,E,F,G,H,J];try simp only[C,E,F,G,H,J]
 refine BZ ?_;try simp only[C,E,F,G,H,J]
 refine BZ ?_;try simp only[C,E,F,G,H,J]
 refine B0 ?_;obtain⟨r1,h1,h⟩:=ob h;try simp only[C,E,F,G,H,J]
 refine Ao (A8 Zd h1) ?_;try simp only[C,E,F,G,H,J]
 refine Ai ?_;obtain⟨h2,h⟩|⟨h2,h⟩:=ic h
 ·try simp only[h2,C,E,F,G,H,J]
  refine Zn h ?_ (by kernel_rfl);try simp only[h2,C,E,F,G,H,J,pL,aM,I]
 ·obtain⟨x3,h3,h⟩:=ob h;have h3n:=Am h3;try simp only[h2,h3,h3n,C,E,F,G,H,J]
  refine Zn h ?_ (by kernel_rfl);try simp only[h2,h3,h3n,C,E,F,G,H,J,pL,aM,I]
def UK:Hw:=([(6,[1,7,8,9],[],[])],[])
def bJ:=fun a1 a0 (k_:U→Q V)=>∀{v1} {zr},k_ v1=N zr→Kh Z 212 UK 6 [1,7,8,9] [] [] ⟨[pI 1 a1,pL 7 X9.row a0,pI 8 (a0.length:U),pI 9 v1],[],[]⟩ (A6 [4] [.sc (.v (.bool zr))])
theorem A1l{a1 a0}{n:W}:bJ a1 a0 (Ht a1 a0 n):=by
 induction n with
 | zero=>intro _ r h; cases h
 | succ n ih=>
  intro v1 r h σ hσ;rw[Ht] at h;exact gc
instance A6v:Ct 212 (∀{a0} {a1} {r},O3 a0 a1=N r→FC Z 212 [.sc (.sl (Y X9.row a0)),.sc (.int .i64 a1)] [.sc (.v (.bool r))]):=by
 refine⟨fun h=> ?_⟩;unfold O3 at h;refine A2 mixed UK [4] 20 ?_;have k0:= @A1l;exact gc
def UL:Hw:=([(14,[1,10,11,12],[],[])],[])
def bQ:=fun a1 a0 (k_:U→Q U)=>∀{v3} {zr},k_ v3=N zr→Kh Z 213 UL 14 [1,10,11,12] [] [] ⟨[pI 1 a1,pL 10 X9.row a0,pI 11 (a0.length:U),pI 12 v3],[],[]⟩ (A6 [4] [.sc (.v (.int .i64 zr))])
theorem A1m{a1 a0}{n:W}:bQ a1 a0 (Hy a1 a0 n):=by
 induction n with
 | zero=>intro _ r h; cases h
 | succ n ih=>
  intro v3 r h σ hσ;rw[Hy] at h;exact gc
instance yk:Ct 213 (∀{a0} {a1} {r},Lh a0 a1=N r→FC Z 213 [.sc (.sl (Y X9.row a0)),.sc (.int .i64 a1)] [.sc (.v (.int .i64 r))]):=by
 refine⟨fun h=> ?_⟩;unfold Lh at h;refine A2 mixed UL [4] 25 ?_;have k0:= @A1m;exact gc
def R6:Hw:=([(16,[2,6,7],[2],[1152]),(32,[2,6,7,9,59],[2],[1152])],[])
def cg:=fun v4 r10 (a0:Xk) v5 (k_:V→Q ((P U) × V))=>∀{v14} {zr},k_ v14=N zr→Kh Z 191 R6 32 [2,6,7,9,59] [2] [1152] ⟨[pB 2,pW 6 1152,pI 7 v4,pI 9 r10,(59,vc (aB v14))],[(2,(dm a0.row))],[(1152,1,Y rI v5)]⟩ (A6 [4,5] [.sc (.o 1 (Y rI zr.1)),.sc (.v (.bool zr.2))])
def Tc:=fun(a0:Xk) (k_:U→(P U)→Q ((P U) × V))=>∀{v4 v5} {zr},k_ v4 v5=N zr→Kh Z 191 R6 16 [2,6,7] [2] [1152] ⟨[pB 2,pW 6 1152,pI 7 v4],[(2,(dm a0.row))],[(1152,1,Y rI v5)]⟩ (A6 [4,5] [.sc (.o 1 (Y rI zr.1)),.sc (.v (.bool zr.2))])
theorem SG{v4 r10 a0 v5}{Pe}(pc:Tc a0 Pe):cg v4 r10 a0 v5 (Fv v4 r10 a0 v5 Pe):=by
 intro v14 r h σ hσ;unfold Fv at h;have s0:= @AA (Y rI ([r10]:P U));have k0:= @pc;exact gc
theorem A1n{a0}{n:W}:Tc a0 (EI a0 n):=by
 induction n with
 | zero=>intro _ _ r h; cases h
 | succ n ih=>
  intro v4 v5 r h σ hσ S hS;refine ev hS ?_;rw[EI] at h;refine AY (Aw ?_);obtain⟨h6,h⟩|⟨h6,h⟩:=ic h
  ·try simp only[hσ,h6,C,E,F,G,H,J]
   refine Ai ?_;obtain⟨x7,h7,h⟩:=ob h;have h7n:=Am h7;obtain⟨x8,h8,h⟩:=ob h;obtain⟨x9,h9,h⟩:=ob h;obtain⟨r10,h10,h⟩:=ob h;try simp only[h6,h7,h7n,h8,h9,C,E,F,G,H,J]
   refine Ao (A8 yk h10) ?_;obtain⟨h11,h⟩|⟨h11,h⟩:=ic h
   ·try simp only[h6,h7,h7n,h8,h9,h11,C,E,F,G,H,J]
    refine SG ih h ?_ (by kernel_rfl);try simp only[h6,h7,h7n,h8,h9,h11,C,E,F,G,H,J,pL,aM,I]
   ·obtain⟨h12,h⟩|⟨h12,h⟩:=ic h
    ·obtain⟨x13,h13,h⟩:=ob h;try simp only[h6,h7,h7n,h8,h9,h11,h12,h13,C,E,F,G,H,J]
     refine SG ih h ?_ (by kernel_rfl);try simp only[h6,h7,h7n,h8,h9,h11,h12,h13,C,E,F,G,H,J,pL,aM,I]
    ·try simp only[h6,h7,h7n,h8,h9,h11,h12,C,E,F,G,H,J]
     refine SG ih h ?_ (by kernel_rfl);try simp only[h6,h7,h7n,h8,h9,h11,h12,C,E,F,G,H,J,pL,aM,I]
  ·try simp only[hσ,h6,C,E,F,G,H,J]
   cases h;trivial
instance A8i:Ct 191 (∀{a0} {a1} {r},M5 a0 a1=N r→FC Z 191 [.ag (Xk.row a0),.sc (.int .i64 a1)] [.sc (.o 1 (Y rI r.1)),.sc (.v (.bool r.2))]):=by
 refine⟨fun{a0} {a1} {r} h=> ?_⟩;unfold M5 at h;refine A2 mixed R6 [4,5] 65 ?_;have s0:= @AA (Y rI ([a1]:P U));have k0:= @A1n;exact gc
def UM:Hw:=([(18,[1,5,6,8,13,14,40,41,42],[6,8],[2432,2496])],[])
def bV:=fun a1 a5 a4 (a0:X4) (a2:X8) r6 (k_:U→(P X2)→Q (P X2))=>∀{v7 v8} {zr},k_ v7 v8=N zr→Kh Z 192 UM 18 [1,5,6,8,13,14,40,41,42] [6,8] [2432,2496] ⟨[pI 1 a1,pL 5 rI a5,pB 6,pB 8,pW 13 2432,pW 14 2496,pL 40 rI a4,pI 41 (a4.length:U),pI 42 v7],[(6,(dm a0.row)),(8,(dm a2.row))],[(2432,1,Y rI r6),(2496,5,Y X2.row v8)]⟩ (A6 [12] [.sc (.o 5 (Y X2.row zr))])
theorem A1o{a1 a5 a4 a0 a2 r6}{n:W}:bV a1 a5 a4 a0 a2 r6 (HA a1 a5 a4 a0 a2 r6 n):=by
 induction n with
 | zero=>intro _ _ r h; cases h
 | succ n ih=>
  intro v7 v8 r h σ hσ S hS;refine ev hS ?_;rw[HA] at h;refine AY (Aw ?_);obtain⟨h9,h⟩|⟨h9,h⟩:=ic h
  ·obtain⟨x10,h10,h⟩:=ob h;obtain⟨x11,h11,h⟩:=ob h;obtain⟨r12,h12,h⟩:=ob h;try simp only[hσ,h9,h10,h11,C,E,F,G,H,J]
   refine Ao (A8 zt h12) ?_;obtain⟨h13,h⟩|⟨h13,h⟩:=ic h
   ·obtain⟨x14,h14,h⟩:=ob h;try simp only[h9,h10,h11,h13,h14,C,E,F,G,H,J]
    refine B0 ?_;try simp only[h9,h10,h11,h13,h14,C,E,F,G,H,J]
    refine Ai ?_;obtain⟨x15,h15,h⟩:=ob h;have h15n:=Am h15;obtain⟨r16,h16,h⟩:=ob h;try simp only[h9,h10,h11,h13,h14,h15,h15n,C,E,F,G,H,J]
    refine AX (A8 Zg h16) ?_;try simp only[h9,h10,h11,h13,h14,h15,h15n,C,E,F,G,H,J]
    refine AS (es:=Y X2.row ([(⟨a1,x10,(x15==x14.A),x11,(IntKind.i64.wrap (x11+r16))⟩:X2)]:P X2)) ?_;obtain⟨h17,h⟩:=AN h;try simp only[h9,h10,h11,h13,h14,h15,h15n,h17,C,E,F,G,H,J]
    refine Ai ?_;try simp only[h9,h10,h11,h13,h14,h15,h15n,h17,C,E,F,G,H,J]
    refine ih h ?_ (by kernel_rfl);try simp only[h9,h10,h11,h13,h14,h15,h15n,h17,C,E,F,G,H,J,pL,aM,I]
   ·try simp only[h9,h10,h11,h13,C,E,F,G,H,J]
    cases h;exact t0
  ·try simp only[hσ,h9,C,E,F,G,H,J]
   cases h;exact t0
instance A7a:Ct 192 (∀{a0} {a1} {a2} {a3} {a4} {a5} {r},Ln a0 a1 a2 a3 a4 a5=N r→FC Z 192 [.ag (X4.row a0),.sc (.int .i64 a1),.ag (X8.row a2),.sc (.int .i64 a3),.sc (.sl (Y rI a4)),.sc (.sl (Y rI a5))] [.sc (.o 5 (Y X2.row r))]):=by
 refine⟨fun h=> ?_⟩;unfold Ln at h;refine A2 mixed UM [12] 85 ?_;have s0:= @AA (Y X2.row ([]:P X2));have k0:= @A1o;exact gc
instance A6d:Ct 193 (∀{a0} {a1} {a2} {a3} {r},KV a0 a1 a2 a3=N r→FC Z 193 [.ag (X4.row a0),.ag (X8.row a1),.sc (.sl (Y rI a2)),.sc (.sl (Y rI a3))] [.sc (.v (.int .i64 r))]):=by
 refine⟨fun h=> ?_⟩;unfold KV at h;refine A2 mixed h0 [8] 55 ?_;exact gc
def ZP:P (P W × AItem):= [([],(O,.load 72 (S 16) T 4)),([],(O,.faddr 73 (S 16) 1)),([1],(O,.load 74 (S 73) L 1)),([2],(O,.bin 75 .leq (S 74) (K 2880))),([0,0],(O,.store (S 10) (S 72) 4)),([3,4,0,1,2,3,4],(O,.mv 11 (S 75)))]
def UN:Hw:=([(24,[10,16,60,61,62],[10,16],[2752])],[])
abbrev IC(a4 r5 v7:U)(c0_ c1_:V)(c2_ c3_ c5_:V)(bx_:P (W × P AC))(rs_:Rows):St:=⟨[(10,vc (.pb 10 0)),(16,vc (.pb 16 0)),(72,bif c0_ then va [aI a4,aI r5,aI v7,.own 2752] else .undef),(73,bif c1_ then vc (.pb 16 1) else .undef),(74,bif c2_ then vc (aI r5) else .undef),(75,bif c3_ then vc (aB (decide (r5≤(2880:U)))) else .undef),(11,bif c5_ then vc (aB (decide (r5≤(2880:U)))) else .undef)],bx_,rs_⟩
abbrev PJ(a4 r5:U)(r4:(P X2))(v7:U):St:=(IC a4 r5 v7 T T T T T [(10,[aI a4,aI r5,aI v7,.own 2752]),(16,[aI a4,aI r5,aI v7,.own 2752])] [(2752,5,Y X2.row r4)])
theorem A1p(a4 r5 r4 v7):∀(f:W) (b1 b2:V) (b3 b5:V),Av Z ZP (PJ a4 r5 r4 v7) f [T,b1,b2,b3,T,b5] (IC a4 r5 v7 T b1 b2 b3 b5 [(10,[aI a4,aI r5,aI v7,.own 2752]),(16,[aI a4,aI r5,aI v7,.own 2752])] [(2752,5,Y X2.row r4)]):=by
 intro f
 induction f with
 | zero=>
  intro b1 b2 b3 b5 h;obtain rfl:b1=T:=zA.1 h b1 (by simp);obtain rfl:b2=T:=zA.1 h b2 (by simp);obtain rfl:b3=T:=zA.1 h b3 (by simp);obtain rfl:b5=T:=zA.1 h b5 (by simp);rfl
 | succ f ih=>
  intro b1 b2 b3 b5;refine AF ⟨?_,?_,?_,?_,?_,?_,⟨⟩⟩<;>try first | (intro h; cases h; done) | (intro h0 hw; obtain rfl:=hz h0 rfl; (try obtain rfl:=hq hw 1 rfl rfl); (try obtain rfl:=hq hw 2 rfl rfl); (try obtain rfl:=hq hw 3 rfl rfl); refine np ?_; simp only[IC,Ac,Af,A7,C,E,F,G,H,J]; exact ih _ _ _ _)
theorem A1q(a4 r5 r4 v7):∀(f:W) (b0 b1:V) (b2 b3:V),Av Z ZP (PJ a4 r5 r4 v7) f [b0,b1,b2,b3,L,L] (IC a4 r5 v7 b0 b1 b2 b3 L [(10,[aI (0:U),aI (0:U),aI (0:U),.nil]),(16,[aI a4,aI r5,aI v7,.own 2752])] [(2752,5,Y X2.row r4)]):=by
 intro f
 induction f with
 | zero=>intro b0 b1 b2 b3 h; simp at h
 | succ f ih=>
  intro b0 b1 b2 b3;refine AF ⟨?_,?_,?_,?_,?_,?_,⟨⟩⟩<;>try first | (intro _ hw; simp at hw; done) | (intro h0 hw; obtain rfl:=hz h0 rfl; (try obtain rfl:=hq hw 1 rfl rfl); (try obtain rfl:=hq hw 2 rfl rfl); refine np ?_; simp only[IC,Ac,Af,A7,C,E,F,G,H,J]; exact ih _ _ _ _)
  ·intro h0 hw;obtain rfl:=hq hw 0 rfl rfl;refine np ?_;try simp only[IC,Ac,Af,A7,C,E,F,G,H,J]
   exact A1p a4 r5 r4 v7 _ b1 b2 b3 L
def cT:=fun(a2:Xk) a4 r5 r4 (k_:U→U→Q (X0 × V))=>∀{v6 v7} {zr},k_ v6 v7=N zr→Kh Z 162 UN 24 [10,16,60,61,62] [10,16] [2752] ⟨[pB 10,pB 16,pL 60 rI a2.minutes,pI 61 (a2.minutes.length:U),pI 62 v6],[(10,[aI (0:U),aI (0:U),aI (0:U),.nil]),(16,[aI a4,aI r5,aI v7,.own 2752])],[(2752,5,Y X2.row r4)]⟩ (A6 [.c 10 T 4,11] [.ag [.v (.int .i64 zr.1.Start),.v (.int .i64 zr.1.Arrival),.v (.int .i64 zr.1.Cost),.o 5 (Y X2.row zr.1.Passages)],.sc (.v (.bool zr.2))])
theorem A1r{a2 a4 r5 r4}{n:W}:cT a2 a4 r5 r4 (HS a2 a4 r5 r4 n):=by
 induction n with
 | zero=>intro _ _ r h; cases h
 | succ n ih=>
  intro v6 v7 r h σ hσ S hS;refine ev hS ?_;rw[HS] at h;refine AY (Aw ?_);obtain⟨h8,h⟩|⟨h8,h⟩:=ic h
  ·obtain⟨x9,h9,h⟩:=ob h;try simp only[hσ,h8,h9,C,E,F,G,H,J]
   refine ih h ?_ (by kernel_rfl);try simp only[h8,h9,C,E,F,G,H,J,pL,aM,I]
  ·try simp only[hσ,h8,C,E,F,G,H,J]
   refine EJ (ks:= [10,16]) (bs:= [10,16]) (rs:= [2752]) (τ:=(PJ a4 r5 r4 v7)) X (A1q a4 r5 r4 v7 _ L L L L) ?_;simp only[PJ,IC,Ac];try simp only[h8,C,E,F,G,H,J]
   cases h;try simp only[DT,C,E,F,G,H,J]
   trivial
instance zx:Ct 162 (∀{a0} {a1} {a2} {a3} {a4} {r},Fs a0 a1 a2 a3 a4=N r→FC Z 162 [.ag (X1.row a0),.ag (X3.row a1),.ag (Xk.row a2),.sc (.sl (Y rI a3)),.sc (.int .i64 a4)] [.ag [.v (.int .i64 r.1.Start),.v (.int .i64 r.1.Arrival),.v (.int .i64 r.1.Cost),.o 5 (Y X2.row r.1.Passages)],.sc (.v (.bool r.2))]):=by
 refine⟨fun h=> ?_⟩;unfold Fs at h;refine A2 mixed UN [.c 10 T 4,11] 76 ?_;have k0:= @A1r;exact gc
def R7:Hw:=([(28,[2,3,5,7,9,10],[2,3,7],[1984,1985,1986,2560]),(44,[2,3,5,7,9,10],[2,3,7],[1984,1985,1986,2560])],[(42,2,(O,.frz 3843))])
def bS:=fun(r3:(P U) × V) v7 (a0:X1) (a1:X3) (r4:Xk × V) (k_:(P X0)→Q (P X0))=>∀{v14} {zr},k_ v14=N zr→Kh Z 126 R7 44 [2,3,5,7,9,10] [2,3,7] [1984,1985,1986,2560] ⟨[pB 2,pB 3,pL 5 rI r3.1,pB 7,pW 9 2560,pI 10 v7],[(2,(dm a0.row)),(3,(dm a1.row)),(7,[.own 1984,.own 1985,.own 1986])],[(1984,1,Y rB r4.1.waits),(1985,1,Y rI r4.1.minutes),(1986,1,Y (rL X9.row) r4.1.sure),(2560,4,Y X0.row v14)]⟩ (A6 [4] [.sc (.o 4 (Y X0.row zr))])
def T0:=fun(r3:(P U) × V) (a0:X1) (a1:X3) (r4:Xk × V) (k_:U→(P X0)→Q (P X0))=>∀{v7 v8} {zr},k_ v7 v8=N zr→Kh Z 126 R7 28 [2,3,5,7,9,10] [2,3,7] [1984,1985,1986,2560] ⟨[pB 2,pB 3,pL 5 rI r3.1,pB 7,pW 9 2560,pI 10 v7],[(2,(dm a0.row)),(3,(dm a1.row)),(7,[.own 1984,.own 1985,.own 1986])],[(1984,1,Y rB r4.1.waits),(1985,1,Y rI r4.1.minutes),(1986,1,Y (rL X9.row) r4.1.sure),(2560,4,Y X0.row v8)]⟩ (A6 [4] [.sc (.o 4 (Y X0.row zr))])
theorem Zp{r3 v7 a0 a1 r4}{Pb}(pO:T0 r3 a0 a1 r4 Pb):bS r3 v7 a0 a1 r4 (Jn r3 v7 a0 a1 r4 Pb):=by
 intro v14 r h σ hσ;unfold Jn at h;have k0:= @pO;exact gc
theorem A1s{r3 a0 a1 r4}{n:W}:T0 r3 a0 a1 r4 (Gb r3 a0 a1 r4 n):=by
 induction n with
 | zero=>intro _ _ r h; cases h
 | succ n ih=>
  intro v7 v8 r h σ hσ S hS;refine ev hS ?_;rw[Gb] at h;refine AY (Aw ?_);obtain⟨h9,h⟩|⟨h9,h⟩:=ic h
  ·obtain⟨h10,h⟩|⟨h10,h⟩:=ic h
   ·obtain⟨r11,h11,h⟩:=ob h;try simp only[hσ,h9,h10,C,E,F,G,H,J]
    refine Ec (A8 zx h11) X (Ea X ⟨X,X,X,Eb,X,⟨⟩⟩) X (uf X) ?_;try simp only[h9,h10,C,E,F,G,H,J]
    refine B0 ?_;obtain⟨h12,h⟩|⟨h12,h⟩:=ic h
    ·try simp only[h9,h10,h12,C,E,F,G,H,J]
     refine Ae ?_;try simp only[h9,h10,h12,C,E,F,G,H,J]
     refine AS (es:=Y X0.row ([r11.1]:P X0)) ?_;obtain⟨h13,h⟩:=AN h;try simp only[h9,h10,h12,h13,C,E,F,G,H,J]
     refine Zp ih h ?_ (by kernel_rfl);try simp only[h9,h10,h12,h13,C,E,F,G,H,J,pL,aM,I]
    ·try simp only[h9,h10,h12,C,E,F,G,H,J]
     refine Zp ih h ?_ (by kernel_rfl);try simp only[h9,h10,h12,C,E,F,G,H,J,pL,aM,I]
   ·try simp only[hσ,h9,h10,C,E,F,G,H,J]
    cases h;exact t0
  ·try simp only[hσ,h9,C,E,F,G,H,J]
   cases h;exact t0
instance Sy:Ct 126 (∀{a0} {a1} {r},Dl a0 a1=N r→FC Z 126 [.ag (X1.row a0),.ag (X3.row a1)] [.sc (.o 4 (Y X0.row r))]):=by
 refine⟨fun h=> ?_⟩;unfold Dl at h;refine A2 mixed R7 [4] 69 ?_;have s0:= @AA (Y X0.row ([]:P X0));have k0:= @A1s;exact gc
def UO:Hw:=([(8,[2,5,9,10,11],[2],[512])],[(19,4,(O,.frz 1152))])
def cE:=fun a1 (a0:X1) (k_:U→(P (P X0))→Q (P (P X0)))=>∀{v1 v2} {zr},k_ v1 v2=N zr→Kh Z 118 UO 8 [2,5,9,10,11] [2] [512] ⟨[pB 2,pW 5 512,pL 9 X3.row a1,pI 10 (a1.length:U),pI 11 v1],[(2,(dm a0.row))],[(512,1,Y (rL X0.row) v2)]⟩ (A6 [4] [.sc (.o 1 (Y (rL X0.row) zr))])
theorem A1t{a1 a0}{n:W}:cE a1 a0 (HN a1 a0 n):=by
 induction n with
 | zero=>intro _ _ r h; cases h
 | succ n ih=>
  intro v1 v2 r h σ hσ;rw[HN] at h;have s0:=fun(r5:(P X0))=> @AA (Y (rL X0.row) ([r5]:P (P X0)))
  exact gc
instance zg:Ct 118 (∀{a0} {a1} {r},Jw a0 a1=N r→FC Z 118 [.ag (X1.row a0),.sc (.sl (Y X3.row a1))] [.sc (.o 1 (Y (rL X0.row) r))]):=by
 refine⟨fun h=> ?_⟩;unfold Jw at h;refine A2 mixed UO [4] 23 ?_;have s0:= @AA (Y (rL X0.row) ([]:P (P X0)));have k0:= @A1t;exact gc
instance A0h:Ct 188 (∀{a0} {a1} {r},M6 a0 a1=N r→FC Z 188 [.ag (Xi.row a0),.ag (Xi.row a1)] [.sc (.v (.bool r))]):=by
 refine⟨fun h=> ?_⟩;unfold M6 at h;refine A2 mixed h0 [4] 24 ?_;exact gc
instance A66:Ct 216 (∀{a0} {a1} {r},Lk a0 a1=N r→FC Z 216 [.ag (X2.row a0),.ag (X2.row a1)] [.sc (.v (.bool r))]):=by
 refine⟨fun h=> ?_⟩;unfold Lk at h;refine A2 mixed h0 [4] 16 ?_;exact gc
instance A8d:Ct 217 (∀{a0} {a1} {a2} {r},LZ a0 a1 a2=N r→FC Z 217 [.sc (.int .i64 a0),.sc (.int .i64 a1),.sc (.int .i64 a2)] [.sc (.v (.bool r))]):=by
 refine⟨fun h=> ?_⟩;unfold LZ at h;refine A2 mixed h0 [6] 19 ?_;exact gc
def Mn:Hw:=([(6,[4,5,6,7,9],[4,5,6,7],[]),(12,[4,5,6,7,24],[4,5,6,7],[]),(24,[5,6,7,41],[5,6,7],[]),(36,[6,7,72],[6,7],[])],[])
def cK:=fun(a2:X2) (a3:X2) (k_:V→Q U)=>∀{v22} {zr},k_ v22=N zr→Kh Z 200 Mn 36 [6,7,72] [6,7] [] ⟨[pB 6,pB 7,(72,vc (aB v22))],[(6,(dm a2.row)),(7,(dm a3.row))],[]⟩ (A6 [8] [.sc (.v (.int .i64 zr))])
def cJ:=fun(a1:Xm) (a2:X2) (a3:X2) (k_:V→V→Q U)=>∀{v15 v16} {zr},k_ v15 v16=N zr→Kh Z 200 Mn 24 [5,6,7,41] [5,6,7] [] ⟨[pB 5,pB 6,pB 7,(41,vc (aB v15))],[(5,[aI a1.Gap,aB v16]),(6,(dm a2.row)),(7,(dm a3.row))],[]⟩ (A6 [8] [.sc (.v (.int .i64 zr))])
def cI:=fun(a0:X4) (a1:Xm) (a2:X2) (a3:X2) (k_:V→Q U)=>∀{v7} {zr},k_ v7=N zr→Kh Z 200 Mn 12 [4,5,6,7,24] [4,5,6,7] [] ⟨[pB 4,pB 5,pB 6,pB 7,(24,vc (aB v7))],[(4,(dm a0.row)),(5,(dm a1.row)),(6,(dm a2.row)),(7,(dm a3.row))],[]⟩ (A6 [8] [.sc (.v (.int .i64 zr))])
def cH:=fun(a0:X4) (a1:Xm) (a2:X2) (a3:X2) (k_:V→Q U)=>∀{v3} {zr},k_ v3=N zr→Kh Z 200 Mn 6 [4,5,6,7,9] [4,5,6,7] [] ⟨[pB 4,pB 5,pB 6,pB 7,(9,vc (aB v3))],[(4,(dm a0.row)),(5,(dm a1.row)),(6,(dm a2.row)),(7,(dm a3.row))],[]⟩ (A6 [8] [.sc (.v (.int .i64 zr))])
theorem A1u{a2 a3}:cK a2 a3 (JB a2 a3):=by
 intro v22 r h σ hσ;unfold JB at h;exact gc
theorem A1v{a1 a2 a3}:cJ a1 a2 a3 (Gl a1 a2 a3):=by
 intro v15 v16 r h σ hσ;unfold Gl at h;have k0:= @A1u;exact gc
theorem A1w{a0 a1 a2 a3}:cI a0 a1 a2 a3 (JA a0 a1 a2 a3):=by
 intro v7 r h σ hσ;unfold JA at h;have k0:= @A1v;exact gc
theorem A1x{a0 a1 a2 a3}:cH a0 a1 a2 a3 (Jz a0 a1 a2 a3):=by
 intro v3 r h σ hσ;unfold Jz at h;have k0:= @A1w;exact gc
instance A74:Ct 200 (∀{a0} {a1} {a2} {a3} {r},LU a0 a1 a2 a3=N r→FC Z 200 [.ag (X4.row a0),.ag (Xm.row a1),.ag (X2.row a2),.ag (X2.row a3)] [.sc (.v (.int .i64 r))]):=by
 refine⟨fun h=> ?_⟩;unfold LU at h;refine A2 mixed Mn [8] 116 ?_;have k0:= @A1x;exact gc
def R8:Hw:=([(6,[3,4,5,13,14,15],[4,5],[]),(20,[3,4,5,10,13,14,15,19,20,21],[4,5,10],[])],[])
def cG:=fun a3 a2 v1 (a0:X4) (a1:Xm) (x3:X2) (k_:U→Q V)=>∀{v4} {zr},k_ v4=N zr→Kh Z 172 R8 20 [3,4,5,10,13,14,15,19,20,21] [4,5,10] [] ⟨[pL 3 X2.row a3,pB 4,pB 5,pB 10,pL 13 X2.row a2,pI 14 (a2.length:U),pI 15 v1,pL 19 X2.row a3,pI 20 (a3.length:U),pI 21 v4],[(4,(dm a0.row)),(5,(dm a1.row)),(10,(dm x3.row))],[]⟩ (A6 [8] [.sc (.v (.bool zr))])
def T5:=fun a3 a2 (a0:X4) (a1:Xm) (k_:U→Q V)=>∀{v1} {zr},k_ v1=N zr→Kh Z 172 R8 6 [3,4,5,13,14,15] [4,5] [] ⟨[pL 3 X2.row a3,pB 4,pB 5,pL 13 X2.row a2,pI 14 (a2.length:U),pI 15 v1],[(4,(dm a0.row)),(5,(dm a1.row))],[]⟩ (A6 [8] [.sc (.v (.bool zr))])
theorem A1z{a3 a2 v1 a0 a1 x3}{MC}(pT:T5 a3 a2 a0 a1 MC){n:W}:cG a3 a2 v1 a0 a1 x3 (HO a3 a2 v1 a0 a1 x3 MC n):=by
 induction n with
 | zero=>intro _ r h; cases h
 | succ n ih=>
  intro v4 r h σ hσ;rw[HO] at h;have k0:= @pT;exact gc
theorem A10{a3 a2 a0 a1}{n:W}:T5 a3 a2 a0 a1 (Gk a3 a2 a0 a1 n):=by
 induction n with
 | zero=>intro _ r h; cases h
 | succ n ih=>
  intro v1 r h σ hσ;rw[Gk] at h;have k0:= @A1z;exact gc
instance SA:Ct 172 (∀{a0} {a1} {a2} {a3} {r},Gj a0 a1 a2 a3=N r→FC Z 172 [.ag (X4.row a0),.ag (Xm.row a1),.sc (.sl (Y X2.row a2)),.sc (.sl (Y X2.row a3))] [.sc (.v (.bool r))]):=by
 refine⟨fun h=> ?_⟩;unfold Gj at h;refine A2 mixed R8 [8] 33 ?_;have k0:= @A10;exact gc
instance Zi:Ct 174 (∀{a0} {r},EC a0=N r→FC Z 174 [.sc (.sl (Y X0.row a0))] [.sc (.o 4 (Y X0.row r))]):=by
 refine⟨fun h=> ?_⟩;unfold EC at h;refine A2 mixed h0 [2] 8 ?_;have s0:= @Dv _ X0.row (⟨(0:U),(0:U),(0:U),([]:P X2)⟩:X0);exact gc
instance A69:Ct 195 (∀{a0} {a1} {r},Gc a0 a1=N r→FC Z 195 [.ag (X2.row a0),.ag (X4.row a1)] [.sc (.v (.int .i64 r.1)),.sc (.v (.int .i64 r.2))]):=by
 refine⟨fun h=> ?_⟩;unfold Gc at h;refine A2 mixed h0 [4,5] 23 ?_;exact gc
instance A79:Ct 164 (∀{a0} {a1} {a2} {r},HR a0 a1 a2=N r→FC Z 164 [.ag (X4.row a0),.ag (X2.row a1),.ag (X2.row a2)] [.ag [.v (.int .i64 r.From),.v (.int .i64 r.To),.v (.int .i64 r.A),.v (.int .i64 r.B)]]):=by
 refine⟨fun h=> ?_⟩;unfold HR at h;refine A2 mixed h0 [.c 6 T 4] 30 ?_;exact gc
instance A8f:Ct 194 (∀{a0} {a1} {a2} {r},M1 a0 a1 a2=N r→FC Z 194 [.ag (X4.row a0),.sc (.sl (Y X8.row a1)),.ag (X2.row a2)] [.sc (.v (.bool r))]):=by
 refine⟨fun h=> ?_⟩;unfold M1 at h;refine A2 mixed h0 [6] 51 ?_;exact gc
instance A68:Ct 163 (∀{a0} {a1} {a2} {r},Jo a0 a1 a2=N r→FC Z 163 [.ag (X4.row a0),.sc (.sl (Y X8.row a1)),.ag (X2.row a2)] [.sc (.v (.bool r))]):=by
 refine⟨fun h=> ?_⟩;unfold Jo at h;refine A2 mixed h0 [6] 19 ?_;exact gc
def R9:Hw:=([(8,[1,3,8,12,13,14],[3],[704]),(31,[1,3,8,10,12,13,14,28,29],[3,10],[704])],[])
def cd:=fun a1 a2 v1 (x7:X8) (a0:X4) (x4:X2) (k_:U→(P Xd)→Q ((P Xd) × V))=>∀{v8 v9} {zr},k_ v8 v9=N zr→Kh Z 128 R9 31 [1,3,8,10,12,13,14,28,29] [3,10] [704] ⟨[pL 1 X8.row a1,pB 3,pW 8 704,pB 10,pL 12 X2.row a2,pI 13 (a2.length:U),pI 14 v1,pI 28 x7.Tugs,pI 29 v8],[(3,(dm a0.row)),(10,(dm x4.row))],[(704,4,Y zB v9)]⟩ (A6 [6,7] [.sc (.o 4 (Y zB zr.1)),.sc (.v (.bool zr.2))])
def Tb:=fun a1 a2 (a0:X4) (k_:U→(P Xd)→Q ((P Xd) × V))=>∀{v1 v2} {zr},k_ v1 v2=N zr→Kh Z 128 R9 8 [1,3,8,12,13,14] [3] [704] ⟨[pL 1 X8.row a1,pB 3,pW 8 704,pL 12 X2.row a2,pI 13 (a2.length:U),pI 14 v1],[(3,(dm a0.row))],[(704,4,Y zB v2)]⟩ (A6 [6,7] [.sc (.o 4 (Y zB zr.1)),.sc (.v (.bool zr.2))])
theorem A11{a1 a2 v1 x7 a0 x4}{MG}(pZ:Tb a1 a2 a0 MG){n:W}:cd a1 a2 v1 x7 a0 x4 (Fu a1 a2 v1 x7 a0 x4 MG n):=by
 induction n with
 | zero=>intro _ _ r h; cases h
 | succ n ih=>
  intro v8 v9 r h σ hσ;rw[Fu] at h;have s0:=fun(r11:Xd)=> @AA (Y zB ([r11]:P Xd))
  have k0:= @pZ;exact gc
theorem A12{a1 a2 a0}{n:W}:Tb a1 a2 a0 (D2 a1 a2 a0 n):=by
 induction n with
 | zero=>intro _ _ r h; cases h
 | succ n ih=>
  intro v1 v2 r h σ hσ;rw[D2] at h;have k0:= @A11;exact gc
instance A8g:Ct 128 (∀{a0} {a1} {a2} {r},Gv a0 a1 a2=N r→FC Z 128 [.ag (X4.row a0),.sc (.sl (Y X8.row a1)),.sc (.sl (Y X2.row a2))] [.sc (.o 4 (Y zB r.1)),.sc (.v (.bool r.2))]):=by
 refine⟨fun h=> ?_⟩;unfold Gv at h;refine A2 mixed R9 [6,7] 44 ?_;have s0:= @AA (Y zB ([]:P Xd));have k0:= @A12;exact gc
def UP:Hw:=([(14,[8,9,10],[],[])],[])
def bD:=fun a0 (k_:U→Q V)=>∀{v2} {zr},k_ v2=N zr→Kh Z 196 UP 14 [8,9,10] [] [] ⟨[pL 8 zB a0,pI 9 (a0.length:U),pI 10 v2],[],[]⟩ (A6 [2] [.sc (.v (.bool zr))])
theorem A13{a0}{n:W}:bD a0 (Ho a0 n):=by
 induction n with
 | zero=>intro _ r h; cases h
 | succ n ih=>
  intro v2 r h σ hσ;rw[Ho] at h;exact gc
instance A6o:Ct 196 (∀{a0} {r},Hn a0=N r→FC Z 196 [.sc (.sl (Y zB a0))] [.sc (.v (.bool r))]):=by
 refine⟨fun h=> ?_⟩;unfold Hn at h;refine A2 mixed UP [2] 42 ?_;have k0:= @A13;exact gc
instance zl:Ct 165 (∀{a0} {a1} {a2} {r},HP a0 a1 a2=N r→FC Z 165 [.sc (.int .i64 a0),.sc (.sl (Y rI a1)),.sc (.sl (Y zB a2))] [.sc (.v (.bool r))]):=by
 refine⟨fun h=> ?_⟩;unfold HP at h;refine A2 mixed h0 [6] 17 ?_;exact gc
def UQ:Hw:=([(5,[0,1,6,7,29],[6,7],[])],[])
def bI:=fun a0 a1 (a2:Xd) (a3:Xd) (k_:V→Q (U × V))=>∀{v8} {zr},k_ v8=N zr→Kh Z 214 UQ 5 [0,1,6,7,29] [6,7] [] ⟨[pI 0 a0,pL 1 rI a1,pB 6,pB 7,(29,vc (aB v8))],[(6,(dm a2.row)),(7,(dm a3.row))],[]⟩ (A6 [8,9] [.sc (.v (.int .i64 zr.1)),.sc (.v (.bool zr.2))])
theorem A14{a0 a1 a2 a3}:bI a0 a1 a2 a3 (Hr a0 a1 a2 a3):=by
 intro v8 r h σ hσ;unfold Hr at h;exact gc
instance A6t:Ct 214 (∀{a0} {a1} {a2} {a3} {r},O2 a0 a1 a2 a3=N r→FC Z 214 [.sc (.int .i64 a0),.sc (.sl (Y rI a1)),.ag (zB a2),.ag (zB a3)] [.sc (.v (.int .i64 r.1)),.sc (.v (.bool r.2))]):=by
 refine⟨fun h=> ?_⟩;unfold O2 at h;refine A2 mixed UQ [8,9] 41 ?_;have k0:= @A14;exact gc
instance Z9:Ct 197 (∀{a0} {a1} {a2} {a3} {r},Jc a0 a1 a2 a3=N r→FC Z 197 [.sc (.int .i64 a0),.sc (.sl (Y rI a1)),.ag (zB a2),.ag (zB a3)] [.sc (.v (.bool r))]):=by
 refine⟨fun{a0} {a1} {a2} {a3} {r} h=> ?_⟩;unfold Jc at h;refine A2 mixed h0 [8] 39 ?_;have s0:= @AA (Y zB ([a2]:P Xd));have s1:= @AA (Y zB ([a3]:P Xd));exact gc
def OM:Hw:=([(8,[0,1,2,7,15,16,17],[],[896]),(22,[0,1,2,7,8,9,15,16,17,22,23,24],[9],[896]),(35,[0,1,2,7,8,9,10,15,16,17,22,23,24,45],[9],[896])],[])
def cV:=fun a0 a1 a2 v2 v6 (x5:Xd) v7 (k_:V→Q (P U))=>∀{v14} {zr},k_ v14=N zr→Kh Z 166 OM 35 [0,1,2,7,8,9,10,15,16,17,22,23,24,45] [9] [896] ⟨[pI 0 a0,pL 1 rI a1,pL 2 zB a2,pW 7 896,pI 8 v2,pB 9,pI 10 v6,pL 15 zB a2,pI 16 (a2.length:U),pI 17 v2,pL 22 zB a2,pI 23 (a2.length:U),pI 24 v6,(45,vc (aB v14))],[(9,(dm x5.row))],[(896,1,Y rU v7)]⟩ (A6 [6] [.sc (.o 1 (Y rU zr))])
def T8:=fun a0 a1 a2 v2 (x5:Xd) (k_:U→(P U)→Q (P U))=>∀{v6 v7} {zr},k_ v6 v7=N zr→Kh Z 166 OM 22 [0,1,2,7,8,9,15,16,17,22,23,24] [9] [896] ⟨[pI 0 a0,pL 1 rI a1,pL 2 zB a2,pW 7 896,pI 8 v2,pB 9,pL 15 zB a2,pI 16 (a2.length:U),pI 17 v2,pL 22 zB a2,pI 23 (a2.length:U),pI 24 v6],[(9,(dm x5.row))],[(896,1,Y rU v7)]⟩ (A6 [6] [.sc (.o 1 (Y rU zr))])
def T7:=fun a0 a1 a2 (k_:U→(P U)→Q (P U))=>∀{v2 v3} {zr},k_ v2 v3=N zr→Kh Z 166 OM 8 [0,1,2,7,15,16,17] [] [896] ⟨[pI 0 a0,pL 1 rI a1,pL 2 zB a2,pW 7 896,pL 15 zB a2,pI 16 (a2.length:U),pI 17 v2],[],[(896,1,Y rU v3)]⟩ (A6 [6] [.sc (.o 1 (Y rU zr))])
theorem SH{a0 a1 a2 v2 v6 x5 v7}{MD}(VD:T8 a0 a1 a2 v2 x5 MD):cV a0 a1 a2 v2 v6 x5 v7 (HT a0 a1 a2 v2 v6 x5 v7 MD):=by
 intro v14 r h σ hσ S hS;refine ev hS ?_;refine Aw ?_;unfold HT at h;obtain⟨h15,h⟩|⟨h15,h⟩:=ic h
 ·try simp only[hσ,h15,C,E,F,G,H,J]
  refine Ai ?_;obtain⟨x16,h16,h⟩:=ob h;have h16n:=Am h16;obtain⟨h17,h⟩:=FN h;try simp only[h15,h16,h16n,h17,C,E,F,G,H,J]
  refine Dq (row:=rU) (y:=(AM .or .u64 x16 (Bi .u64 (1:U) v6))) X X h16n X X (by rfl) ?_;try simp only[h15,h16,h16n,h17,C,E,F,G,H,J]
  refine Ai ?_;try simp only[h15,h16,h16n,h17,C,E,F,G,H,J]
  refine VD h ?_ (by kernel_rfl);try simp only[h15,h16,h16n,h17,C,E,F,G,H,J,pL,aM,I]
 ·try simp only[hσ,h15,C,E,F,G,H,J]
  refine VD h ?_ (by kernel_rfl);try simp only[h15,C,E,F,G,H,J,pL,aM,I]
theorem A15{a0 a1 a2 v2 x5}{Ij}(pV:T7 a0 a1 a2 Ij){n:W}:T8 a0 a1 a2 v2 x5 (E8 a0 a1 a2 v2 x5 Ij n):=by
 induction n with
 | zero=>intro _ _ r h; cases h
 | succ n ih=>
  intro v6 v7 r h σ hσ S hS;refine ev hS ?_;rw[E8] at h;refine AY (Aw ?_);obtain⟨h8,h⟩|⟨h8,h⟩:=ic h
  ·obtain⟨x9,h9,h⟩:=ob h;try simp only[hσ,h8,h9,C,E,F,G,H,J]
   refine B0 ?_;obtain⟨h10,h⟩|⟨h10,h⟩:=ic h
   ·obtain⟨r11,h11,h⟩:=ob h;try simp only[h8,h9,h10,C,E,F,G,H,J]
    refine Ao (A8 Z9 h11) ?_;obtain⟨h12,h⟩|⟨h12,h⟩:=ic h
    ·try simp only[h8,h9,h10,h12,C,E,F,G,H,J]
     refine SH ih h ?_ (by kernel_rfl);try simp only[h8,h9,h10,h12,C,E,F,G,H,J,pL,aM,I]
    ·obtain⟨r13,h13,h⟩:=ob h;try simp only[h8,h9,h10,h12,C,E,F,G,H,J]
     refine Ao (A8 Z9 h13) ?_;try simp only[h8,h9,h10,h12,C,E,F,G,H,J]
     refine SH ih h ?_ (by kernel_rfl);try simp only[h8,h9,h10,h12,C,E,F,G,H,J,pL,aM,I]
   ·try simp only[h8,h9,h10,C,E,F,G,H,J]
    refine SH ih h ?_ (by kernel_rfl);try simp only[h8,h9,h10,C,E,F,G,H,J,pL,aM,I]
  ·try simp only[hσ,h8,C,E,F,G,H,J]
   refine pV h ?_ (by kernel_rfl);try simp only[h8,C,E,F,G,H,J,pL,aM,I]
theorem A16{a0 a1 a2}{n:W}:T7 a0 a1 a2 (Ft a0 a1 a2 n):=by
 induction n with
 | zero=>intro _ _ r h; cases h
 | succ n ih=>
  intro v2 v3 r h σ hσ;rw[Ft] at h;have k0:= @A15;exact gc
instance zy:Ct 166 (∀{a0} {a1} {a2} {r},M0 a0 a1 a2=N r→FC Z 166 [.sc (.int .i64 a0),.sc (.sl (Y rI a1)),.sc (.sl (Y zB a2))] [.sc (.o 1 (Y rU r))]):=by
 refine⟨fun h=> ?_⟩;unfold M0 at h;refine A2 mixed OM [6] 57 ?_;have s0:= @Dv _ rU (0:U);have k0:= @A16;exact gc
def ON:Hw:=([(10,[0,2],[],[]),(18,[0,2],[],[]),(26,[0,2],[],[])],[])
def cp:=fun(k_:U→U→Q U)=>∀{v8 v9} {zr},k_ v8 v9=N zr→Kh Z 207 ON 26 [0,2] [] [] ⟨[(0,vc (.dat (.int .u64 v8))),pI 2 v9],[],[]⟩ (A6 [2] [.sc (.v (.int .i64 zr))])
def co:=fun(k_:U→U→Q U)=>∀{v5 v6} {zr},k_ v5 v6=N zr→Kh Z 207 ON 18 [0,2] [] [] ⟨[(0,vc (.dat (.int .u64 v5))),pI 2 v6],[],[]⟩ (A6 [2] [.sc (.v (.int .i64 zr))])
def cn:=fun(k_:U→U→Q U)=>∀{v2 v3} {zr},k_ v2 v3=N zr→Kh Z 207 ON 10 [0,2] [] [] ⟨[(0,vc (.dat (.int .u64 v2))),pI 2 v3],[],[]⟩ (A6 [2] [.sc (.v (.int .i64 zr))])
theorem A17:cp JL:=by
 intro v8 v9 r h σ hσ;unfold JL at h;exact gc
theorem A18:co M9:=by
 intro v5 v6 r h σ hσ;unfold M9 at h;have k0:= @A17;exact gc
theorem A19:cn M8:=by
 intro v2 v3 r h σ hσ;unfold M8 at h;have k0:= @A18;exact gc
instance A8k:Ct 207 (∀{a0} {r},Ou a0=N r→FC Z 207 [.sc (.int .u64 a0)] [.sc (.v (.int .i64 r))]):=by
 refine⟨fun h=> ?_⟩;unfold Ou at h;refine A2 mixed ON [2] 25 ?_;have k0:= @A19;exact gc
instance A0l:Ct 198 (∀{a0} {r},JK a0=N r→FC Z 198 [.sc (.int .u64 a0)] [.sc (.v (.int .i64 r))]):=by
 refine⟨fun h=> ?_⟩;unfold JK at h;refine A2 mixed h0 [2] 8 ?_;exact gc
def Mo:Hw:=([(14,[0,3,4,5,6],[],[896,1024]),(29,[0,3,4,5,6,7,8],[],[896,1024]),(34,[0,3,4,5,6,7,8,9],[],[896,1024]),(43,[0,3,4,5,6,7,8,9],[],[896,1024])],[])
def cR:=fun a0 y5 v6 v17 v18 v21 v19 (k_:(P U)→Q U)=>∀{v28} {zr},k_ v28=N zr→Kh Z 167 Mo 43 [0,3,4,5,6,7,8,9] [] [896,1024] ⟨[pL 0 rU a0,pI 3 y5,pW 4 896,pW 5 1024,pI 6 v6,pI 7 v17,pI 8 v18,pI 9 v21],[],[(896,1,Y rB v19),(1024,1,Y rI v28)]⟩ (A6 [2] [.sc (.v (.int .i64 zr))])
def T6:=fun a0 y5 v6 v17 v18 v19 (k_:U→(P U)→Q U)=>∀{v21 v22} {zr},k_ v21 v22=N zr→Kh Z 167 Mo 34 [0,3,4,5,6,7,8,9] [] [896,1024] ⟨[pL 0 rU a0,pI 3 y5,pW 4 896,pW 5 1024,pI 6 v6,pI 7 v17,pI 8 v18,pI 9 v21],[],[(896,1,Y rB v19),(1024,1,Y rI v22)]⟩ (A6 [2] [.sc (.v (.int .i64 zr))])
def cQ:=fun a0 y5 v6 v8 (k_:U→U→(P V)→Q U)=>∀{v17 v18 v19} {zr},k_ v17 v18 v19=N zr→Kh Z 167 Mo 29 [0,3,4,5,6,7,8] [] [896,1024] ⟨[pL 0 rU a0,pI 3 y5,pW 4 896,pW 5 1024,pI 6 v6,pI 7 v17,pI 8 v18],[],[(896,1,Y rB v19),(1024,1,Y rI v8)]⟩ (A6 [2] [.sc (.v (.int .i64 zr))])
def Nn:=fun a0 y5 (k_:U→(P V)→(P U)→Q U)=>∀{v6 v7 v8} {zr},k_ v6 v7 v8=N zr→Kh Z 167 Mo 14 [0,3,4,5,6] [] [896,1024] ⟨[pL 0 rU a0,pI 3 y5,pW 4 896,pW 5 1024,pI 6 v6],[],[(896,1,Y rB v7),(1024,1,Y rI v8)]⟩ (A6 [2] [.sc (.v (.int .i64 zr))])
theorem Zq{a0 y5 v6 v17 v18 v21 v19}{Co}(Mq:Nn a0 y5 Co){Pd}(pU:T6 a0 y5 v6 v17 v18 v19 Pd):cR a0 y5 v6 v17 v18 v21 v19 (JG a0 y5 v6 v17 v18 v21 v19 Co Pd):=by
 intro v28 r h σ hσ;unfold JG at h;have k0:= @Mq; have k1:= @pU;exact gc
theorem A2a{a0 y5 v6 v17 v18 v19}{Co}(Mq:Nn a0 y5 Co){n:W}:T6 a0 y5 v6 v17 v18 v19 (Gp a0 y5 v6 v17 v18 v19 Co n):=by
 induction n with
 | zero=>intro _ _ r h; cases h
 | succ n ih=>
  intro v21 v22 r h σ hσ S hS;refine ev hS ?_;rw[Gp] at h;refine AY (Aw ?_);obtain⟨h23,h⟩:=FN h;obtain⟨x24,h24,h⟩:=ob h;have h24n:=Am h24;obtain⟨h25,h⟩|⟨h25,h⟩:=ic h
  ·try simp only[hσ,h23,h24,h24n,h25,C,E,F,G,H,J]
   refine Ai ?_;obtain⟨x26,h26,h⟩:=ob h;have h26n:=Am h26;obtain⟨x27,h27,h⟩:=ob h;have h27n:=Am h27;try simp only[h23,h24,h24n,h25,h26,h26n,h27,h27n,C,E,F,G,H,J]
   refine Dq (row:=rI) (y:=(if(IntKind.i64.wrap ((1:U)+x27))<x26 then(IntKind.i64.wrap ((1:U)+x27)) else x26)) X X h26n X X (by rfl) ?_;try simp only[h23,h24,h24n,h25,h26,h26n,h27,h27n,C,E,F,G,H,J]
   refine Ai ?_;try simp only[h23,h24,h24n,h25,h26,h26n,h27,h27n,C,E,F,G,H,J]
   refine Zq Mq ih h ?_ (by kernel_rfl);try simp only[h23,h24,h24n,h25,h26,h26n,h27,h27n,C,E,F,G,H,J,pL,aM,I]
  ·try simp only[hσ,h23,h24,h24n,h25,C,E,F,G,H,J]
   refine Zq Mq ih h ?_ (by kernel_rfl);try simp only[h23,h24,h24n,h25,C,E,F,G,H,J,pL,aM,I]
theorem Zr{a0 y5 v6 v8}{Co}(Mq:Nn a0 y5 Co):cQ a0 y5 v6 v8 (JF a0 y5 v6 v8 Co):=by
 intro v17 v18 v19 r h σ hσ;unfold JF at h;have s0:= @N2 _ rI ((a0.length:U));have k0:= @A2a;exact gc
theorem A2c{a0 y5}{n:W}:Nn a0 y5 (EG a0 y5 n):=by
 induction n with
 | zero=>intro _ _ _ r h; cases h
 | succ n ih=>
  intro v6 v7 v8 r h σ hσ S hS;refine ev hS ?_;rw[EG] at h;refine AY (Aw ?_);obtain⟨h9,h⟩|⟨h9,h⟩:=ic h
  ·obtain⟨r10,h10,h⟩:=ob h;try simp only[hσ,h9,C,E,F,G,H,J]
   refine Ao (A8 A0l h10) ?_;obtain⟨h11,h⟩:=FN h;obtain⟨x12,h12,h⟩:=ob h;have h12n:=Am h12;obtain⟨h13,h⟩|⟨h13,h⟩:=ic h
   ·obtain⟨x14,h14,h⟩:=ob h;obtain⟨x15,h15,h⟩:=ob h;have h15n:=Am h15;try simp only[h9,h11,h12,h12n,h13,h14,h15,C,E,F,G,H,J]
    refine Dq (row:=rB) (y:=((AM .andNot .u64 (IntKind.u64.wrap (AM .andNot .i64 v6 (Bi .i64 (1:U) (IntKind.i64.wrap (r10 - (1:U)))))) x14)==(0:U))) X X h15n X X (by rfl) ?_;try simp only[h9,h11,h12,h12n,h13,h14,h15,C,E,F,G,H,J]
    refine Zr ih h ?_ (by kernel_rfl);try simp only[h9,h11,h12,h12n,h13,h14,h15,C,E,F,G,H,J,pL,aM,I]
   ·obtain⟨x16,h16,h⟩:=ob h;have h16n:=Am h16;try simp only[h9,h11,h12,h12n,h13,h16,C,E,F,G,H,J]
    refine Dq (row:=rB) (y:=false) X X h16n X X (by rfl) ?_;try simp only[h9,h11,h12,h12n,h13,h16,C,E,F,G,H,J]
    refine Zr ih h ?_ (by kernel_rfl);try simp only[h9,h11,h12,h12n,h13,h16,C,E,F,G,H,J,pL,aM,I]
  ·obtain⟨x30,h30,h⟩:=ob h;have h30n:=Am h30;try simp only[hσ,h9,h30,h30n,C,E,F,G,H,J]
   cases h;exact t0
instance zu:Ct 167 (∀{a0} {r},LX a0=N r→FC Z 167 [.sc (.sl (Y rU a0))] [.sc (.v (.int .i64 r))]):=by
 refine⟨fun{a0} {r} h=> ?_⟩;unfold LX at h;refine A2 mixed Mo [2] 88 ?_;intro S hS;refine ev hS ?_;simp only[C,E,F,G,H,J];obtain⟨h1,h⟩:=FN h;obtain⟨n2,hn2,h⟩:=ob h;try simp only[h1,C,E,F,G,H,J]
 refine QZ (es:=Y rB (List.replicate n2 L)) X X hn2 X (S8 X) X ?_;obtain⟨n3,hn3,h⟩:=ob h;try simp only[h1,C,E,F,G,H,J]
 refine QZ (es:=Y rI (List.replicate n3 (0:U))) X X hn3 X (S8 X) X ?_;obtain⟨x4,h4,h⟩:=ob h;have h4n:=Am h4;try simp only[h1,h4,C,E,F,G,H,J]
 refine Dq (row:=rB) (y:=true) X X h4n X X (by rfl) ?_;try simp only[h1,h4,C,E,F,G,H,J]
 refine A2c h ?_ (by kernel_rfl);try simp only[h1,h4,C,E,F,G,H,J,pL,aM,I]
def Mp:Hw:=([(16,[0,3,4],[99999999999],[90000,90001]),(31,[0,3,4],[99999999999],[90000,90001]),(51,[0,3,4],[99999999999],[90000,90001])],[(48,7,(O,.cut 95)),(55,7,(O,.cut 123))])
def cM:=fun(a0:Xh) v2 (k_:(P U)→U→(P U)→(P U)→Q (V × Xh))=>∀{v22 v23 v24 v25} {zr},k_ v22 v23 v24 v25=N zr→Kh Z 168 Mp 51 [0,3,4] [99999999999] [90000,90001] ⟨[(0,vc (.pb 99999999999 0)),pI 3 (a0.who.length:U),pI 4 v2],[(99999999999,[aM rU v22,aI v23,.own 90000,.own 90001])],[(90000,1,Y rU v24),(90001,1,Y rI v25)]⟩ (F1 [2] [.sc (.v (.bool zr.1))] (Cv zr.2) (Cw zr.2))
def cL:=fun(a0:Xh) v2 v3 v4 v6 (k_:(P U)→Q (V × Xh))=>∀{v11} {zr},k_ v11=N zr→Kh Z 168 Mp 31 [0,3,4] [99999999999] [90000,90001] ⟨[(0,vc (.pb 99999999999 0)),pI 3 (a0.who.length:U),pI 4 v2],[(99999999999,[aM rU v3,aI v4,.own 90000,.own 90001])],[(90000,1,Y rU v11),(90001,1,Y rI v6)]⟩ (F1 [2] [.sc (.v (.bool zr.1))] (Cv zr.2) (Cw zr.2))
def PW:=fun(a0:Xh) (k_:U→(P U)→U→(P U)→(P U)→Q (V × Xh))=>∀{v2 v3 v4 v5 v6} {zr},k_ v2 v3 v4 v5 v6=N zr→Kh Z 168 Mp 16 [0,3,4] [99999999999] [90000,90001] ⟨[(0,vc (.pb 99999999999 0)),pI 3 (a0.who.length:U),pI 4 v2],[(99999999999,[aM rU v3,aI v4,.own 90000,.own 90001])],[(90000,1,Y rU v5),(90001,1,Y rI v6)]⟩ (F1 [2] [.sc (.v (.bool zr.1))] (Cv zr.2) (Cw zr.2))
theorem Zs{rec_:Xh→Q (V × Xh)}(h_rec:∀(a0:Xh) zr,rec_ a0=N zr→FCz Z 168 [.p] (Cv a0) (Cw a0) (Cv zr.2) (Cw zr.2) [.sc (.v (.bool zr.1))]){a0 v2}{EN}(OW:PW a0 EN):cM a0 v2 (HQ rec_ a0 v2 EN):=by
 intro v22 v23 v24 v25 r h σ hσ S hS;refine ev hS ?_;refine Aw ?_;unfold HQ at h;obtain⟨x26,h26,h⟩:=ob h;have h26n:=Am h26;obtain⟨h27,h⟩|⟨h27,h⟩:=ic h
 ·obtain⟨p28,h28,h⟩:=ob h;try simp only[hσ,h26,h26n,h27,C,E,F,G,H,J]
  refine I9 X X h28 (by rfl) ?_;try simp only[h26,h26n,h27,C,E,F,G,H,J]
  cases h;exact⟨⟨X,⟨⟩⟩,[90000,90001],by decide,by decide,X,X⟩
 ·try simp only[hσ,h26,h26n,h27,C,E,F,G,H,J]
  refine OW h ?_ (by kernel_rfl);try simp only[h26,h26n,h27,C,E,F,G,H,J,pL,aM,I]
theorem Zt{rec_:Xh→Q (V × Xh)}(h_rec:∀(a0:Xh) zr,rec_ a0=N zr→FCz Z 168 [.p] (Cv a0) (Cw a0) (Cv zr.2) (Cw zr.2) [.sc (.v (.bool zr.1))]){a0 v2 v3 v4 v6}{EN}(OW:PW a0 EN):cL a0 v2 v3 v4 v6 (JD rec_ a0 v2 v3 v4 v6 EN):=by
 intro v11 r h σ hσ S hS;refine ev hS ?_;refine Aw ?_;unfold JD at h;try simp only[hσ,C,E,F,G,H,J]
 refine Ai ?_;obtain⟨x12,h12,h⟩:=ob h;have h12n:=Am h12;obtain⟨x13,h13,h⟩:=ob h;obtain⟨h14,h⟩|⟨h14,h⟩:=ic h
 ·try simp only[h12,h12n,h13,h14,C,E,F,G,H,J]
  refine Ai ?_;obtain⟨h15,h⟩:=FN h;try simp only[h12,h12n,h13,h14,h15,C,E,F,G,H,J]
  refine Dq (row:=rU) (y:=(AM .or .u64 x12 (Bi .u64 (1:U) (a0.who.length:U)))) X X h12n X X (by rfl) ?_;try simp only[h12,h12n,h13,h14,h15,C,E,F,G,H,J]
  refine Ai ?_;try simp only[h12,h12n,h13,h14,h15,C,E,F,G,H,J]
  refine AS (es:=Y rI ([v2]:P U)) ?_;obtain⟨h16,h⟩:=AN h;obtain⟨r17,h17,h⟩:=ob h;try simp only[h12,h12n,h13,h14,h15,h16,C,E,F,G,H,J]
  refine JR (h_rec _ _ h17) 99999999999 [90000,90001] rfl X X X (by decide) X X X ?_;obtain⟨h18,h⟩|⟨h18,h⟩:=ic h
  ·try simp only[h12,h12n,h13,h14,h15,h16,h18,C,E,F,G,H,J]
   cases h;exact⟨⟨X,⟨⟩⟩,[90000,90001],by decide,by decide,X,X⟩
  ·obtain⟨p19,h19,h⟩:=ob h;try simp only[h12,h12n,h13,h14,h15,h16,h18,C,E,F,G,H,J]
   refine I9 X X h19 (by rfl) ?_;try simp only[h12,h12n,h13,h14,h15,h16,h18,C,E,F,G,H,J]
   refine Ai ?_;obtain⟨x20,h20,h⟩:=ob h;have h20n:=Am h20;obtain⟨h21,h⟩:=FN h;try simp only[h12,h12n,h13,h14,h15,h16,h18,h20,h20n,h21,C,E,F,G,H,J]
   refine Dq (row:=rU) (y:=(AM .andNot .u64 x20 (Bi .u64 (1:U) (a0.who.length:U)))) X X h20n X X (by rfl) ?_;try simp only[h12,h12n,h13,h14,h15,h16,h18,h20,h20n,h21,C,E,F,G,H,J]
   refine Ai ?_;try simp only[h12,h12n,h13,h14,h15,h16,h18,h20,h20n,h21,C,E,F,G,H,J]
   refine Zs h_rec OW h ?_ (by kernel_rfl);try simp only[h12,h12n,h13,h14,h15,h16,h18,h20,h20n,h21,C,E,F,G,H,J,pL,aM,I]
 ·try simp only[h12,h12n,h13,h14,C,E,F,G,H,J]
  refine Zs h_rec OW h ?_ (by kernel_rfl);try simp only[h12,h12n,h13,h14,C,E,F,G,H,J,pL,aM,I]
theorem A2d{rec_:Xh→Q (V × Xh)}(h_rec:∀(a0:Xh) zr,rec_ a0=N zr→FCz Z 168 [.p] (Cv a0) (Cw a0) (Cv zr.2) (Cw zr.2) [.sc (.v (.bool zr.1))]){a0}{n:W}:PW a0 (Fp rec_ a0 n):=by
 induction n with
 | zero=>intro _ _ _ _ _ r h; cases h
 | succ n ih=>
  intro v2 v3 v4 v5 v6 r h σ hσ S hS;refine ev hS ?_;rw[Fp] at h;refine AY (Aw ?_);obtain⟨h7,h⟩|⟨h7,h⟩:=ic h
  ·obtain⟨h8,h⟩|⟨h8,h⟩:=ic h
   ·obtain⟨h9,h⟩|⟨h9,h⟩:=ic h
    ·try simp only[hσ,h7,h8,h9,C,E,F,G,H,J]
     refine AS (es:=Y rU ([(0:U)]:P U)) ?_;obtain⟨h10,h⟩:=AN h;try simp only[h7,h8,h9,h10,C,E,F,G,H,J]
     refine Zt h_rec ih h ?_ (by kernel_rfl);try simp only[h7,h8,h9,h10,C,E,F,G,H,J,pL,aM,I]
    ·try simp only[hσ,h7,h8,h9,C,E,F,G,H,J]
     refine Zt h_rec ih h ?_ (by kernel_rfl);try simp only[h7,h8,h9,C,E,F,G,H,J,pL,aM,I]
   ·try simp only[hσ,h7,h8,C,E,F,G,H,J]
    cases h;exact⟨⟨X,⟨⟩⟩,[90000,90001],by decide,by decide,X,X⟩
  ·try simp only[hσ,h7,C,E,F,G,H,J]
   cases h;exact⟨⟨X,⟨⟩⟩,[90000,90001],by decide,by decide,X,X⟩
theorem jh:AG Z 168=N ((Bq Z 168 Mp).strip,[2],126):=by kernel_rfl
theorem zn(rec_:Xh→Q (V × Xh))(a0:Xh)(r:V × Xh)(h_rec:∀(a0:Xh) zr,rec_ a0=N zr→FCz Z 168 [.p] (Cv a0) (Cw a0) (Cv zr.2) (Cw zr.2) [.sc (.v (.bool zr.1))])(h:LV rec_ a0=N r):FCz Z 168 [.p] (Cv a0) (Cw a0) (Cv r.2) (Cw r.2) [.sc (.v (.bool r.1))]:=by
 unfold LV at h;refine PU (σ:=⟨[(0,vc (.pb 99999999999 0))],[(99999999999,[aL (Y rU a0.sets),aI a0.most,.own 90000,.own 90001])],[(90000,1,Y rU a0.groups),(90001,1,Y rI a0.who)]⟩) mixed jh X X X X ?_;refine Bx Mp ?_;intro S hS;refine ev hS ?_;obtain⟨h1,h⟩|⟨h1,h⟩:=ic h
 ·try simp only[h1,C,E,F,G,H,J]
  cases h;exact⟨⟨X,⟨⟩⟩,[90000,90001],by decide,by decide,X,X⟩
 ·try simp only[h1,C,E,F,G,H,J]
  refine A2d h_rec h ?_ (by kernel_rfl);try simp only[h1,C,E,F,G,H,J,pL,aM,I]
theorem zo:∀(n:W) (a0:Xh) (r:V × Xh),E6 n a0=N r→FCz Z 168 [.p] (Cv a0) (Cw a0) (Cv r.2) (Cw r.2) [.sc (.v (.bool r.1))]:=by
 intro n
 induction n with
 | zero=>intro _ r h; cases h
 | succ n ih=>intro a0 r h; rw[E6] at h; exact zn (E6 n) a0 r ih h
theorem zm{a0}{r}(h:Oi a0=N r):FCz Z 168 [.p] (Cv a0) (Cw a0) (Cv r.2) (Cw r.2) [.sc (.v (.bool r.1))]:=zo bigN a0 r h
def pD:Hw:=([],[(13,5,(O,.ownb 24 2 152704 1)),(13,6,(O,.ownb 24 3 152768 1)),(15,1,(O,.frz 1216))])
instance A60:Ct 129 (∀{a0} {a1} {a2} {r},E3 a0 a1 a2=N r→FC Z 129 [.sc (.int .i64 a0),.sc (.sl (Y rI a1)),.sc (.sl (Y zB a2))] [.sc (.o 1 (Y rI r.1)),.sc (.v (.int .i64 r.2.1)),.sc (.v (.bool r.2.2))]):=by
 refine⟨fun{a0} {a1} {a2} {r} h=> ?_⟩;unfold E3 at h;refine A2 mixed pD [6,7,8] 35 ?_;intro S hS;refine ev hS ?_;simp only[C,E,F,G,H,J];obtain⟨r1,h1,h⟩:=ob h;try simp only[C,E,F,G,H,J]
 refine Ao (A8 zl h1) ?_;obtain⟨h2,h⟩|⟨h2,h⟩:=ic h
 ·obtain⟨r3,h3,h⟩:=ob h;try simp only[h2,C,E,F,G,H,J]
  refine Ao (A8 zy h3) ?_;obtain⟨r4,h4,h⟩:=ob h;try simp only[h2,C,E,F,G,H,J]
  refine Ec (A8 zu h4) X (Cm X) X (uf X) ?_;try simp only[h2,C,E,F,G,H,J]
  refine BZ ?_;try simp only[h2,C,E,F,G,H,J]
  refine EK (cs':= [.own 1216,aI r4,.own 152704,.nil]) X X X X ?_;try simp only[h2,C,E,F,G,H,J]
  refine EK (cs':= [.own 1216,aI r4,.own 152704,.own 152768]) X X X X ?_;try simp only[h2,C,E,F,G,H,J]
  refine Ae ?_;obtain⟨r5,h5,h⟩:=ob h;try simp only[h2,C,E,F,G,H,J]
  refine JR (zm h5) 24 [152704,152768] rfl X X X (by decide) X X X ?_;try simp only[h2,C,E,F,G,H,J]
  refine Ai ?_;try simp only[h2,C,E,F,G,H,J]
  cases h;trivial
 ·try simp only[h2,C,E,F,G,H,J]
  cases h;trivial
instance A78:Ct 201 (∀{a0} {a1} {a2} {a3} {r},ED a0 a1 a2 a3=N r→FC Z 201 [.sc (.int .i64 a0),.sc (.sl (Y rI a1)),.sc (.sl (Y zB a2)),.sc (.int .i64 a3)] [.sc (.v (.bool r))]):=by
 refine⟨fun h=> ?_⟩;unfold ED at h;refine A2 mixed h0 [8] 27 ?_;exact gc
def US:Hw:=([(8,[2,5,6,13,14,15],[2],[704,768])],[])
def cN:=fun a1 (a0:X1) (k_:U→(P X2)→(P Xd)→Q V)=>∀{v1 v2 v3} {zr},k_ v1 v2 v3=N zr→Kh Z 173 US 8 [2,5,6,13,14,15] [2] [704,768] ⟨[pB 2,pW 5 704,pW 6 768,pL 13 X0.row a1,pI 14 (a1.length:U),pI 15 v1],[(2,(dm a0.row))],[(704,5,Y X2.row v2),(768,4,Y zB v3)]⟩ (A6 [4] [.sc (.v (.bool zr))])
theorem A2e{a1 a0}{n:W}:cN a1 a0 (E7 a1 a0 n):=by
 induction n with
 | zero=>intro _ _ _ r h; cases h
 | succ n ih=>
  intro v1 v2 v3 r h σ hσ;rw[E7] at h;have s0:=fun(r10:Xd)=> @AA (Y zB ([r10]:P Xd))
  exact gc
instance zp:Ct 173 (∀{a0} {a1} {r},EE a0 a1=N r→FC Z 173 [.ag (X1.row a0),.sc (.sl (Y X0.row a1))] [.sc (.v (.bool r))]):=by
 refine⟨fun h=> ?_⟩;unfold EE at h;refine A2 mixed US [4] 79 ?_;have s0:= @AA (Y X2.row ([]:P X2));have s1:= @AA (Y zB ([]:P Xd));have k0:= @A2e;exact gc
def Nh:P (P W × AItem):= [([],(O,.load 25 (S 3) T 12)),([],(O,.mv 26 (S 1))),([1],(O,.call 27 174 [(S 26)])),([],(O,.load 28 (S 5) T 4)),([3],(O,.bslice 29 4 [.int .i64 0,.int .i64 0,.int .i64 0,.sl []] 1 [(0,(S 28))])),([2,4,2],(O,.app 30 4 48 (S 27) (S 29))),([0,5,5],(O,.call 31 173 [(S 25),(S 30)])),([6,6,0,1,2,3,4,5,6],(O,.mv 6 (S 31)))]
def UU:Hw:=([(6,[1,3,5,9,10,11],[3,5],[])],[])
abbrev Ch(a1:P X0)(a0:X1)(a2:X0)(r9:V)(wo2_:AV)(c0_ c1_:V)(c2_ c3_:V)(c4_ c5_:V)(c6_ c7_:V)(bx_:P (W × P AC))(rs_:Rows):St:=⟨[(1,vc (aL (Y X0.row a1))),(3,vc (.pb 3 0)),(5,vc (.pb 5 0)),(25,bif c0_ then va (dm a0.row) else .undef),(26,bif c1_ then vc (aL (Y X0.row a1)) else .undef),(27,bif c2_ then wo2_ else .undef),(28,bif c3_ then va (dm a2.row) else .undef),(29,bif c4_ then vc (.own 1856) else .undef),(30,bif c5_ then vc (.own 1728) else .undef),(31,bif c6_ then vc (aB r9) else .undef),(6,bif c7_ then vc (aB r9) else .undef)],bx_,rs_⟩
abbrev IH(a1:P X0)(a0:X1)(a2:X0)(r6:(P X0))(r9:V):St:=(Ch a1 a0 a2 r9 (vc (.undef)) T T T T T T T T [(3,(dm a0.row)),(5,(dm a2.row))] [(1728,4,Y X0.row (r6++([a2]:P X0))),(1856,4,Y X0.row ([a2]:P X0))])
theorem A2f(a1 a0 a2 r6 r9)(h6:EC a1=N r6)(h7:(A4 r6.length ([a2]:P X0).length 48)=T)(h9:EE a0 (r6++([a2]:P X0))=N r9):∀(f:W) (b0 b6 b7:V),Av Z Nh (IH a1 a0 a2 r6 r9) f [b0,T,T,T,T,T,b6,b7] (Ch a1 a0 a2 r9 (vc (.undef)) b0 T T T T T b6 b7 [(3,(dm a0.row)),(5,(dm a2.row))] [(1728,4,Y X0.row (r6++([a2]:P X0))),(1856,4,Y X0.row ([a2]:P X0))]):=by
 intro f
 induction f with
 | zero=>
  intro b0 b6 b7 h;obtain rfl:b0=T:=zA.1 h b0 (by simp);obtain rfl:b6=T:=zA.1 h b6 (by simp);obtain rfl:b7=T:=zA.1 h b7 (by simp);rfl
 | succ f ih=>
  intro b0 b6 b7;refine AF ⟨?_,?_,?_,?_,?_,?_,?_,?_,⟨⟩⟩<;>try first | (intro h; cases h; done) | (intro h0 hw; obtain rfl:=hz h0 rfl; (try obtain rfl:=hq hw 0 rfl rfl); (try obtain rfl:=hq hw 6 rfl rfl); refine np ?_; simp only[Ch,Ac,Af,A7,C,E,F,G,H,J]; exact ih _ _ _)
  ·intro h0 hw;obtain rfl:=hz h0 rfl;obtain rfl:=hq hw 0 rfl rfl;refine np ?_;try simp only[Ch,Ac,Af,A7,C,E,F,G,H,J]
   refine Ec (A8 zp h9) X (Cm X) (by simp only[St.fresh,zC,zD,BL]; simp[AV.cells,V1.cells,AC.uses]) (uf X) ?_;try simp only[A7,C,E,F,G,H,J]
   exact ih T T b7
theorem Zu(a1 a0 a2 r6 r9)(h6:EC a1=N r6)(h7:(A4 r6.length ([a2]:P X0).length 48)=T)(h9:EE a0 (r6++([a2]:P X0))=N r9):∀(f:W) (b0:V),Av Z Nh (IH a1 a0 a2 r6 r9) f [b0,T,T,T,T,L,L,L] (Ch a1 a0 a2 r9 (vc (.own 1728)) b0 T T T T L L L [(3,(dm a0.row)),(5,(dm a2.row))] [(1728,4,Y X0.row r6),(1856,4,Y X0.row ([a2]:P X0))]):=by
 intro f
 induction f with
 | zero=>intro b0 h; simp at h
 | succ f ih=>
  intro b0;refine AF ⟨?_,?_,?_,?_,?_,?_,?_,?_,⟨⟩⟩<;>try first | (intro h; cases h; done) | (intro _ hw; simp at hw; done) | (intro h0 hw; obtain rfl:=hz h0 rfl; refine np ?_; simp only[Ch,Ac,Af,A7,C,E,F,G,H,J]; exact ih _)
  ·intro h0 hw;refine np ?_;try simp only[h7,Ch,Ac,Af,A7,C,E,F,G,H,J]
   exact A2f a1 a0 a2 r6 r9 h6 h7 h9 _ b0 L L
theorem A2g(a1 a0 a2 r6 r9)(h6:EC a1=N r6)(h7:(A4 r6.length ([a2]:P X0).length 48)=T)(h9:EE a0 (r6++([a2]:P X0))=N r9):∀(f:W) (b0 b3:V),Av Z Nh (IH a1 a0 a2 r6 r9) f [b0,T,T,b3,L,L,L,L] (Ch a1 a0 a2 r9 (vc (.own 1728)) b0 T T b3 L L L L [(3,(dm a0.row)),(5,(dm a2.row))] [(1728,4,Y X0.row r6)]):=by
 intro f
 induction f with
 | zero=>intro b0 b3 h; simp at h
 | succ f ih=>
  intro b0 b3;refine AF ⟨?_,?_,?_,?_,?_,?_,?_,?_,⟨⟩⟩<;>try first | (intro h; cases h; done) | (intro _ hw; simp at hw; done) | (intro h0 hw; obtain rfl:=hz h0 rfl; refine np ?_; simp only[Ch,Ac,Af,A7,C,E,F,G,H,J]; exact ih _ _)
  ·intro h0 hw;obtain rfl:=hq hw 3 rfl rfl;refine np ?_;try simp only[Ch,Ac,Af,A7,C,E,F,G,H,J]
   refine DL (es:=Y X0.row ([a2]:P X0)) X (by simp only[St.fresh,zC,zD,BL]; simp[AV.cells,V1.cells,AC.uses]) ?_;try simp only[A7,C,E,F,G,H,J]
   exact Zu a1 a0 a2 r6 r9 h6 h7 h9 _ b0
theorem A2h(a1 a0 a2 r6 r9)(h6:EC a1=N r6)(h7:(A4 r6.length ([a2]:P X0).length 48)=T)(h9:EE a0 (r6++([a2]:P X0))=N r9):∀(f:W) (b0 b1:V),Av Z Nh (IH a1 a0 a2 r6 r9) f [b0,b1,L,T,T,L,L,L] (Ch a1 a0 a2 r9 (vc (.own 1728)) b0 b1 L T T L L L [(3,(dm a0.row)),(5,(dm a2.row))] [(1856,4,Y X0.row ([a2]:P X0))]):=by
 intro f
 induction f with
 | zero=>intro b0 b1 h; simp at h
 | succ f ih=>
  intro b0 b1;refine AF ⟨?_,?_,?_,?_,?_,?_,?_,?_,⟨⟩⟩<;>try first | (intro h; cases h; done) | (intro _ hw; simp at hw; done) | (intro h0 hw; obtain rfl:=hz h0 rfl; refine np ?_; simp only[Ch,Ac,Af,A7,C,E,F,G,H,J]; exact ih _ _)
  ·intro h0 hw;obtain rfl:=hq hw 1 rfl rfl;refine⟨[],[(O,.keep [1,3,5,25,26,27,28,29,30,31,6] [3,5] [1728,1856])],X,X,?_⟩;try simp only[Ch,Ac,Af,zF,zE,A7,C,E,F,G,H,J]
   refine JQ (A8 Zi h6) X (by simp only[St.fresh,zC,zD,BL]; simp[AV.cells,V1.cells,AC.uses]) (uf X) ?_;try simp only[A7,C,E,F,G,H,J]
   exact Zu a1 a0 a2 r6 r9 h6 h7 h9 _ b0
theorem A2i(a1 a0 a2 r6 r9)(h6:EC a1=N r6)(h7:(A4 r6.length ([a2]:P X0).length 48)=T)(h9:EE a0 (r6++([a2]:P X0))=N r9):∀(f:W) (b0 b1 b3:V),Av Z Nh (IH a1 a0 a2 r6 r9) f [b0,b1,L,b3,L,L,L,L] (Ch a1 a0 a2 r9 (vc (.own 1728)) b0 b1 L b3 L L L L [(3,(dm a0.row)),(5,(dm a2.row))] []):=by
 intro f
 induction f with
 | zero=>intro b0 b1 b3 h; simp at h
 | succ f ih=>
  intro b0 b1 b3;refine AF ⟨?_,?_,?_,?_,?_,?_,?_,?_,⟨⟩⟩<;>try first | (intro _ hw; simp at hw; done) | (intro h0 hw; obtain rfl:=hz h0 rfl; refine np ?_; simp only[Ch,Ac,Af,A7,C,E,F,G,H,J]; exact ih _ _ _)
  ·intro h0 hw;obtain rfl:=hq hw 1 rfl rfl;refine np ?_;try simp only[Ch,Ac,Af,A7,C,E,F,G,H,J]
   refine JQ (A8 Zi h6) X (by simp only[St.fresh,zC,zD,BL]; simp[AV.cells,V1.cells,AC.uses]) (uf X) ?_;try simp only[A7,C,E,F,G,H,J]
   exact A2g a1 a0 a2 r6 r9 h6 h7 h9 _ b0 b3
  ·intro h0 hw;obtain rfl:=hq hw 3 rfl rfl;refine np ?_;try simp only[Ch,Ac,Af,A7,C,E,F,G,H,J]
   refine DL (es:=Y X0.row ([a2]:P X0)) X (by simp only[St.fresh,zC,zD,BL]; simp[AV.cells,V1.cells,AC.uses]) ?_;try simp only[A7,C,E,F,G,H,J]
   exact A2h a1 a0 a2 r6 r9 h6 h7 h9 _ b0 b1
def cO:=fun a1 (a0:X1) (a2:X0) (k_:U→Q V)=>∀{v1} {zr},k_ v1=N zr→Kh Z 132 UU 6 [1,3,5,9,10,11] [3,5] [] ⟨[pL 1 X0.row a1,pB 3,pB 5,pL 9 X0.row a1,pI 10 (a1.length:U),pI 11 v1],[(3,(dm a0.row)),(5,(dm a2.row))],[]⟩ (A6 [6] [.sc (.v (.bool zr))])
theorem A2j{a1 a0 a2}{n:W}:cO a1 a0 a2 (EF a1 a0 a2 n):=by
 induction n with
 | zero=>intro _ r h; cases h
 | succ n ih=>
  intro v1 r h σ hσ S hS;refine ev hS ?_;rw[EF] at h;refine AY (Aw ?_);obtain⟨h2,h⟩|⟨h2,h⟩:=ic h
  ·obtain⟨x3,h3,h⟩:=ob h;try simp only[hσ,h2,h3,C,E,F,G,H,J]
   refine B0 ?_;obtain⟨r4,h4,h⟩:=ob h;try simp only[h2,h3,C,E,F,G,H,J]
   refine Ao (A8 SA h4) ?_;obtain⟨h5,h⟩|⟨h5,h⟩:=ic h
   ·try simp only[h2,h3,h5,C,E,F,G,H,J]
    cases h;exact t0
   ·try simp only[h2,h3,h5,C,E,F,G,H,J]
    refine ih h ?_ (by kernel_rfl);try simp only[h2,h3,h5,C,E,F,G,H,J,pL,aM,I]
  ·try simp only[hσ,h2,C,E,F,G,H,J]
   obtain⟨r6,h6,h⟩:=ob h;obtain⟨h7,h⟩:=AN h;obtain⟨r9,h9,h⟩:=ob h;refine EJ (ks:= [1,3,5]) (bs:= [3,5]) (rs:= []) (τ:=(IH a1 a0 a2 r6 r9)) X (A2i a1 a0 a2 r6 r9 h6 h7 h9 _ L L L) ?_;simp only[IH,Ch,Ac];try simp only[h2,h7,C,E,F,G,H,J]
   cases h;exact t0
instance zq:Ct 132 (∀{a0} {a1} {a2} {r},Fq a0 a1 a2=N r→FC Z 132 [.ag (X1.row a0),.sc (.sl (Y X0.row a1)),.ag (X0.row a2)] [.sc (.v (.bool r))]):=by
 refine⟨fun h=> ?_⟩;unfold Fq at h;refine A2 mixed UU [6] 32 ?_;have k0:= @A2j;exact gc
def Ni:P (P W × AItem):= [([],(O,.mv 40 (S 0))),([],(O,.mv 41 (S 0))),([],(O,.mv 42 (S 0))),([],(O,.mv 43 (S 0))),([3],(O,.nilc 44 (S 43))),([4],(O,.faddr 45 (S 44) 15)),([5],(O,.load 46 (S 45) L 1)),([6],(O,.call 47 39 [(S 46)])),([],(O,.load 48 (S 2) T 2)),([0,0,3,4,5,6,7],(O,.nilc 49 (S 40))),([9,0,3,4,5,6,7],(O,.faddr 50 (S 49) 16)),([10,7,7,0,3,4,5,6,7],(O,.store (S 50) (S 47) 1)),([1,0,1,3,4,5,6,7,8,9,10,11],(O,.nilc 51 (S 41))),([12,0,1,3,4,5,6,7,8,9,10,11],(O,.faddr 52 (S 51) 17)),([13,8,11,0,1,3,4,5,6,7,8,9,10,11],(O,.store (S 52) (S 48) 2)),([2,0,1,2,3,4,5,6,7,8,9,10,11,12,13,14],(O,.nilc 53 (S 42))),([15,0,1,2,3,4,5,6,7,8,9,10,11,12,13,14],(O,.faddr 54 (S 53) 19)),([16,14,0,1,2,3,4,5,6,7,8,9,10,11,12,13,14],(O,.store (S 54) (KB T) 1))]
def FV:P (P W × AItem):= [([],(O,.mv 79 (S 0))),([],(O,.mv 80 (S 0))),([],(O,.mv 81 (S 0))),([2],(O,.nilc 82 (S 81))),([3],(O,.faddr 83 (S 82) 14)),([4],(O,.load 84 (S 83) L 1)),([],(O,.load 85 (S 5) T 4)),([6],(O,.bslice 86 4 [.int .i64 0,.int .i64 0,.int .i64 0,.sl []] 1 [(0,(S 85))])),([5,7],(O,.app 87 4 48 (S 84) (S 86))),([],(O,.mv 88 (S 0))),([9],(O,.nilc 89 (S 88))),([10],(O,.faddr 90 (S 89) 15)),([11],(O,.load 91 (S 90) L 1)),([],(O,.mv 92 (S 4))),([13],(O,.bslice 93 1 [.int .i64 0] 1 [(0,(S 92))])),([12,14,8],(O,.app 94 1 8 (S 91) (S 93))),([0,0,2,3,4,5,6,7,8,12,15],(O,.nilc 95 (S 79))),([16,0,2,3,4,5,6,7,8,12,15],(O,.faddr 96 (S 95) 14)),([17,8,15,0,2,3,4,5,6,7,8,12,15],(O,.store (S 96) (S 87) 1)),([1,0,1,2,3,4,5,6,7,8,9,10,11,12,13,14,15,16,17,18],(O,.nilc 97 (S 80))),([19,0,1,2,3,4,5,6,7,8,9,10,11,12,13,14,15,16,17,18],(O,.faddr 98 (S 97) 15)),([20,15,18,0,1,2,3,4,5,6,7,8,9,10,11,12,13,14,15,16,17,18],(O,.store (S 98) (S 94) 1))]
def IK:P (P W × AItem):= [([],(O,.mv 101 (S 0))),([],(O,.mv 102 (S 0))),([],(O,.mv 103 (S 0))),([2],(O,.nilc 104 (S 103))),([3],(O,.faddr 105 (S 104) 14)),([4],(O,.load 106 (S 105) L 1)),([],(O,.mv 107 (S 3))),([5,6],(O,.slc 108 4 (S 106) O (N (S 107)) O)),([],(O,.mv 109 (S 0))),([8],(O,.nilc 110 (S 109))),([9],(O,.faddr 111 (S 110) 15)),([10],(O,.load 112 (S 111) L 1)),([],(O,.mv 113 (S 3))),([11,12],(O,.slc 114 1 (S 112) O (N (S 113)) O)),([0,0,2,3,4,5,6,7,11],(O,.nilc 115 (S 101))),([14,0,2,3,4,5,6,7,11],(O,.faddr 116 (S 115) 14)),([15,7,0,2,3,4,5,6,7,11],(O,.store (S 116) (S 108) 1)),([1,0,1,2,3,4,5,6,7,8,9,10,11,12,13,14,15,16],(O,.nilc 117 (S 102))),([17,0,1,2,3,4,5,6,7,8,9,10,11,12,13,14,15,16],(O,.faddr 118 (S 117) 15)),([18,13,16,0,1,2,3,4,5,6,7,8,9,10,11,12,13,14,15,16],(O,.store (S 118) (S 114) 1))]
def OO:Hw:=([(8,[0,2],[99999999999,2],[90000,90001,90002]),(21,[0,3,61,62,63],[99999999999],[90000,90001,90002])],[])
abbrev CG(r1:Xi)(c0_ c1_:V)(c2_ c3_:V)(c4_ c5_:V)(c6_ c7_:V)(c8_ c9_:V)(c10_ c12_:V)(c13_ c15_ c16_:V)(bx_:P (W × P AC))(rs_:Rows):St:=⟨[(0,vc (.pb 99999999999 0)),(2,vc (.pb 2 0)),(40,bif c0_ then vc (.pb 99999999999 0) else .undef),(41,bif c1_ then vc (.pb 99999999999 0) else .undef),(42,bif c2_ then vc (.pb 99999999999 0) else .undef),(43,bif c3_ then vc (.pb 99999999999 0) else .undef),(44,bif c4_ then vc (.pb 99999999999 0) else .undef),(45,bif c5_ then vc (.pb 99999999999 15) else .undef),(46,bif c6_ then vc (.own 90001) else .undef),(47,bif c7_ then vc (.own 3008) else .undef),(48,bif c8_ then va [aI r1.i0,aI r1.i1] else .undef),(49,bif c9_ then vc (.pb 99999999999 0) else .undef),(50,bif c10_ then vc (.pb 99999999999 16) else .undef),(51,bif c12_ then vc (.pb 99999999999 0) else .undef),(52,bif c13_ then vc (.pb 99999999999 17) else .undef),(53,bif c15_ then vc (.pb 99999999999 0) else .undef),(54,bif c16_ then vc (.pb 99999999999 19) else .undef)],bx_,rs_⟩
abbrev II(F_w0:FuncId)(caps_w0:P D)(a0:Xe)(r1:Xi)(r7:(P U)):St:=(CG r1 T T T T T T T T T T T T T T T [(99999999999,(dm a0.h.row++ [aL (Y (rL X0.row) a0.choices),.dat (.clo F_w0 caps_w0),.own 90000,.own 90001,.own 3008,aI r1.i0,aI r1.i1,aB T])),(2,[aI r1.i0,aI r1.i1])] [(90000,4,Y X0.row a0.plan),(90001,1,Y rI a0.choice),(90002,1,Y rI a0.best),(3008,1,Y rI r7)])
theorem A2k(F_w0:FuncId)(caps_w0:P D)(a0:Xe)(r1:Xi)(v5:V)(r7)(h7:Bl a0.choice=N r7):∀(f:W) (b15:V),Av Z Ni (II F_w0 caps_w0 a0 r1 r7) f [T,T,T,T,T,T,T,T,T,T,T,T,T,T,T,b15,T,T] (CG r1 T T T T T T T T T T T T T b15 T [(99999999999,(dm a0.h.row++ [aL (Y (rL X0.row) a0.choices),.dat (.clo F_w0 caps_w0),.own 90000,.own 90001,.own 3008,aI r1.i0,aI r1.i1,aB T])),(2,[aI r1.i0,aI r1.i1])] [(90000,4,Y X0.row a0.plan),(90001,1,Y rI a0.choice),(90002,1,Y rI a0.best),(3008,1,Y rI r7)]):=by
 intro f
 induction f with
 | zero=>
  intro b15 h;obtain rfl:b15=T:=zA.1 h b15 (by simp);rfl
 | succ f ih=>
  intro b15;refine AF ⟨?_,?_,?_,?_,?_,?_,?_,?_,?_,?_,?_,?_,?_,?_,?_,?_,?_,?_,⟨⟩⟩<;>try first | (intro h; cases h; done) | (intro h0 hw; obtain rfl:=hz h0 rfl; refine np ?_; simp only[CG,Ac,Af,A7,C,E,F,G,H,J]; exact ih _)
theorem A2l(F_w0:FuncId)(caps_w0:P D)(a0:Xe)(r1:Xi)(v5:V)(r7)(h7:Bl a0.choice=N r7):∀(f:W) (b2 b12:V) (b15 b16:V),Av Z Ni (II F_w0 caps_w0 a0 r1 r7) f [T,T,b2,T,T,T,T,T,T,T,T,T,b12,T,T,b15,b16,L] (CG r1 T T b2 T T T T T T T T b12 T b15 b16 [(99999999999,(dm a0.h.row++ [aL (Y (rL X0.row) a0.choices),.dat (.clo F_w0 caps_w0),.own 90000,.own 90001,.own 3008,aI r1.i0,aI r1.i1,aB v5])),(2,[aI r1.i0,aI r1.i1])] [(90000,4,Y X0.row a0.plan),(90001,1,Y rI a0.choice),(90002,1,Y rI a0.best),(3008,1,Y rI r7)]):=by
 intro f
 induction f with
 | zero=>intro b2 b12 b15 b16 h; simp at h
 | succ f ih=>
  intro b2 b12 b15 b16;refine AF ⟨?_,?_,?_,?_,?_,?_,?_,?_,?_,?_,?_,?_,?_,?_,?_,?_,?_,?_,⟨⟩⟩<;>try first | (intro h; cases h; done) | (intro h0 hw; obtain rfl:=hz h0 rfl; (try obtain rfl:=hq hw 2 rfl rfl); (try obtain rfl:=hq hw 12 rfl rfl); (try obtain rfl:=hq hw 15 rfl rfl); refine np ?_; simp only[CG,Ac,Af,A7,C,E,F,G,H,J]; exact ih _ _ _ _)
  ·intro h0 hw;obtain rfl:=hq hw 2 rfl rfl;obtain rfl:=hq hw 12 rfl rfl;obtain rfl:=hq hw 16 rfl rfl;refine np ?_;try simp only[CG,Ac,Af,A7,C,E,F,G,H,J]
   exact A2k F_w0 caps_w0 a0 r1 v5 r7 h7 _ b15
theorem A2n(F_w0:FuncId)(caps_w0:P D)(a0:Xe)(r1:Xi)(v5:V)(r7)(h7:Bl a0.choice=N r7):∀(f:W) (b1 b2:V) (b8 b9:V) (b12 b13:V),Av Z Ni (II F_w0 caps_w0 a0 r1 r7) f [T,b1,b2,T,T,T,T,T,b8,b9,T,T,b12,b13,L,L,L,L] (CG r1 T b1 b2 T T T T T b8 b9 T b12 b13 L L [(99999999999,(dm a0.h.row++ [aL (Y (rL X0.row) a0.choices),.dat (.clo F_w0 caps_w0),.own 90000,.own 90001,.own 3008,aI a0.least.i0,aI a0.least.i1,aB v5])),(2,[aI r1.i0,aI r1.i1])] [(90000,4,Y X0.row a0.plan),(90001,1,Y rI a0.choice),(90002,1,Y rI a0.best),(3008,1,Y rI r7)]):=by
 intro f
 induction f with
 | zero=>intro b1 b2 b8 b9 b12 b13 h; simp at h
 | succ f ih=>
  intro b1 b2 b8 b9 b12 b13;refine AF ⟨?_,?_,?_,?_,?_,?_,?_,?_,?_,?_,?_,?_,?_,?_,?_,?_,?_,?_,⟨⟩⟩<;>try first | (intro h; cases h; done) | (intro _ hw; simp at hw; done) | (intro h0 hw; obtain rfl:=hz h0 rfl; (try obtain rfl:=hq hw 1 rfl rfl); (try obtain rfl:=hq hw 8 rfl rfl); (try obtain rfl:=hq hw 9 rfl rfl); (try obtain rfl:=hq hw 12 rfl rfl); refine np ?_; simp only[CG,Ac,Af,A7,C,E,F,G,H,J]; exact ih _ _ _ _ _ _)
  ·intro h0 hw;obtain rfl:=hq hw 1 rfl rfl;obtain rfl:=hq hw 8 rfl rfl;obtain rfl:=hq hw 9 rfl rfl;obtain rfl:=hq hw 13 rfl rfl;refine np ?_;try simp only[CG,Ac,Af,A7,C,E,F,G,H,J]
   exact A2l F_w0 caps_w0 a0 r1 v5 r7 h7 _ b2 b12 L L
theorem A2o(F_w0:FuncId)(caps_w0:P D)(a0:Xe)(r1:Xi)(v5:V)(r7)(h7:Bl a0.choice=N r7):∀(f:W) (b0 b1:V) (b2 b3:V) (b4 b5:V) (b8 b9 b10:V),Av Z Ni (II F_w0 caps_w0 a0 r1 r7) f [b0,b1,b2,b3,b4,b5,T,T,b8,b9,b10,L,L,L,L,L,L,L] (CG r1 b0 b1 b2 b3 b4 b5 T T b8 b9 b10 L L L L [(99999999999,(dm a0.h.row++ [aL (Y (rL X0.row) a0.choices),.dat (.clo F_w0 caps_w0),.own 90000,.own 90001,.own 90002,aI a0.least.i0,aI a0.least.i1,aB v5])),(2,[aI r1.i0,aI r1.i1])] [(90000,4,Y X0.row a0.plan),(90001,1,Y rI a0.choice),(90002,1,Y rI a0.best),(3008,1,Y rI r7)]):=by
 intro f
 induction f with
 | zero=>intro b0 b1 b2 b3 b4 b5 b8 b9 b10 h; simp at h
 | succ f ih=>
  intro b0 b1 b2 b3 b4 b5 b8 b9 b10;refine AF ⟨?_,?_,?_,?_,?_,?_,?_,?_,?_,?_,?_,?_,?_,?_,?_,?_,?_,?_,⟨⟩⟩<;>try first | (intro h; cases h; done) | (intro _ hw; simp at hw; done) | (intro h0 hw; obtain rfl:=hz h0 rfl; (try obtain rfl:=hq hw 0 rfl rfl); (try obtain rfl:=hq hw 3 rfl rfl); (try obtain rfl:=hq hw 4 rfl rfl); (try obtain rfl:=hq hw 5 rfl rfl); (try obtain rfl:=hq hw 9 rfl rfl); refine np ?_; simp only[CG,Ac,Af,A7,C,E,F,G,H,J]; exact ih _ _ _ _ _ _ _ _ _)
  ·intro h0 hw;obtain rfl:=hq hw 0 rfl rfl;obtain rfl:=hq hw 3 rfl rfl;obtain rfl:=hq hw 4 rfl rfl;obtain rfl:=hq hw 5 rfl rfl;obtain rfl:=hq hw 10 rfl rfl;refine np ?_;try simp only[CG,Ac,Af,A7,C,E,F,G,H,J]
   exact A2n F_w0 caps_w0 a0 r1 v5 r7 h7 _ b1 b2 b8 b9 L L
theorem A2p(F_w0:FuncId)(caps_w0:P D)(a0:Xe)(r1:Xi)(v5:V)(r7)(h7:Bl a0.choice=N r7):∀(f:W) (b0 b1:V) (b2 b3:V) (b4 b5:V) (b6 b8:V),Av Z Ni (II F_w0 caps_w0 a0 r1 r7) f [b0,b1,b2,b3,b4,b5,b6,L,b8,L,L,L,L,L,L,L,L,L] (CG r1 b0 b1 b2 b3 b4 b5 b6 L b8 L L L L L L [(99999999999,(dm a0.h.row++ [aL (Y (rL X0.row) a0.choices),.dat (.clo F_w0 caps_w0),.own 90000,.own 90001,.own 90002,aI a0.least.i0,aI a0.least.i1,aB v5])),(2,[aI r1.i0,aI r1.i1])] [(90000,4,Y X0.row a0.plan),(90001,1,Y rI a0.choice),(90002,1,Y rI a0.best)]):=by
 intro f
 induction f with
 | zero=>intro b0 b1 b2 b3 b4 b5 b6 b8 h; simp at h
 | succ f ih=>
  intro b0 b1 b2 b3 b4 b5 b6 b8;refine AF ⟨?_,?_,?_,?_,?_,?_,?_,?_,?_,?_,?_,?_,?_,?_,?_,?_,?_,?_,⟨⟩⟩<;>try first | (intro _ hw; simp at hw; done) | (intro h0 hw; obtain rfl:=hz h0 rfl; (try obtain rfl:=hq hw 3 rfl rfl); (try obtain rfl:=hq hw 4 rfl rfl); (try obtain rfl:=hq hw 5 rfl rfl); refine np ?_; simp only[CG,Ac,Af,A7,C,E,F,G,H,J]; exact ih _ _ _ _ _ _ _ _)
  ·intro h0 hw;obtain rfl:=hq hw 6 rfl rfl;refine np ?_;try simp only[CG,Ac,Af,A7,C,E,F,G,H,J]
   refine Ec (A8 PL h7) X (Ea X ⟨Eb,⟨⟩⟩) (by simp only[St.fresh,zC,zD,BL]; simp[AV.cells,V1.cells,AC.uses]) (uf X) ?_;try simp only[A7,C,E,F,G,H,J]
   exact A2o F_w0 caps_w0 a0 r1 v5 r7 h7 _ b0 b1 b2 b3 b4 b5 b8 L L
abbrev Bc(a0:Xe)(x8:P X0)(v9:U)(x19:X0)(wo5_ wo12_:AV)(c0_ c1_:V)(c2_ c3_:V)(c4_ c5_:V)(c6_ c7_:V)(c8_ c9_:V)(c10_ c11_:V)(c12_ c13_:V)(c14_ c15_:V)(c16_ c17_:V)(c19_ c20_:V)(bx_:P (W × P AC))(rs_:Rows):St:=⟨[(0,vc (.pb 99999999999 0)),(3,vc (aI (a0.plan.length:U))),(4,vc (aI v9)),(5,vc (.pb 5 0)),(61,vc (aL (Y X0.row x8))),(62,vc (aI (x8.length:U))),(63,vc (aI v9)),(79,bif c0_ then vc (.pb 99999999999 0) else .undef),(80,bif c1_ then vc (.pb 99999999999 0) else .undef),(81,bif c2_ then vc (.pb 99999999999 0) else .undef),(82,bif c3_ then vc (.pb 99999999999 0) else .undef),(83,bif c4_ then vc (.pb 99999999999 14) else .undef),(84,bif c5_ then wo5_ else .undef),(85,bif c6_ then va (dm x19.row) else .undef),(86,bif c7_ then vc (.own 5504) else .undef),(87,bif c8_ then vc (.own 90000) else .undef),(88,bif c9_ then vc (.pb 99999999999 0) else .undef),(89,bif c10_ then vc (.pb 99999999999 0) else .undef),(90,bif c11_ then vc (.pb 99999999999 15) else .undef),(91,bif c12_ then wo12_ else .undef),(92,bif c13_ then vc (aI v9) else .undef),(93,bif c14_ then vc (.own 5952) else .undef),(94,bif c15_ then vc (.own 90001) else .undef),(95,bif c16_ then vc (.pb 99999999999 0) else .undef),(96,bif c17_ then vc (.pb 99999999999 14) else .undef),(97,bif c19_ then vc (.pb 99999999999 0) else .undef),(98,bif c20_ then vc (.pb 99999999999 15) else .undef)],bx_,rs_⟩
abbrev Ej(F_w0:FuncId)(caps_w0:P D)(a0:Xe)(x8:P X0)(v9:U)(v10:X1)(v11:P (P X0))(v12 v13:U)(v14:V)(v15:P X0)(v16 v17:P U)(x19:X0):St:=(Bc a0 x8 v9 x19 (vc (.undef)) (vc (.undef)) T T T T T T T T T T T T T T T T T T T T [(99999999999,(dm v10.row++ [aL (Y (rL X0.row) v11),.dat (.clo F_w0 caps_w0),.own 90000,.own 90001,.own 90002,aI v12,aI v13,aB v14])),(5,(dm x19.row))] [(90000,4,Y X0.row (v15++([x19]:P X0))),(90001,1,Y rI (v16++([v9]:P U))),(90002,1,Y rI v17),(5504,4,Y X0.row ([x19]:P X0)),(5952,1,Y rI ([v9]:P U))])
theorem A2q(F_w0:FuncId)(caps_w0:P D)(a0:Xe)(x8:P X0)(v9)(v10:X1)(v11)(v12)(v13)(v14)(v15:P X0)(v16:P U)(v17)(x19)(h22:(A4 v15.length ([x19]:P X0).length 48)=T)(h23:(A4 v16.length ([v9]:P U).length 8)=T):∀(f:W) (b19:V),Av Z FV (Ej F_w0 caps_w0 a0 x8 v9 v10 v11 v12 v13 v14 v15 v16 v17 x19) f [T,T,T,T,T,T,T,T,T,T,T,T,T,T,T,T,T,T,T,b19,T,T] (Bc a0 x8 v9 x19 (vc (.undef)) (vc (.undef)) T T T T T T T T T T T T T T T T T T b19 T [(99999999999,(dm v10.row++ [aL (Y (rL X0.row) v11),.dat (.clo F_w0 caps_w0),.own 90000,.own 90001,.own 90002,aI v12,aI v13,aB v14])),(5,(dm x19.row))] [(90000,4,Y X0.row (v15++([x19]:P X0))),(90001,1,Y rI (v16++([v9]:P U))),(90002,1,Y rI v17),(5504,4,Y X0.row ([x19]:P X0)),(5952,1,Y rI ([v9]:P U))]):=by
 intro f
 induction f with
 | zero=>
  intro b19 h;obtain rfl:b19=T:=zA.1 h b19 (by simp);rfl
 | succ f ih=>
  intro b19;refine AF ⟨?_,?_,?_,?_,?_,?_,?_,?_,?_,?_,?_,?_,?_,?_,?_,?_,?_,?_,?_,?_,?_,?_,⟨⟩⟩<;>try first | (intro h; cases h; done) | (intro h0 hw; obtain rfl:=hz h0 rfl; refine np ?_; simp only[Bc,Ac,Af,A7,C,E,F,G,H,J]; exact ih _)
theorem A2r(F_w0:FuncId)(caps_w0:P D)(a0:Xe)(x8:P X0)(v9)(v10:X1)(v11)(v12)(v13)(v14)(v15:P X0)(v16:P U)(v17)(x19)(h22:(A4 v15.length ([x19]:P X0).length 48)=T)(h23:(A4 v16.length ([v9]:P U).length 8)=T):∀(f:W) (b1 b9:V) (b10 b11:V) (b16 b19 b20:V),Av Z FV (Ej F_w0 caps_w0 a0 x8 v9 v10 v11 v12 v13 v14 v15 v16 v17 x19) f [T,b1,T,T,T,T,T,T,T,b9,b10,b11,T,T,T,T,b16,T,T,b19,b20,L] (Bc a0 x8 v9 x19 (vc (.undef)) (vc (.undef)) T b1 T T T T T T T b9 b10 b11 T T T T b16 T b19 b20 [(99999999999,(dm v10.row++ [aL (Y (rL X0.row) v11),.dat (.clo F_w0 caps_w0),.own 90000,.undef,.own 90002,aI v12,aI v13,aB v14])),(5,(dm x19.row))] [(90000,4,Y X0.row (v15++([x19]:P X0))),(90001,1,Y rI (v16++([v9]:P U))),(90002,1,Y rI v17),(5504,4,Y X0.row ([x19]:P X0)),(5952,1,Y rI ([v9]:P U))]):=by
 intro f
 induction f with
 | zero=>intro b1 b9 b10 b11 b16 b19 b20 h; simp at h
 | succ f ih=>
  intro b1 b9 b10 b11 b16 b19 b20;refine AF ⟨?_,?_,?_,?_,?_,?_,?_,?_,?_,?_,?_,?_,?_,?_,?_,?_,?_,?_,?_,?_,?_,?_,⟨⟩⟩<;>try first | (intro h; cases h; done) | (intro h0 hw; obtain rfl:=hz h0 rfl; (try obtain rfl:=hq hw 1 rfl rfl); (try obtain rfl:=hq hw 9 rfl rfl); (try obtain rfl:=hq hw 10 rfl rfl); (try obtain rfl:=hq hw 11 rfl rfl); (try obtain rfl:=hq hw 16 rfl rfl); (try obtain rfl:=hq hw 19 rfl rfl); refine np ?_; simp only[Bc,Ac,Af,A7,C,E,F,G,H,J]; exact ih _ _ _ _ _ _ _)
  ·intro h0 hw;obtain rfl:=hq hw 1 rfl rfl;obtain rfl:=hq hw 9 rfl rfl;obtain rfl:=hq hw 10 rfl rfl;obtain rfl:=hq hw 11 rfl rfl;obtain rfl:=hq hw 16 rfl rfl;obtain rfl:=hq hw 20 rfl rfl;refine np ?_;try simp only[Bc,Ac,Af,A7,C,E,F,G,H,J]
   exact A2q F_w0 caps_w0 a0 x8 v9 v10 v11 v12 v13 v14 v15 v16 v17 x19 h22 h23 _ b19
theorem A2s(F_w0:FuncId)(caps_w0:P D)(a0:Xe)(x8:P X0)(v9)(v10:X1)(v11)(v12)(v13)(v14)(v15:P X0)(v16:P U)(v17)(x19)(h22:(A4 v15.length ([x19]:P X0).length 48)=T)(h23:(A4 v16.length ([v9]:P U).length 8)=T):∀(f:W) (b0 b1:V) (b2 b3:V) (b4 b9:V) (b10 b11:V) (b16 b17:V),Av Z FV (Ej F_w0 caps_w0 a0 x8 v9 v10 v11 v12 v13 v14 v15 v16 v17 x19) f [b0,b1,b2,b3,b4,T,T,T,T,b9,b10,b11,T,T,T,T,b16,b17,L,L,L,L] (Bc a0 x8 v9 x19 (vc (.undef)) (vc (.undef)) b0 b1 b2 b3 b4 T T T T b9 b10 b11 T T T T b16 b17 L L [(99999999999,(dm v10.row++ [aL (Y (rL X0.row) v11),.dat (.clo F_w0 caps_w0),.undef,.undef,.own 90002,aI v12,aI v13,aB v14])),(5,(dm x19.row))] [(90000,4,Y X0.row (v15++([x19]:P X0))),(90001,1,Y rI (v16++([v9]:P U))),(90002,1,Y rI v17),(5504,4,Y X0.row ([x19]:P X0)),(5952,1,Y rI ([v9]:P U))]):=by
 intro f
 induction f with
 | zero=>intro b0 b1 b2 b3 b4 b9 b10 b11 b16 b17 h; simp at h
 | succ f ih=>
  intro b0 b1 b2 b3 b4 b9 b10 b11 b16 b17;refine AF ⟨?_,?_,?_,?_,?_,?_,?_,?_,?_,?_,?_,?_,?_,?_,?_,?_,?_,?_,?_,?_,?_,?_,⟨⟩⟩<;>try first | (intro h; cases h; done) | (intro _ hw; simp at hw; done) | (intro h0 hw; obtain rfl:=hz h0 rfl; (try obtain rfl:=hq hw 0 rfl rfl); (try obtain rfl:=hq hw 2 rfl rfl); (try obtain rfl:=hq hw 3 rfl rfl); (try obtain rfl:=hq hw 4 rfl rfl); (try obtain rfl:=hq hw 9 rfl rfl); (try obtain rfl:=hq hw 10 rfl rfl); (try obtain rfl:=hq hw 16 rfl rfl); refine np ?_; simp only[Bc,Ac,Af,A7,C,E,F,G,H,J]; exact ih _ _ _ _ _ _ _ _ _ _)
  ·intro h0 hw;obtain rfl:=hq hw 0 rfl rfl;obtain rfl:=hq hw 2 rfl rfl;obtain rfl:=hq hw 3 rfl rfl;obtain rfl:=hq hw 4 rfl rfl;obtain rfl:=hq hw 17 rfl rfl;refine np ?_;try simp only[Bc,Ac,Af,A7,C,E,F,G,H,J]
   exact A2r F_w0 caps_w0 a0 x8 v9 v10 v11 v12 v13 v14 v15 v16 v17 x19 h22 h23 _ b1 b9 b10 b11 b16 L L
theorem Zv(F_w0:FuncId)(caps_w0:P D)(a0:Xe)(x8:P X0)(v9)(v10:X1)(v11)(v12)(v13)(v14)(v15:P X0)(v16:P U)(v17)(x19)(h22:(A4 v15.length ([x19]:P X0).length 48)=T)(h23:(A4 v16.length ([v9]:P U).length 8)=T):∀(f:W) (b0 b1:V) (b2 b3:V) (b4 b9:V) (b10 b11 b12:V),Av Z FV (Ej F_w0 caps_w0 a0 x8 v9 v10 v11 v12 v13 v14 v15 v16 v17 x19) f [b0,b1,b2,b3,b4,T,T,T,T,b9,b10,b11,b12,T,T,L,L,L,L,L,L,L] (Bc a0 x8 v9 x19 (vc (.undef)) (vc (.own 90001)) b0 b1 b2 b3 b4 T T T T b9 b10 b11 b12 T T L L L L L [(99999999999,(dm v10.row++ [aL (Y (rL X0.row) v11),.dat (.clo F_w0 caps_w0),.undef,.own 90001,.own 90002,aI v12,aI v13,aB v14])),(5,(dm x19.row))] [(90000,4,Y X0.row (v15++([x19]:P X0))),(90001,1,Y rI v16),(90002,1,Y rI v17),(5504,4,Y X0.row ([x19]:P X0)),(5952,1,Y rI ([v9]:P U))]):=by
 intro f
 induction f with
 | zero=>intro b0 b1 b2 b3 b4 b9 b10 b11 b12 h; simp at h
 | succ f ih=>
  intro b0 b1 b2 b3 b4 b9 b10 b11 b12;refine AF ⟨?_,?_,?_,?_,?_,?_,?_,?_,?_,?_,?_,?_,?_,?_,?_,?_,?_,?_,?_,?_,?_,?_,⟨⟩⟩<;>try first | (intro h; cases h; done) | (intro _ hw; simp at hw; done) | (intro h0 hw; obtain rfl:=hz h0 rfl; (try obtain rfl:=hq hw 2 rfl rfl); (try obtain rfl:=hq hw 3 rfl rfl); (try obtain rfl:=hq hw 9 rfl rfl); (try obtain rfl:=hq hw 10 rfl rfl); (try obtain rfl:=hq hw 11 rfl rfl); refine np ?_; simp only[Bc,Ac,Af,A7,C,E,F,G,H,J]; exact ih _ _ _ _ _ _ _ _ _)
  ·intro h0 hw;obtain rfl:=hq hw 12 rfl rfl;refine np ?_;try simp only[h23,Bc,Ac,Af,A7,C,E,F,G,H,J]
   exact A2s F_w0 caps_w0 a0 x8 v9 v10 v11 v12 v13 v14 v15 v16 v17 x19 h22 h23 _ b0 b1 b2 b3 b4 b9 b10 b11 L L
theorem A2t(F_w0:FuncId)(caps_w0:P D)(a0:Xe)(x8:P X0)(v9)(v10:X1)(v11)(v12)(v13)(v14)(v15:P X0)(v16:P U)(v17)(x19)(h22:(A4 v15.length ([x19]:P X0).length 48)=T)(h23:(A4 v16.length ([v9]:P U).length 8)=T):∀(f:W) (b0 b1:V) (b2 b3:V) (b4 b9:V) (b10 b11:V) (b12 b13:V),Av Z FV (Ej F_w0 caps_w0 a0 x8 v9 v10 v11 v12 v13 v14 v15 v16 v17 x19) f [b0,b1,b2,b3,b4,T,T,T,T,b9,b10,b11,b12,b13,L,L,L,L,L,L,L,L] (Bc a0 x8 v9 x19 (vc (.undef)) (vc (.own 90001)) b0 b1 b2 b3 b4 T T T T b9 b10 b11 b12 b13 L L L L L L [(99999999999,(dm v10.row++ [aL (Y (rL X0.row) v11),.dat (.clo F_w0 caps_w0),.undef,.own 90001,.own 90002,aI v12,aI v13,aB v14])),(5,(dm x19.row))] [(90000,4,Y X0.row (v15++([x19]:P X0))),(90001,1,Y rI v16),(90002,1,Y rI v17),(5504,4,Y X0.row ([x19]:P X0))]):=by
 intro f
 induction f with
 | zero=>intro b0 b1 b2 b3 b4 b9 b10 b11 b12 b13 h; simp at h
 | succ f ih=>
  intro b0 b1 b2 b3 b4 b9 b10 b11 b12 b13;refine AF ⟨?_,?_,?_,?_,?_,?_,?_,?_,?_,?_,?_,?_,?_,?_,?_,?_,?_,?_,?_,?_,?_,?_,⟨⟩⟩<;>try first | (intro h; cases h; done) | (intro _ hw; simp at hw; done) | (intro h0 hw; obtain rfl:=hz h0 rfl; (try obtain rfl:=hq hw 2 rfl rfl); (try obtain rfl:=hq hw 3 rfl rfl); (try obtain rfl:=hq hw 9 rfl rfl); (try obtain rfl:=hq hw 10 rfl rfl); (try obtain rfl:=hq hw 11 rfl rfl); refine np ?_; simp only[Bc,Ac,Af,A7,C,E,F,G,H,J]; exact ih _ _ _ _ _ _ _ _ _ _)
  ·intro h0 hw;obtain rfl:=hq hw 13 rfl rfl;refine np ?_;try simp only[Bc,Ac,Af,A7,C,E,F,G,H,J]
   refine DL (es:=Y rI ([v9]:P U)) X (by simp only[St.fresh,zC,zD,BL]; simp[AV.cells,V1.cells,AC.uses]) ?_;try simp only[A7,C,E,F,G,H,J]
   exact Zv F_w0 caps_w0 a0 x8 v9 v10 v11 v12 v13 v14 v15 v16 v17 x19 h22 h23 _ b0 b1 b2 b3 b4 b9 b10 b11 b12
theorem Zw(F_w0:FuncId)(caps_w0:P D)(a0:Xe)(x8:P X0)(v9)(v10:X1)(v11)(v12)(v13)(v14)(v15:P X0)(v16:P U)(v17)(x19)(h22:(A4 v15.length ([x19]:P X0).length 48)=T)(h23:(A4 v16.length ([v9]:P U).length 8)=T):∀(f:W) (b0 b1:V) (b2 b3:V) (b4 b5:V) (b9 b10:V) (b11 b12:V),Av Z FV (Ej F_w0 caps_w0 a0 x8 v9 v10 v11 v12 v13 v14 v15 v16 v17 x19) f [b0,b1,b2,b3,b4,b5,T,T,L,b9,b10,b11,b12,T,T,L,L,L,L,L,L,L] (Bc a0 x8 v9 x19 (vc (.own 90000)) (vc (.own 90001)) b0 b1 b2 b3 b4 b5 T T L b9 b10 b11 b12 T T L L L L L [(99999999999,(dm v10.row++ [aL (Y (rL X0.row) v11),.dat (.clo F_w0 caps_w0),.own 90000,.own 90001,.own 90002,aI v12,aI v13,aB v14])),(5,(dm x19.row))] [(90000,4,Y X0.row v15),(90001,1,Y rI v16),(90002,1,Y rI v17),(5504,4,Y X0.row ([x19]:P X0)),(5952,1,Y rI ([v9]:P U))]):=by
 intro f
 induction f with
 | zero=>intro b0 b1 b2 b3 b4 b5 b9 b10 b11 b12 h; simp at h
 | succ f ih=>
  intro b0 b1 b2 b3 b4 b5 b9 b10 b11 b12;refine AF ⟨?_,?_,?_,?_,?_,?_,?_,?_,?_,?_,?_,?_,?_,?_,?_,?_,?_,?_,?_,?_,?_,?_,⟨⟩⟩<;>try first | (intro h; cases h; done) | (intro _ hw; simp at hw; done) | (intro h0 hw; obtain rfl:=hz h0 rfl; (try obtain rfl:=hq hw 2 rfl rfl); (try obtain rfl:=hq hw 3 rfl rfl); (try obtain rfl:=hq hw 4 rfl rfl); (try obtain rfl:=hq hw 9 rfl rfl); (try obtain rfl:=hq hw 10 rfl rfl); (try obtain rfl:=hq hw 11 rfl rfl); refine np ?_; simp only[Bc,Ac,Af,A7,C,E,F,G,H,J]; exact ih _ _ _ _ _ _ _ _ _ _)
  ·intro h0 hw;obtain rfl:=hq hw 5 rfl rfl;refine np ?_;try simp only[h22,Bc,Ac,Af,A7,C,E,F,G,H,J]
   exact Zv F_w0 caps_w0 a0 x8 v9 v10 v11 v12 v13 v14 v15 v16 v17 x19 h22 h23 _ b0 b1 b2 b3 b4 b9 b10 b11 b12
theorem A2u(F_w0:FuncId)(caps_w0:P D)(a0:Xe)(x8:P X0)(v9)(v10:X1)(v11)(v12)(v13)(v14)(v15:P X0)(v16:P U)(v17)(x19)(h22:(A4 v15.length ([x19]:P X0).length 48)=T)(h23:(A4 v16.length ([v9]:P U).length 8)=T):∀(f:W) (b0 b1:V) (b2 b3:V) (b4 b5:V) (b9 b10:V) (b11 b12 b13:V),Av Z FV (Ej F_w0 caps_w0 a0 x8 v9 v10 v11 v12 v13 v14 v15 v16 v17 x19) f [b0,b1,b2,b3,b4,b5,T,T,L,b9,b10,b11,b12,b13,L,L,L,L,L,L,L,L] (Bc a0 x8 v9 x19 (vc (.own 90000)) (vc (.own 90001)) b0 b1 b2 b3 b4 b5 T T L b9 b10 b11 b12 b13 L L L L L L [(99999999999,(dm v10.row++ [aL (Y (rL X0.row) v11),.dat (.clo F_w0 caps_w0),.own 90000,.own 90001,.own 90002,aI v12,aI v13,aB v14])),(5,(dm x19.row))] [(90000,4,Y X0.row v15),(90001,1,Y rI v16),(90002,1,Y rI v17),(5504,4,Y X0.row ([x19]:P X0))]):=by
 intro f
 induction f with
 | zero=>intro b0 b1 b2 b3 b4 b5 b9 b10 b11 b12 b13 h; simp at h
 | succ f ih=>
  intro b0 b1 b2 b3 b4 b5 b9 b10 b11 b12 b13;refine AF ⟨?_,?_,?_,?_,?_,?_,?_,?_,?_,?_,?_,?_,?_,?_,?_,?_,?_,?_,?_,?_,?_,?_,⟨⟩⟩<;>try first | (intro h; cases h; done) | (intro _ hw; simp at hw; done) | (intro h0 hw; obtain rfl:=hz h0 rfl; (try obtain rfl:=hq hw 2 rfl rfl); (try obtain rfl:=hq hw 3 rfl rfl); (try obtain rfl:=hq hw 4 rfl rfl); (try obtain rfl:=hq hw 9 rfl rfl); (try obtain rfl:=hq hw 10 rfl rfl); (try obtain rfl:=hq hw 11 rfl rfl); refine np ?_; simp only[Bc,Ac,Af,A7,C,E,F,G,H,J]; exact ih _ _ _ _ _ _ _ _ _ _ _)
  ·intro h0 hw;obtain rfl:=hq hw 5 rfl rfl;refine np ?_;try simp only[h22,Bc,Ac,Af,A7,C,E,F,G,H,J]
   exact A2t F_w0 caps_w0 a0 x8 v9 v10 v11 v12 v13 v14 v15 v16 v17 x19 h22 h23 _ b0 b1 b2 b3 b4 b9 b10 b11 b12 b13
  ·intro h0 hw;obtain rfl:=hq hw 13 rfl rfl;refine np ?_;try simp only[Bc,Ac,Af,A7,C,E,F,G,H,J]
   refine DL (es:=Y rI ([v9]:P U)) X (by simp only[St.fresh,zC,zD,BL]; simp[AV.cells,V1.cells,AC.uses]) ?_;try simp only[A7,C,E,F,G,H,J]
   exact Zw F_w0 caps_w0 a0 x8 v9 v10 v11 v12 v13 v14 v15 v16 v17 x19 h22 h23 _ b0 b1 b2 b3 b4 b5 b9 b10 b11 b12
theorem A2v(F_w0:FuncId)(caps_w0:P D)(a0:Xe)(x8:P X0)(v9)(v10:X1)(v11)(v12)(v13)(v14)(v15:P X0)(v16:P U)(v17)(x19)(h22:(A4 v15.length ([x19]:P X0).length 48)=T)(h23:(A4 v16.length ([v9]:P U).length 8)=T):∀(f:W) (b0 b1:V) (b2 b3:V) (b4 b5:V) (b6 b9:V) (b10 b11 b12:V),Av Z FV (Ej F_w0 caps_w0 a0 x8 v9 v10 v11 v12 v13 v14 v15 v16 v17 x19) f [b0,b1,b2,b3,b4,b5,b6,L,L,b9,b10,b11,b12,T,T,L,L,L,L,L,L,L] (Bc a0 x8 v9 x19 (vc (.own 90000)) (vc (.own 90001)) b0 b1 b2 b3 b4 b5 b6 L L b9 b10 b11 b12 T T L L L L L [(99999999999,(dm v10.row++ [aL (Y (rL X0.row) v11),.dat (.clo F_w0 caps_w0),.own 90000,.own 90001,.own 90002,aI v12,aI v13,aB v14])),(5,(dm x19.row))] [(90000,4,Y X0.row v15),(90001,1,Y rI v16),(90002,1,Y rI v17),(5952,1,Y rI ([v9]:P U))]):=by
 intro f
 induction f with
 | zero=>intro b0 b1 b2 b3 b4 b5 b6 b9 b10 b11 b12 h; simp at h
 | succ f ih=>
  intro b0 b1 b2 b3 b4 b5 b6 b9 b10 b11 b12;refine AF ⟨?_,?_,?_,?_,?_,?_,?_,?_,?_,?_,?_,?_,?_,?_,?_,?_,?_,?_,?_,?_,?_,?_,⟨⟩⟩<;>try first | (intro h; cases h; done) | (intro _ hw; simp at hw; done) | (intro h0 hw; obtain rfl:=hz h0 rfl; (try obtain rfl:=hq hw 2 rfl rfl); (try obtain rfl:=hq hw 3 rfl rfl); (try obtain rfl:=hq hw 4 rfl rfl); (try obtain rfl:=hq hw 9 rfl rfl); (try obtain rfl:=hq hw 10 rfl rfl); (try obtain rfl:=hq hw 11 rfl rfl); refine np ?_; simp only[Bc,Ac,Af,A7,C,E,F,G,H,J]; exact ih _ _ _ _ _ _ _ _ _ _ _)
  ·intro h0 hw;obtain rfl:=hq hw 6 rfl rfl;refine⟨[],[(O,.keep [0,3,4,5,61,62,63,79,80,81,82,83,84,85,86,87,88,89,90,91,92,93,94,95,96,97,98] [99999999999,5] [90000,90001,90002,5504,5952])],X,X,?_⟩;try simp only[Bc,Ac,Af,zF,zE,A7,C,E,F,G,H,J]
   refine DL (es:=Y X0.row ([x19]:P X0)) X (by simp only[St.fresh,zC,zD,BL]; simp[AV.cells,V1.cells,AC.uses]) ?_;try simp only[A7,C,E,F,G,H,J]
   exact Zw F_w0 caps_w0 a0 x8 v9 v10 v11 v12 v13 v14 v15 v16 v17 x19 h22 h23 _ b0 b1 b2 b3 b4 b5 b9 b10 b11 b12
theorem A2w(F_w0:FuncId)(caps_w0:P D)(a0:Xe)(x8:P X0)(v9)(v10:X1)(v11)(v12)(v13)(v14)(v15:P X0)(v16:P U)(v17)(x19)(h22:(A4 v15.length ([x19]:P X0).length 48)=T)(h23:(A4 v16.length ([v9]:P U).length 8)=T):∀(f:W) (b0 b1:V) (b2 b3:V) (b4 b5:V) (b6 b9:V) (b10 b11:V) (b12 b13:V),Av Z FV (Ej F_w0 caps_w0 a0 x8 v9 v10 v11 v12 v13 v14 v15 v16 v17 x19) f [b0,b1,b2,b3,b4,b5,b6,L,L,b9,b10,b11,b12,b13,L,L,L,L,L,L,L,L] (Bc a0 x8 v9 x19 (vc (.own 90000)) (vc (.own 90001)) b0 b1 b2 b3 b4 b5 b6 L L b9 b10 b11 b12 b13 L L L L L L [(99999999999,(dm v10.row++ [aL (Y (rL X0.row) v11),.dat (.clo F_w0 caps_w0),.own 90000,.own 90001,.own 90002,aI v12,aI v13,aB v14])),(5,(dm x19.row))] [(90000,4,Y X0.row v15),(90001,1,Y rI v16),(90002,1,Y rI v17)]):=by
 intro f
 induction f with
 | zero=>intro b0 b1 b2 b3 b4 b5 b6 b9 b10 b11 b12 b13 h; simp at h
 | succ f ih=>
  intro b0 b1 b2 b3 b4 b5 b6 b9 b10 b11 b12 b13;refine AF ⟨?_,?_,?_,?_,?_,?_,?_,?_,?_,?_,?_,?_,?_,?_,?_,?_,?_,?_,?_,?_,?_,?_,⟨⟩⟩<;>try first | (intro _ hw; simp at hw; done) | (intro h0 hw; obtain rfl:=hz h0 rfl; (try obtain rfl:=hq hw 2 rfl rfl); (try obtain rfl:=hq hw 3 rfl rfl); (try obtain rfl:=hq hw 4 rfl rfl); (try obtain rfl:=hq hw 9 rfl rfl); (try obtain rfl:=hq hw 10 rfl rfl); (try obtain rfl:=hq hw 11 rfl rfl); refine np ?_; simp only[Bc,Ac,Af,A7,C,E,F,G,H,J]; exact ih _ _ _ _ _ _ _ _ _ _ _ _)
  ·intro h0 hw;obtain rfl:=hq hw 6 rfl rfl;refine np ?_;try simp only[Bc,Ac,Af,A7,C,E,F,G,H,J]
   refine DL (es:=Y X0.row ([x19]:P X0)) X (by simp only[St.fresh,zC,zD,BL]; simp[AV.cells,V1.cells,AC.uses]) ?_;try simp only[A7,C,E,F,G,H,J]
   exact A2u F_w0 caps_w0 a0 x8 v9 v10 v11 v12 v13 v14 v15 v16 v17 x19 h22 h23 _ b0 b1 b2 b3 b4 b5 b9 b10 b11 b12 b13
  ·intro h0 hw;obtain rfl:=hq hw 13 rfl rfl;refine np ?_;try simp only[Bc,Ac,Af,A7,C,E,F,G,H,J]
   refine DL (es:=Y rI ([v9]:P U)) X (by simp only[St.fresh,zC,zD,BL]; simp[AV.cells,V1.cells,AC.uses]) ?_;try simp only[A7,C,E,F,G,H,J]
   exact A2v F_w0 caps_w0 a0 x8 v9 v10 v11 v12 v13 v14 v15 v16 v17 x19 h22 h23 _ b0 b1 b2 b3 b4 b5 b6 b9 b10 b11 b12
abbrev BC(a0:Xe)(x8:P X0)(v9:U)(wo5_ wo11_:AV)(c0_ c1_:V)(c2_ c3_:V)(c4_ c5_:V)(c6_ c7_:V)(c8_ c9_:V)(c10_ c11_:V)(c12_ c13_:V)(c14_ c15_:V)(c17_ c18_:V)(bx_:P (W × P AC))(rs_:Rows):St:=⟨[(0,vc (.pb 99999999999 0)),(3,vc (aI (a0.plan.length:U))),(61,vc (aL (Y X0.row x8))),(62,vc (aI (x8.length:U))),(63,vc (aI v9)),(101,bif c0_ then vc (.pb 99999999999 0) else .undef),(102,bif c1_ then vc (.pb 99999999999 0) else .undef),(103,bif c2_ then vc (.pb 99999999999 0) else .undef),(104,bif c3_ then vc (.pb 99999999999 0) else .undef),(105,bif c4_ then vc (.pb 99999999999 14) else .undef),(106,bif c5_ then wo5_ else .undef),(107,bif c6_ then vc (aI (a0.plan.length:U)) else .undef),(108,bif c7_ then vc (.own 90000) else .undef),(109,bif c8_ then vc (.pb 99999999999 0) else .undef),(110,bif c9_ then vc (.pb 99999999999 0) else .undef),(111,bif c10_ then vc (.pb 99999999999 15) else .undef),(112,bif c11_ then wo11_ else .undef),(113,bif c12_ then vc (aI (a0.plan.length:U)) else .undef),(114,bif c13_ then vc (.own 90001) else .undef),(115,bif c14_ then vc (.pb 99999999999 0) else .undef),(116,bif c15_ then vc (.pb 99999999999 14) else .undef),(117,bif c17_ then vc (.pb 99999999999 0) else .undef),(118,bif c18_ then vc (.pb 99999999999 15) else .undef)],bx_,rs_⟩
abbrev FT(F_w0:FuncId)(caps_w0:P D)(a0:Xe)(x8:P X0)(v9:U)(r24:Xe)(p25 p26:W × W):St:=(BC a0 x8 v9 (vc (.undef)) (vc (.undef)) T T T T T T T T T T T T T T T T T T [(99999999999,(dm r24.h.row++ [aL (Y (rL X0.row) r24.choices),.dat (.clo F_w0 caps_w0),.own 90000,.own 90001,.own 90002,aI r24.least.i0,aI r24.least.i1,aB r24.found]))] [(90000,4,Y X0.row (r24.plan.take p25.2)),(90001,1,Y rI (r24.choice.take p26.2)),(90002,1,Y rI r24.best)])
theorem A2x(F_w0:FuncId)(caps_w0:P D)(a0:Xe)(x8:P X0)(v9:U)(r24:Xe)(p25)(p26)(h25:bnd (r24.plan.length:U) (a0.plan.length:U) 0 r24.plan.length=N p25)(h26:bnd (r24.choice.length:U) (a0.plan.length:U) 0 r24.choice.length=N p26):∀(f:W) (b17:V),Av Z IK (FT F_w0 caps_w0 a0 x8 v9 r24 p25 p26) f [T,T,T,T,T,T,T,T,T,T,T,T,T,T,T,T,T,b17,T,T] (BC a0 x8 v9 (vc (.undef)) (vc (.undef)) T T T T T T T T T T T T T T T T b17 T [(99999999999,(dm r24.h.row++ [aL (Y (rL X0.row) r24.choices),.dat (.clo F_w0 caps_w0),.own 90000,.own 90001,.own 90002,aI r24.least.i0,aI r24.least.i1,aB r24.found]))] [(90000,4,Y X0.row (r24.plan.take p25.2)),(90001,1,Y rI (r24.choice.take p26.2)),(90002,1,Y rI r24.best)]):=by
 intro f
 induction f with
 | zero=>
  intro b17 h;obtain rfl:b17=T:=zA.1 h b17 (by simp);rfl
 | succ f ih=>
  intro b17;refine AF ⟨?_,?_,?_,?_,?_,?_,?_,?_,?_,?_,?_,?_,?_,?_,?_,?_,?_,?_,?_,?_,⟨⟩⟩<;>try first | (intro h; cases h; done) | (intro h0 hw; obtain rfl:=hz h0 rfl; refine np ?_; simp only[BC,Ac,Af,A7,C,E,F,G,H,J]; exact ih _)
theorem Zx(F_w0:FuncId)(caps_w0:P D)(a0:Xe)(x8:P X0)(v9:U)(r24:Xe)(p25)(p26)(h25:bnd (r24.plan.length:U) (a0.plan.length:U) 0 r24.plan.length=N p25)(h26:bnd (r24.choice.length:U) (a0.plan.length:U) 0 r24.choice.length=N p26):∀(f:W) (b1 b8:V) (b9 b10:V) (b14 b17 b18:V),Av Z IK (FT F_w0 caps_w0 a0 x8 v9 r24 p25 p26) f [T,b1,T,T,T,T,T,T,b8,b9,b10,T,T,T,b14,T,T,b17,b18,L] (BC a0 x8 v9 (vc (.undef)) (vc (.undef)) T b1 T T T T T T b8 b9 b10 T T T b14 T b17 b18 [(99999999999,(dm r24.h.row++ [aL (Y (rL X0.row) r24.choices),.dat (.clo F_w0 caps_w0),.own 90000,.undef,.own 90002,aI r24.least.i0,aI r24.least.i1,aB r24.found]))] [(90000,4,Y X0.row (r24.plan.take p25.2)),(90001,1,Y rI (r24.choice.take p26.2)),(90002,1,Y rI r24.best)]):=by
 intro f
 induction f with
 | zero=>intro b1 b8 b9 b10 b14 b17 b18 h; simp at h
 | succ f ih=>
  intro b1 b8 b9 b10 b14 b17 b18;refine AF ⟨?_,?_,?_,?_,?_,?_,?_,?_,?_,?_,?_,?_,?_,?_,?_,?_,?_,?_,?_,?_,⟨⟩⟩<;>try first | (intro h; cases h; done) | (intro h0 hw; obtain rfl:=hz h0 rfl; (try obtain rfl:=hq hw 1 rfl rfl); (try obtain rfl:=hq hw 8 rfl rfl); (try obtain rfl:=hq hw 9 rfl rfl); (try obtain rfl:=hq hw 10 rfl rfl); (try obtain rfl:=hq hw 14 rfl rfl); (try obtain rfl:=hq hw 17 rfl rfl); refine np ?_; simp only[BC,Ac,Af,A7,C,E,F,G,H,J]; exact ih _ _ _ _ _ _ _)
  ·intro h0 hw;obtain rfl:=hq hw 1 rfl rfl;obtain rfl:=hq hw 8 rfl rfl;obtain rfl:=hq hw 9 rfl rfl;obtain rfl:=hq hw 10 rfl rfl;obtain rfl:=hq hw 14 rfl rfl;obtain rfl:=hq hw 18 rfl rfl;refine np ?_;try simp only[BC,Ac,Af,A7,C,E,F,G,H,J]
   exact A2x F_w0 caps_w0 a0 x8 v9 r24 p25 p26 h25 h26 _ b17
theorem Zy(F_w0:FuncId)(caps_w0:P D)(a0:Xe)(x8:P X0)(v9:U)(r24:Xe)(p25)(p26)(h25:bnd (r24.plan.length:U) (a0.plan.length:U) 0 r24.plan.length=N p25)(h26:bnd (r24.choice.length:U) (a0.plan.length:U) 0 r24.choice.length=N p26):∀(f:W) (b0 b1:V) (b2 b3:V) (b4 b8:V) (b9 b10:V) (b14 b15:V),Av Z IK (FT F_w0 caps_w0 a0 x8 v9 r24 p25 p26) f [b0,b1,b2,b3,b4,T,T,T,b8,b9,b10,T,T,T,b14,b15,L,L,L,L] (BC a0 x8 v9 (vc (.undef)) (vc (.undef)) b0 b1 b2 b3 b4 T T T b8 b9 b10 T T T b14 b15 L L [(99999999999,(dm r24.h.row++ [aL (Y (rL X0.row) r24.choices),.dat (.clo F_w0 caps_w0),.undef,.undef,.own 90002,aI r24.least.i0,aI r24.least.i1,aB r24.found]))] [(90000,4,Y X0.row (r24.plan.take p25.2)),(90001,1,Y rI (r24.choice.take p26.2)),(90002,1,Y rI r24.best)]):=by
 intro f
 induction f with
 | zero=>intro b0 b1 b2 b3 b4 b8 b9 b10 b14 b15 h; simp at h
 | succ f ih=>
  intro b0 b1 b2 b3 b4 b8 b9 b10 b14 b15;refine AF ⟨?_,?_,?_,?_,?_,?_,?_,?_,?_,?_,?_,?_,?_,?_,?_,?_,?_,?_,?_,?_,⟨⟩⟩<;>try first | (intro h; cases h; done) | (intro _ hw; simp at hw; done) | (intro h0 hw; obtain rfl:=hz h0 rfl; (try obtain rfl:=hq hw 0 rfl rfl); (try obtain rfl:=hq hw 2 rfl rfl); (try obtain rfl:=hq hw 3 rfl rfl); (try obtain rfl:=hq hw 4 rfl rfl); (try obtain rfl:=hq hw 8 rfl rfl); (try obtain rfl:=hq hw 9 rfl rfl); (try obtain rfl:=hq hw 14 rfl rfl); refine np ?_; simp only[BC,Ac,Af,A7,C,E,F,G,H,J]; exact ih _ _ _ _ _ _ _ _ _ _)
  ·intro h0 hw;obtain rfl:=hq hw 0 rfl rfl;obtain rfl:=hq hw 2 rfl rfl;obtain rfl:=hq hw 3 rfl rfl;obtain rfl:=hq hw 4 rfl rfl;obtain rfl:=hq hw 15 rfl rfl;refine np ?_;try simp only[BC,Ac,Af,A7,C,E,F,G,H,J]
   exact Zx F_w0 caps_w0 a0 x8 v9 r24 p25 p26 h25 h26 _ b1 b8 b9 b10 b14 L L
theorem A2y(F_w0:FuncId)(caps_w0:P D)(a0:Xe)(x8:P X0)(v9:U)(r24:Xe)(p25)(p26)(h25:bnd (r24.plan.length:U) (a0.plan.length:U) 0 r24.plan.length=N p25)(h26:bnd (r24.choice.length:U) (a0.plan.length:U) 0 r24.choice.length=N p26):∀(f:W) (b1 b8:V) (b9 b10:V) (b12 b14:V),Av Z IK (FT F_w0 caps_w0 a0 x8 v9 r24 p25 p26) f [T,b1,T,T,T,T,T,T,b8,b9,b10,T,b12,L,b14,T,T,L,L,L] (BC a0 x8 v9 (vc (.undef)) (vc (.own 90001)) T b1 T T T T T T b8 b9 b10 T b12 L b14 T L L [(99999999999,(dm r24.h.row++ [aL (Y (rL X0.row) r24.choices),.dat (.clo F_w0 caps_w0),.own 90000,.own 90001,.own 90002,aI r24.least.i0,aI r24.least.i1,aB r24.found]))] [(90000,4,Y X0.row (r24.plan.take p25.2)),(90001,1,Y rI r24.choice),(90002,1,Y rI r24.best)]):=by
 intro f
 induction f with
 | zero=>intro b1 b8 b9 b10 b12 b14 h; simp at h
 | succ f ih=>
  intro b1 b8 b9 b10 b12 b14;refine AF ⟨?_,?_,?_,?_,?_,?_,?_,?_,?_,?_,?_,?_,?_,?_,?_,?_,?_,?_,?_,?_,⟨⟩⟩<;>try first | (intro h; cases h; done) | (intro _ hw; simp at hw; done) | (intro h0 hw; obtain rfl:=hz h0 rfl; (try obtain rfl:=hq hw 8 rfl rfl); (try obtain rfl:=hq hw 9 rfl rfl); refine np ?_; simp only[BC,Ac,Af,A7,C,E,F,G,H,J]; exact ih _ _ _ _ _ _)
  ·intro h0 hw;obtain rfl:=hq hw 12 rfl rfl;refine⟨[],[(O,.cut 114)],X,X,?_⟩;try simp only[BC,Ac,Af,zF,zE,A7,C,E,F,G,H,J]
   refine I9 X X h26 (by rfl) ?_;try simp only[A7,C,E,F,G,H,J]
   exact Zx F_w0 caps_w0 a0 x8 v9 r24 p25 p26 h25 h26 _ b1 b8 b9 b10 b14 L L
theorem A2z(F_w0:FuncId)(caps_w0:P D)(a0:Xe)(x8:P X0)(v9:U)(r24:Xe)(p25)(p26)(h25:bnd (r24.plan.length:U) (a0.plan.length:U) 0 r24.plan.length=N p25)(h26:bnd (r24.choice.length:U) (a0.plan.length:U) 0 r24.choice.length=N p26):∀(f:W) (b0 b1:V) (b2 b3:V) (b4 b8:V) (b9 b10:V) (b11 b12:V) (b14 b15:V),Av Z IK (FT F_w0 caps_w0 a0 x8 v9 r24 p25 p26) f [b0,b1,b2,b3,b4,T,T,T,b8,b9,b10,b11,b12,L,b14,b15,L,L,L,L] (BC a0 x8 v9 (vc (.undef)) (vc (.own 90001)) b0 b1 b2 b3 b4 T T T b8 b9 b10 b11 b12 L b14 b15 L L [(99999999999,(dm r24.h.row++ [aL (Y (rL X0.row) r24.choices),.dat (.clo F_w0 caps_w0),.undef,.own 90001,.own 90002,aI r24.least.i0,aI r24.least.i1,aB r24.found]))] [(90000,4,Y X0.row (r24.plan.take p25.2)),(90001,1,Y rI r24.choice),(90002,1,Y rI r24.best)]):=by
 intro f
 induction f with
 | zero=>intro b0 b1 b2 b3 b4 b8 b9 b10 b11 b12 b14 b15 h; simp at h
 | succ f ih=>
  intro b0 b1 b2 b3 b4 b8 b9 b10 b11 b12 b14 b15;refine AF ⟨?_,?_,?_,?_,?_,?_,?_,?_,?_,?_,?_,?_,?_,?_,?_,?_,?_,?_,?_,?_,⟨⟩⟩<;>try first | (intro h; cases h; done) | (intro _ hw; simp at hw; done) | (intro h0 hw; obtain rfl:=hz h0 rfl; (try obtain rfl:=hq hw 0 rfl rfl); (try obtain rfl:=hq hw 2 rfl rfl); (try obtain rfl:=hq hw 3 rfl rfl); (try obtain rfl:=hq hw 4 rfl rfl); (try obtain rfl:=hq hw 8 rfl rfl); (try obtain rfl:=hq hw 9 rfl rfl); (try obtain rfl:=hq hw 10 rfl rfl); (try obtain rfl:=hq hw 11 rfl rfl); (try obtain rfl:=hq hw 14 rfl rfl); refine np ?_; simp only[BC,Ac,Af,A7,C,E,F,G,H,J]; exact ih _ _ _ _ _ _ _ _ _ _ _ _)
  ·intro h0 hw;obtain rfl:=hq hw 11 rfl rfl;obtain rfl:=hq hw 12 rfl rfl;refine⟨[],[(O,.cut 114)],X,X,?_⟩;try simp only[BC,Ac,Af,zF,zE,A7,C,E,F,G,H,J]
   refine I9 X X h26 (by rfl) ?_;try simp only[A7,C,E,F,G,H,J]
   exact Zy F_w0 caps_w0 a0 x8 v9 r24 p25 p26 h25 h26 _ b0 b1 b2 b3 b4 b8 b9 b10 b14 b15
  ·intro h0 hw;obtain rfl:=hq hw 0 rfl rfl;obtain rfl:=hq hw 2 rfl rfl;obtain rfl:=hq hw 3 rfl rfl;obtain rfl:=hq hw 4 rfl rfl;obtain rfl:=hq hw 11 rfl rfl;obtain rfl:=hq hw 15 rfl rfl;refine np ?_;try simp only[BC,Ac,Af,A7,C,E,F,G,H,J]
   exact A2y F_w0 caps_w0 a0 x8 v9 r24 p25 p26 h25 h26 _ b1 b8 b9 b10 b12 b14
theorem A20(F_w0:FuncId)(caps_w0:P D)(a0:Xe)(x8:P X0)(v9:U)(r24:Xe)(p25)(p26)(h25:bnd (r24.plan.length:U) (a0.plan.length:U) 0 r24.plan.length=N p25)(h26:bnd (r24.choice.length:U) (a0.plan.length:U) 0 r24.choice.length=N p26):∀(f:W) (b0 b1:V) (b2 b3:V) (b4 b5:V) (b6 b8:V) (b9 b10:V),Av Z IK (FT F_w0 caps_w0 a0 x8 v9 r24 p25 p26) f [b0,b1,b2,b3,b4,b5,b6,L,b8,b9,b10,T,T,T,L,L,L,L,L,L] (BC a0 x8 v9 (vc (.own 90000)) (vc (.undef)) b0 b1 b2 b3 b4 b5 b6 L b8 b9 b10 T T T L L L L [(99999999999,(dm r24.h.row++ [aL (Y (rL X0.row) r24.choices),.dat (.clo F_w0 caps_w0),.own 90000,.undef,.own 90002,aI r24.least.i0,aI r24.least.i1,aB r24.found]))] [(90000,4,Y X0.row r24.plan),(90001,1,Y rI (r24.choice.take p26.2)),(90002,1,Y rI r24.best)]):=by
 intro f
 induction f with
 | zero=>intro b0 b1 b2 b3 b4 b5 b6 b8 b9 b10 h; simp at h
 | succ f ih=>
  intro b0 b1 b2 b3 b4 b5 b6 b8 b9 b10;refine AF ⟨?_,?_,?_,?_,?_,?_,?_,?_,?_,?_,?_,?_,?_,?_,?_,?_,?_,?_,?_,?_,⟨⟩⟩<;>try first | (intro h; cases h; done) | (intro _ hw; simp at hw; done) | (intro h0 hw; obtain rfl:=hz h0 rfl; (try obtain rfl:=hq hw 2 rfl rfl); (try obtain rfl:=hq hw 3 rfl rfl); (try obtain rfl:=hq hw 4 rfl rfl); (try obtain rfl:=hq hw 8 rfl rfl); (try obtain rfl:=hq hw 9 rfl rfl); refine np ?_; simp only[BC,Ac,Af,A7,C,E,F,G,H,J]; exact ih _ _ _ _ _ _ _ _ _ _)
  ·intro h0 hw;obtain rfl:=hq hw 5 rfl rfl;obtain rfl:=hq hw 6 rfl rfl;refine⟨[],[(O,.cut 108)],X,X,?_⟩;try simp only[BC,Ac,Af,zF,zE,A7,C,E,F,G,H,J]
   refine I9 X X h25 (by rfl) ?_;try simp only[A7,C,E,F,G,H,J]
   exact Zy F_w0 caps_w0 a0 x8 v9 r24 p25 p26 h25 h26 _ b0 b1 b2 b3 b4 b8 b9 b10 L L
theorem A21(F_w0:FuncId)(caps_w0:P D)(a0:Xe)(x8:P X0)(v9:U)(r24:Xe)(p25)(p26)(h25:bnd (r24.plan.length:U) (a0.plan.length:U) 0 r24.plan.length=N p25)(h26:bnd (r24.choice.length:U) (a0.plan.length:U) 0 r24.choice.length=N p26):∀(f:W) (b0 b1:V) (b2 b3:V) (b4 b5:V) (b6 b8:V) (b9 b10:V) (b11 b12:V),Av Z IK (FT F_w0 caps_w0 a0 x8 v9 r24 p25 p26) f [b0,b1,b2,b3,b4,b5,b6,L,b8,b9,b10,b11,b12,L,L,L,L,L,L,L] (BC a0 x8 v9 (vc (.own 90000)) (vc (.own 90001)) b0 b1 b2 b3 b4 b5 b6 L b8 b9 b10 b11 b12 L L L L L [(99999999999,(dm r24.h.row++ [aL (Y (rL X0.row) r24.choices),.dat (.clo F_w0 caps_w0),.own 90000,.own 90001,.own 90002,aI r24.least.i0,aI r24.least.i1,aB r24.found]))] [(90000,4,Y X0.row r24.plan),(90001,1,Y rI r24.choice),(90002,1,Y rI r24.best)]):=by
 intro f
 induction f with
 | zero=>intro b0 b1 b2 b3 b4 b5 b6 b8 b9 b10 b11 b12 h; simp at h
 | succ f ih=>
  intro b0 b1 b2 b3 b4 b5 b6 b8 b9 b10 b11 b12;refine AF ⟨?_,?_,?_,?_,?_,?_,?_,?_,?_,?_,?_,?_,?_,?_,?_,?_,?_,?_,?_,?_,⟨⟩⟩<;>try first | (intro _ hw; simp at hw; done) | (intro h0 hw; obtain rfl:=hz h0 rfl; (try obtain rfl:=hq hw 2 rfl rfl); (try obtain rfl:=hq hw 3 rfl rfl); (try obtain rfl:=hq hw 4 rfl rfl); (try obtain rfl:=hq hw 8 rfl rfl); (try obtain rfl:=hq hw 9 rfl rfl); (try obtain rfl:=hq hw 10 rfl rfl); refine np ?_; simp only[BC,Ac,Af,A7,C,E,F,G,H,J]; exact ih _ _ _ _ _ _ _ _ _ _ _ _)
  ·intro h0 hw;obtain rfl:=hq hw 5 rfl rfl;obtain rfl:=hq hw 6 rfl rfl;refine⟨[],[(O,.cut 108)],X,X,?_⟩;try simp only[BC,Ac,Af,zF,zE,A7,C,E,F,G,H,J]
   refine I9 X X h25 (by rfl) ?_;try simp only[A7,C,E,F,G,H,J]
   exact A2z F_w0 caps_w0 a0 x8 v9 r24 p25 p26 h25 h26 _ b0 b1 b2 b3 b4 b8 b9 b10 b11 b12 L L
  ·intro h0 hw;obtain rfl:=hq hw 11 rfl rfl;obtain rfl:=hq hw 12 rfl rfl;refine⟨[],[(O,.cut 114)],X,X,?_⟩;try simp only[BC,Ac,Af,zF,zE,A7,C,E,F,G,H,J]
   refine I9 X X h26 (by rfl) ?_;try simp only[A7,C,E,F,G,H,J]
   exact A20 F_w0 caps_w0 a0 x8 v9 r24 p25 p26 h25 h26 _ b0 b1 b2 b3 b4 b5 b6 b8 b9 b10
def cX:=fun F_w0 caps_w0 (a0:Xe) x8 (k_:U→X1→(P (P X0))→U→U→V→(P X0)→(P U)→(P U)→Q Xe)=>∀{v9 v10 v11 v12 v13 v14 v15 v16 v17} {zr},k_ v9 v10 v11 v12 v13 v14 v15 v16 v17=N zr→Kh Z 152 OO 21 [0,3,61,62,63] [99999999999] [90000,90001,90002] ⟨[(0,vc (.pb 99999999999 0)),pI 3 (a0.plan.length:U),pL 61 X0.row x8,pI 62 (x8.length:U),pI 63 v9],[(99999999999,(dm v10.row++ [aM (rL X0.row) v11,.dat (.clo F_w0 caps_w0),.own 90000,.own 90001,.own 90002,aI v12,aI v13,aB v14]))],[(90000,4,Y X0.row v15),(90001,1,Y rI v16),(90002,1,Y rI v17)]⟩ (F1 [] [] (Dd F_w0 caps_w0 zr) (De zr))
def cW:=fun F_w0 caps_w0 (a0:Xe) (r1:Xi) (k_:V→Q Xe)=>∀{v5} {zr},k_ v5=N zr→Kh Z 152 OO 8 [0,2] [99999999999,2] [90000,90001,90002] ⟨[(0,vc (.pb 99999999999 0)),pB 2],[(99999999999,(dm a0.h.row++ [aM (rL X0.row) a0.choices,.dat (.clo F_w0 caps_w0),.own 90000,.own 90001,.own 90002,aI a0.least.i0,aI a0.least.i1,aB v5])),(2,[aI r1.i0,aI r1.i1])],[(90000,4,Y X0.row a0.plan),(90001,1,Y rI a0.choice),(90002,1,Y rI a0.best)]⟩ (F1 [] [] (Dd F_w0 caps_w0 zr) (De zr))
theorem A22{w0:(P X0)→Q Xi}{rec_:Xe→Q Xe}{F_w0 caps_w0}(hF_w0:BA Z F_w0=T)(h_w0:∀z0 zr,w0 z0=N zr→FC Z F_w0 ([.sc (.sl (Y X0.row z0))]++caps_w0.map .sc) [.ag [.v (.int .i64 zr.i0),.v (.int .i64 zr.i1)]])(h_rec:∀(a0:Xe) zr,rec_ a0=N zr→FCz Z 152 [.p] (Dd F_w0 caps_w0 a0) (De a0) (Dd F_w0 caps_w0 zr) (De zr) []){a0 x8}{n:W}:cX F_w0 caps_w0 a0 x8 (Gt w0 rec_ a0 x8 n):=by
 induction n with
 | zero=>intro _ _ _ _ _ _ _ _ _ r h; cases h
 | succ n ih=>
  intro v9 v10 v11 v12 v13 v14 v15 v16 v17 r h σ hσ S hS;refine ev hS ?_;rw[Gt] at h;refine AY (Aw ?_);obtain⟨h18,h⟩|⟨h18,h⟩:=ic h
  ·obtain⟨x19,h19,h⟩:=ob h;try simp only[hσ,h18,h19,C,E,F,G,H,J]
   refine B0 ?_;try simp only[h18,h19,C,E,F,G,H,J]
   refine Ai ?_;obtain⟨r20,h20,h⟩:=ob h;try simp only[h18,h19,C,E,F,G,H,J]
   refine FB (A8 zq h20) (by first | rfl | kernel_rfl) (Cm X) X (uf X) ?_;obtain⟨h21,h⟩|⟨h21,h⟩:=ic h
   ·try simp only[h18,h19,h21,C,E,F,G,H,J]
    obtain⟨h22,h⟩:=AN h;obtain⟨h23,h⟩:=AN h;refine EJ (ks:= [0,3,4,5,61,62,63]) (bs:= [99999999999,5]) (rs:= [90000,90001,90002]) (τ:=(Ej F_w0 caps_w0 a0 x8 v9 v10 v11 v12 v13 v14 v15 v16 v17 x19)) X (A2w F_w0 caps_w0 a0 x8 v9 v10 v11 v12 v13 v14 v15 v16 v17 x19 h22 h23 _ L L L L L L L L L L L L) ?_;simp only[Ej,Bc,Ac];try simp only[h18,h19,h21,h22,h23,C,E,F,G,H,J]
    refine Mj ?_;obtain⟨r24,h24,h⟩:=ob h;try simp only[h18,h19,h21,h22,h23,C,E,F,G,H,J]
    refine JR (h_rec _ _ h24) 99999999999 [90000,90001,90002] rfl X X X (by decide) X X X ?_;try simp only[h18,h19,h21,h22,h23,C,E,F,G,H,J]
    obtain⟨p25,h25,h⟩:=ob h;obtain⟨p26,h26,h⟩:=ob h;refine EJ (ks:= [0,3,61,62,63]) (bs:= [99999999999]) (rs:= [90000,90001,90002]) (τ:=(FT F_w0 caps_w0 a0 x8 v9 r24 p25 p26)) X (A21 F_w0 caps_w0 a0 x8 v9 r24 p25 p26 h25 h26 _ L L L L L L L L L L L L) ?_;simp only[FT,BC,Ac];try simp only[h18,h19,h21,h22,h23,C,E,F,G,H,J]
    refine ih h ?_ (by kernel_rfl);try simp only[h18,h19,h21,h22,h23,C,E,F,G,H,J,pL,aM,I]
   ·try simp only[h18,h19,h21,C,E,F,G,H,J]
    refine ih h ?_ (by kernel_rfl);try simp only[h18,h19,h21,C,E,F,G,H,J,pL,aM,I]
  ·try simp only[hσ,h18,C,E,F,G,H,J]
   cases h;exact⟨trivial,[90000,90001,90002],by decide,by decide,X,X⟩
theorem Zz{w0:(P X0)→Q Xi}{rec_:Xe→Q Xe}{F_w0 caps_w0}(hF_w0:BA Z F_w0=T)(h_w0:∀z0 zr,w0 z0=N zr→FC Z F_w0 ([.sc (.sl (Y X0.row z0))]++caps_w0.map .sc) [.ag [.v (.int .i64 zr.i0),.v (.int .i64 zr.i1)]])(h_rec:∀(a0:Xe) zr,rec_ a0=N zr→FCz Z 152 [.p] (Dd F_w0 caps_w0 a0) (De a0) (Dd F_w0 caps_w0 zr) (De zr) []){a0 r1}:cW F_w0 caps_w0 a0 r1 (Gs w0 rec_ a0 r1):=by
 intro v5 r h σ hσ S hS;refine ev hS ?_;refine Aw ?_;unfold Gs at h;obtain⟨h6,h⟩|⟨h6,h⟩:=ic h
 ·try simp only[hσ,h6,C,E,F,G,H,J]
  obtain⟨r7,h7,h⟩:=ob h;refine EJ (ks:= [0,2]) (bs:= [99999999999,2]) (rs:= [90000,90001,90002]) (τ:=(II F_w0 caps_w0 a0 r1 r7)) X (A2p F_w0 caps_w0 a0 r1 v5 r7 h7 _ L L L L L L L L) ?_;simp only[II,CG,Ac];try simp only[h6,C,E,F,G,H,J]
  cases h;exact⟨trivial,[90000,90001,3008],by decide,by decide,X,X⟩
 ·obtain⟨x8,h8,h⟩:=ob h;try simp only[hσ,h6,h8,C,E,F,G,H,J]
  refine A22 hF_w0 h_w0 h_rec h ?_ (by kernel_rfl);try simp only[h6,h8,C,E,F,G,H,J,pL,aM,I]
theorem ji:AG Z 152=N ((Bq Z 152 OO).strip,[],120):=by kernel_rfl
theorem A0a(w0:(P X0)→Q Xi)(rec_:Xe→Q Xe)(a0 r:Xe)(F_w0:FuncId)(caps_w0:P D)(hF_w0:BA Z F_w0=T)(h_w0:∀z0 zr,w0 z0=N zr→FC Z F_w0 ([.sc (.sl (Y X0.row z0))]++caps_w0.map .sc) [.ag [.v (.int .i64 zr.i0),.v (.int .i64 zr.i1)]])(h_rec:∀(a0:Xe) zr,rec_ a0=N zr→FCz Z 152 [.p] (Dd F_w0 caps_w0 a0) (De a0) (Dd F_w0 caps_w0 zr) (De zr) [])(h:M2 w0 rec_ a0=N r):FCz Z 152 [.p] (Dd F_w0 caps_w0 a0) (De a0) (Dd F_w0 caps_w0 r) (De r) []:=by
 unfold M2 at h;refine PU (σ:=⟨[(0,vc (.pb 99999999999 0))],[(99999999999,[aI a0.h.Forecast.Tide.Mean,aL (Y Xf.row a0.h.Forecast.Tide.Parts),aL (Y Xc.row a0.h.Forecast.Surges),aL (Y Xa.row a0.h.Chart.Points),aL (Y X7.row a0.h.Chart.Segments),aL (Y X8.row a0.h.Fleet),aI a0.h.Regime.Gap,aB a0.h.Regime.NoMeet,aI a0.h.Crew.Tugs,aI a0.h.Crew.Pilots,aI a0.h.Crew.Rest,aL (Y rI a0.h.Crew.Moves),aL (Y (rL X0.row) a0.choices),.dat (.clo F_w0 caps_w0),.own 90000,.own 90001,.own 90002,aI a0.least.i0,aI a0.least.i1,aB a0.found])],[(90000,4,Y X0.row a0.plan),(90001,1,Y rI a0.choice),(90002,1,Y rI a0.best)]⟩) mixed ji X X X X ?_;refine Bx OO ?_;intro S hS;refine ev hS ?_;try simp only[C,E,F,G,H,J]
 refine Ai ?_;obtain⟨r1,h1,h⟩:=ob h;try simp only[C,E,F,G,H,J]
 refine nk (h_w0 _ _ h1) hF_w0 (by first | rfl | kernel_rfl) (by first | rfl | kernel_rfl) (Cm X) X (uf X) ?_;try simp only[C,E,F,G,H,J]
 refine OK (m:= .box 2 [aI (0:U),aI (0:U)]) X X (K4 X X) ?_;try simp only[C,E,F,G,H,J]
 refine Ai ?_;try simp only[C,E,F,G,H,J]
 refine Ai ?_;obtain⟨h2,h⟩|⟨h2,h⟩:=ic h
 ·obtain⟨r3,h3,h⟩:=ob h;try simp only[h2,C,E,F,G,H,J]
  refine AX (A8 A0h h3) ?_;obtain⟨h4,h⟩|⟨h4,h⟩:=ic h
  ·try simp only[h2,h4,C,E,F,G,H,J]
   refine Zz hF_w0 h_w0 h_rec h ?_ (by kernel_rfl);try simp only[h2,h4,C,E,F,G,H,J,pL,aM,I]
  ·try simp only[h2,h4,C,E,F,G,H,J]
   cases h;exact⟨trivial,[90000,90001,90002],by decide,by decide,X,X⟩
 ·try simp only[h2,C,E,F,G,H,J]
  refine Zz hF_w0 h_w0 h_rec h ?_ (by kernel_rfl);try simp only[h2,C,E,F,G,H,J,pL,aM,I]
theorem A0b(w0:(P X0)→Q Xi)(F_w0:FuncId)(caps_w0:P D)(hF_w0:BA Z F_w0=T)(h_w0:∀z0 zr,w0 z0=N zr→FC Z F_w0 ([.sc (.sl (Y X0.row z0))]++caps_w0.map .sc) [.ag [.v (.int .i64 zr.i0),.v (.int .i64 zr.i1)]]):∀(n:W) (a0 r:Xe),E9 w0 n a0=N r→FCz Z 152 [.p] (Dd F_w0 caps_w0 a0) (De a0) (Dd F_w0 caps_w0 r) (De r) []:=by
 intro n
 induction n with
 | zero=>intro _ r h; cases h
 | succ n ih=>intro a0 r h; rw[E9] at h; exact A0a w0 (E9 w0 n) a0 r F_w0 caps_w0 hF_w0 h_w0 ih h
theorem zz{w0}{a0}{r}(F_w0:FuncId)(caps_w0:P D)(hF_w0:BA Z F_w0=T)(h_w0:∀z0 zr,w0 z0=N zr→FC Z F_w0 ([.sc (.sl (Y X0.row z0))]++caps_w0.map .sc) [.ag [.v (.int .i64 zr.i0),.v (.int .i64 zr.i1)]])(h:QP w0 a0=N r):FCz Z 152 [.p] (Dd F_w0 caps_w0 a0) (De a0) (Dd F_w0 caps_w0 r) (De r) []:=A0b w0 F_w0 caps_w0 hF_w0 h_w0 bigN a0 r h
def ZO:P (P W × AItem):= [([],(O,.mv 17 (S 9))),([0],(O,.nilc 18 (S 17))),([1],(O,.faddr 19 (S 18) 16)),([2],(O,.load 20 (S 19) L 1)),([],(O,.mv 21 (S 9))),([4],(O,.nilc 22 (S 21))),([5],(O,.faddr 23 (S 22) 17)),([6],(O,.load 24 (S 23) T 2)),([],(O,.mv 25 (S 9))),([8],(O,.nilc 26 (S 25))),([9],(O,.faddr 27 (S 26) 19)),([10],(O,.load 28 (S 27) L 1)),([3,0,1,2,3],(O,.mv 6 (S 20))),([7,12,0,1,2,3,4,5,6,7,12],(O,.store (S 7) (S 24) 2)),([11,13,0,1,2,3,4,5,6,7,8,9,10,11,12,13],(O,.mv 8 (S 28)))]
def pE:Hw:=([],[(3,5,(O,.ownb 14 14 143232 4)),(3,6,(O,.ownb 14 15 143296 1)),(3,7,(O,.ownb 14 16 143360 1))])
abbrev IB(r1:Xe)(c0_ c1_:V)(c2_ c3_:V)(c4_ c5_:V)(c6_ c7_:V)(c8_ c9_:V)(c10_ c11_:V)(c12_ c14_:V)(bx_:P (W × P AC))(rs_:Rows):St:=⟨[(7,vc (.pb 7 0)),(9,vc (.pb 14 0)),(17,bif c0_ then vc (.pb 14 0) else .undef),(18,bif c1_ then vc (.pb 14 0) else .undef),(19,bif c2_ then vc (.pb 14 16) else .undef),(20,bif c3_ then vc (.own 143360) else .undef),(21,bif c4_ then vc (.pb 14 0) else .undef),(22,bif c5_ then vc (.pb 14 0) else .undef),(23,bif c6_ then vc (.pb 14 17) else .undef),(24,bif c7_ then va [aI r1.least.i0,aI r1.least.i1] else .undef),(25,bif c8_ then vc (.pb 14 0) else .undef),(26,bif c9_ then vc (.pb 14 0) else .undef),(27,bif c10_ then vc (.pb 14 19) else .undef),(28,bif c11_ then vc (aB r1.found) else .undef),(6,bif c12_ then vc (.own 143360) else .undef),(8,bif c14_ then vc (aB r1.found) else .undef)],bx_,rs_⟩
abbrev PI(F_a2:FuncId)(caps_a2:P D)(r1:Xe):St:=(IB r1 T T T T T T T T T T T T T T [(7,[aI r1.least.i0,aI r1.least.i1]),(14,(dm r1.h.row++ [aL (Y (rL X0.row) r1.choices),.dat (.clo F_a2 caps_a2),.own 143232,.own 143296,.own 143360,aI r1.least.i0,aI r1.least.i1,aB r1.found]))] [(143232,4,Y X0.row r1.plan),(143296,1,Y rI r1.choice),(143360,1,Y rI r1.best)])
theorem A25(F_a2:FuncId)(caps_a2:P D)(r1:Xe):∀(f:W) (b8 b9:V) (b10 b11 b14:V),Av Z ZO (PI F_a2 caps_a2 r1) f [T,T,T,T,T,T,T,T,b8,b9,b10,b11,T,T,b14] (IB r1 T T T T T T T T b8 b9 b10 b11 T b14 [(7,[aI r1.least.i0,aI r1.least.i1]),(14,(dm r1.h.row++ [aL (Y (rL X0.row) r1.choices),.dat (.clo F_a2 caps_a2),.own 143232,.own 143296,.own 143360,aI r1.least.i0,aI r1.least.i1,aB r1.found]))] [(143232,4,Y X0.row r1.plan),(143296,1,Y rI r1.choice),(143360,1,Y rI r1.best)]):=by
 intro f
 induction f with
 | zero=>
  intro b8 b9 b10 b11 b14 h;obtain rfl:b8=T:=zA.1 h b8 (by simp);obtain rfl:b9=T:=zA.1 h b9 (by simp);obtain rfl:b10=T:=zA.1 h b10 (by simp);obtain rfl:b11=T:=zA.1 h b11 (by simp);obtain rfl:b14=T:=zA.1 h b14 (by simp);rfl
 | succ f ih=>
  intro b8 b9 b10 b11 b14;refine AF ⟨?_,?_,?_,?_,?_,?_,?_,?_,?_,?_,?_,?_,?_,?_,?_,⟨⟩⟩<;>try first | (intro h; cases h; done) | (intro h0 hw; obtain rfl:=hz h0 rfl; (try obtain rfl:=hq hw 8 rfl rfl); (try obtain rfl:=hq hw 9 rfl rfl); (try obtain rfl:=hq hw 10 rfl rfl); (try obtain rfl:=hq hw 11 rfl rfl); refine np ?_; simp only[IB,Ac,Af,A7,C,E,F,G,H,J]; exact ih _ _ _ _ _)
theorem A26(F_a2:FuncId)(caps_a2:P D)(r1:Xe):∀(f:W) (b0 b1:V) (b2 b3:V) (b4 b5:V) (b6 b7:V) (b8 b9:V) (b10 b11 b12:V),Av Z ZO (PI F_a2 caps_a2 r1) f [b0,b1,b2,b3,b4,b5,b6,b7,b8,b9,b10,b11,b12,L,L] (IB r1 b0 b1 b2 b3 b4 b5 b6 b7 b8 b9 b10 b11 b12 L [(7,[aI (0:U),aI (0:U)]),(14,(dm r1.h.row++ [aL (Y (rL X0.row) r1.choices),.dat (.clo F_a2 caps_a2),.own 143232,.own 143296,.own 143360,aI r1.least.i0,aI r1.least.i1,aB r1.found]))] [(143232,4,Y X0.row r1.plan),(143296,1,Y rI r1.choice),(143360,1,Y rI r1.best)]):=by
 intro f
 induction f with
 | zero=>intro b0 b1 b2 b3 b4 b5 b6 b7 b8 b9 b10 b11 b12 h; simp at h
 | succ f ih=>
  intro b0 b1 b2 b3 b4 b5 b6 b7 b8 b9 b10 b11 b12;refine AF ⟨?_,?_,?_,?_,?_,?_,?_,?_,?_,?_,?_,?_,?_,?_,?_,⟨⟩⟩<;>try first | (intro _ hw; simp at hw; done) | (intro h0 hw; obtain rfl:=hz h0 rfl; (try obtain rfl:=hq hw 0 rfl rfl); (try obtain rfl:=hq hw 1 rfl rfl); (try obtain rfl:=hq hw 2 rfl rfl); (try obtain rfl:=hq hw 3 rfl rfl); (try obtain rfl:=hq hw 4 rfl rfl); (try obtain rfl:=hq hw 5 rfl rfl); (try obtain rfl:=hq hw 6 rfl rfl); (try obtain rfl:=hq hw 8 rfl rfl); (try obtain rfl:=hq hw 9 rfl rfl); (try obtain rfl:=hq hw 10 rfl rfl); refine np ?_; simp only[IB,Ac,Af,A7,C,E,F,G,H,J]; exact ih _ _ _ _ _ _ _ _ _ _ _ _ _)
  ·intro h0 hw;obtain rfl:=hq hw 0 rfl rfl;obtain rfl:=hq hw 1 rfl rfl;obtain rfl:=hq hw 2 rfl rfl;obtain rfl:=hq hw 3 rfl rfl;obtain rfl:=hq hw 4 rfl rfl;obtain rfl:=hq hw 5 rfl rfl;obtain rfl:=hq hw 6 rfl rfl;obtain rfl:=hq hw 7 rfl rfl;obtain rfl:=hq hw 12 rfl rfl;refine np ?_;try simp only[IB,Ac,Af,A7,C,E,F,G,H,J]
   exact A25 F_a2 caps_a2 r1 _ b8 b9 b10 b11 L
theorem zv{a0}{a1}{a2}{r}(F_a2:FuncId)(caps_a2:P D)(hF_a2:BA Z F_a2=T)(h_a2:∀z0 zr,a2 z0=N zr→FC Z F_a2 ([.sc (.sl (Y X0.row z0))]++caps_a2.map .sc) [.ag [.v (.int .i64 zr.i0),.v (.int .i64 zr.i1)]])(h:LY a0 a1 a2=N r):FC Z 117 [.ag (X1.row a0),.sc (.sl (Y (rL X0.row) a1)),.sc (.clo F_a2 caps_a2)] [.sc (.o 1 (Y rI r.1)),.ag [.v (.int .i64 r.2.1.i0),.v (.int .i64 r.2.1.i1)],.sc (.v (.bool r.2.2))]:=by
 unfold LY at h;refine A2 mixed pE [6,.c 7 T 2,8] 29 ?_;intro S hS;refine ev hS ?_;simp only[C,E,F,G,H,J];try simp only[C,E,F,G,H,J]
 refine BZ ?_;try simp only[C,E,F,G,H,J]
 refine B0 ?_;try simp only[C,E,F,G,H,J]
 refine BZ ?_;try simp only[C,E,F,G,H,J]
 refine EK (cs':= [aI a0.Forecast.Tide.Mean,aL (Y Xf.row a0.Forecast.Tide.Parts),aL (Y Xc.row a0.Forecast.Surges),aL (Y Xa.row a0.Chart.Points),aL (Y X7.row a0.Chart.Segments),aL (Y X8.row a0.Fleet),aI a0.Regime.Gap,aB a0.Regime.NoMeet,aI a0.Crew.Tugs,aI a0.Crew.Pilots,aI a0.Crew.Rest,aL (Y rI a0.Crew.Moves),aL (Y (rL X0.row) a1),.dat (.clo F_a2 caps_a2),.own 143232,.nil,.nil,aI (0:U),aI (0:U),aB L]) X X X X ?_;try simp only[C,E,F,G,H,J]
 refine EK (cs':= [aI a0.Forecast.Tide.Mean,aL (Y Xf.row a0.Forecast.Tide.Parts),aL (Y Xc.row a0.Forecast.Surges),aL (Y Xa.row a0.Chart.Points),aL (Y X7.row a0.Chart.Segments),aL (Y X8.row a0.Fleet),aI a0.Regime.Gap,aB a0.Regime.NoMeet,aI a0.Crew.Tugs,aI a0.Crew.Pilots,aI a0.Crew.Rest,aL (Y rI a0.Crew.Moves),aL (Y (rL X0.row) a1),.dat (.clo F_a2 caps_a2),.own 143232,.own 143296,.nil,aI (0:U),aI (0:U),aB L]) X X X X ?_;try simp only[C,E,F,G,H,J]
 refine EK (cs':= [aI a0.Forecast.Tide.Mean,aL (Y Xf.row a0.Forecast.Tide.Parts),aL (Y Xc.row a0.Forecast.Surges),aL (Y Xa.row a0.Chart.Points),aL (Y X7.row a0.Chart.Segments),aL (Y X8.row a0.Fleet),aI a0.Regime.Gap,aB a0.Regime.NoMeet,aI a0.Crew.Tugs,aI a0.Crew.Pilots,aI a0.Crew.Rest,aL (Y rI a0.Crew.Moves),aL (Y (rL X0.row) a1),.dat (.clo F_a2 caps_a2),.own 143232,.own 143296,.own 143360,aI (0:U),aI (0:U),aB L]) X X X X ?_;try simp only[C,E,F,G,H,J]
 refine Mj ?_;obtain⟨r1,h1,h⟩:=ob h;try simp only[C,E,F,G,H,J]
 refine JR (zz F_a2 caps_a2 hF_a2 h_a2 h1) 14 [143232,143296,143360] rfl X X X (by decide) X X X ?_;try simp only[C,E,F,G,H,J]
 refine EJ (ks:= [7,9]) (bs:= [7,14]) (rs:= [143232,143296,143360]) (τ:=(PI F_a2 caps_a2 r1)) X (A26 F_a2 caps_a2 r1 _ L L L L L L L L L L L L L) ?_;simp only[PI,IB,Ac];try simp only[C,E,F,G,H,J]
 cases h;try simp only[DT,C,E,F,G,H,J]
 trivial
def UW:Hw:=([(8,[3,6,7,8],[],[])],[])
def aw:=fun a0 (k_:U→U→Q U)=>∀{v1 v2} {zr},k_ v1 v2=N zr→Kh Z 153 UW 8 [3,6,7,8] [] [] ⟨[pI 3 v1,pL 6 X0.row a0,pI 7 (a0.length:U),pI 8 v2],[],[]⟩ (A6 [2] [.sc (.v (.int .i64 zr))])
theorem A27{a0}{n:W}:aw a0 (Hj a0 n):=by
 induction n with
 | zero=>intro _ _ r h; cases h
 | succ n ih=>
  intro v1 v2 r h σ hσ;rw[Hj] at h;exact gc
instance A6l:Ct 153 (∀{a0} {r},O0 a0=N r→FC Z 153 [.sc (.sl (Y X0.row a0))] [.sc (.v (.int .i64 r))]):=by
 refine⟨fun h=> ?_⟩;unfold O0 at h;refine A2 mixed UW [2] 18 ?_;have k0:= @A27;exact gc
theorem zi{a0}{r}(h:LK a0=N r):FC Z 119 [.sc (.sl (Y X0.row a0))] [.ag [.v (.int .i64 r.i0),.v (.int .i64 r.i1)]]:=by
 unfold LK at h;refine A2 mixed h0 [.c 2 T 2] 6 ?_;exact gc
instance xg:Ct 82 (∀{a0} {a1} {r},G1 a0 a1=N r→FC Z 82 [.ag (X1.row a0),.sc (.sl (Y X3.row a1))] [.sc (.o 1 (Y rI r.1)),.sc (.v (.int .i64 r.2.1)),.sc (.v (.bool r.2.2))]):=by
 refine⟨fun{a0} {a1} {r} h=> ?_⟩;unfold G1 at h;refine A2 mixed h0 [4,5,6] 27 ?_;intro S hS;refine ev hS ?_;simp only[C,E,F,G,H,J];try simp only[C,E,F,G,H,J]
 refine BZ ?_;obtain⟨r1,h1,h⟩:=ob h;try simp only[C,E,F,G,H,J]
 refine Ao (A8 Z8 h1) ?_;obtain⟨h2,h⟩|⟨h2,h⟩:=ic h
 ·try simp only[h2,C,E,F,G,H,J]
  refine Ai ?_;obtain⟨r3,h3,h⟩:=ob h;try simp only[h2,C,E,F,G,H,J]
  refine AX (A8 zg h3) ?_;obtain⟨r4,h4,h⟩:=ob h;try simp only[h2,C,E,F,G,H,J]
  refine FB (zv 119 [] (by kernel_rfl) (fun z0 zr zh=>zi zh) h4) (by first | rfl | kernel_rfl) (Ea X ⟨Eb,X,X,X,⟨⟩⟩) X (uf X) ?_;try simp only[h2,C,E,F,G,H,J]
  refine OK (m:= .box 8 [aI (0:U),aI (0:U)]) X X (K4 X X) ?_;try simp only[h2,C,E,F,G,H,J]
  refine Ai ?_;try simp only[h2,C,E,F,G,H,J]
  refine Ai ?_;try simp only[h2,C,E,F,G,H,J]
  cases h;trivial
 ·try simp only[h2,C,E,F,G,H,J]
  cases h;trivial
end Go.Vi
