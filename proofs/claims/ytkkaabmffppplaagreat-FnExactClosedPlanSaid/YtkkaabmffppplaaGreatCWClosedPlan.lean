/-
Walks of functions whose results tell the blocks of what is . No condition.
-/
import Derived.Test.YtkkaabmffppplaaGreatCWClosedPland
import Derived.Test.YtkkaabmffppplaaGreatCVi44
import Derived.KernelRfl
namespace Go.Vi
open Go.Proofs
set_option linter.all false
set_option maxRecDepth 4000
set_option maxHeartbeats 2000000
open Nat renaming reduceBEq → A, reduceMul → B, reduceAdd → C, reduceDiv → E, le_of_ble_eq_true → uf
open Int renaming reduceBEq → F
attribute [local irreducible] go B5 HL
open List renaming map → Z, map_cons → zA, mem_singleton → zB, mem_cons → zC, pairwise_append → zD, mem_map → zE, not_mem_nil → zF, map_nil → zG, pairwise_singleton → zI, pairwise_cons → zJ, getElem?_eq_some_iff → zK, append_nil → zL, nil_append → zM, mem_append → zN, replicate → zO
open Tryz renaming prog → I
open Xc renaming row → zH
open IntKind renaming wrap → zP
open Bool renaming true → T, false → L
open Option renaming some → N
open _root_ renaming List → O, Option → U, Int → V, Bool → W, Nat → X, rfl → Y
theorem Al{G G':Prop}(h:G')(e:G'→G:=by
 intro w;repeat (first | refine TA ?_ | refine Ku ?_ | refine CY ?_ | refine El ?_ | simp only[*,-w,A,B,C,E,F,J,Ax])
 exact w):G:=e h
theorem DW{G:Prop}(k:G:=by simp only[*,A,B,C,E,F,J,Ax,pL,aM,List.map_nil]):G:=k
structure XT where
 o:X0
 b:X
def XT.row(k:U X)(t:XT):O D:= [.int .i64 t.o.Start,.int .i64 t.o.Arrival,.int .i64 t.o.Cost,D.tagW k t.b (.sl (Z X1.row t.o.Passages))]
instance {k:U X}:Row (XT.row k) 4:=⟨fun _=>rfl,uf rfl⟩
theorem XT.row_eq{k:U X}(t:XT):XT.row k t= [.int .i64 t.o.Start,.int .i64 t.o.Arrival,.int .i64 t.o.Cost,D.tagW k t.b (.sl (Z X1.row t.o.Passages))]:=rfl
def XT.tg(t:XT)(b:X):Prop:=t.o.Passages≠ []∧t.b=b
def Fl(ts:O XT):Prop:=ts.Pairwise fun s t=>∀b,s.tg b→¬t.tg b
theorem dy{k:U X}{b c:X}{es:O (O D)}(hf:∀r∈es,∀d∈r,d.flat=T):Tg c (D.tagW k b (.sl es))↔es≠ []∧b=c:=by
 cases es with
 | nil=>exact⟨fun h=>(by cases h; simp_all),fun h=>absurd rfl h.1⟩
 | cons e es=>exact⟨fun h=>(by cases h; exact⟨by simp,rfl⟩),fun h=>h.2▸Tg.here⟩
theorem LW{ps:O X1}:∀r∈Z X1.row ps,∀d∈r,d.flat=T:=fun r hr d hd=>by
 obtain⟨x,_,rfl⟩:=zE.1 hr;exact FlatRow.flat x d hd
theorem XT.tg_row{k:U X}{t:XT}{b:X}:(∃d∈XT.row k t,Tg b d)↔t.tg b:=by
 have h:Tg b (D.tagW k t.b (.sl (Z X1.row t.o.Passages)))↔t.tg b:=by
  rw[dy LW];simp[XT.tg]
 refine⟨fun⟨d,hd,ht⟩=> ?_,fun ht=>⟨_,by simp[XT.row],h.2 ht⟩⟩;simp only[XT.row,zC,zF,or_false] at hd
 rcases hd with rfl|rfl|rfl|rfl
 ·cases ht
 ·cases ht
 ·cases ht
 ·exact h.1 ht
theorem E0{k:U X}{ts:O XT}{b:X}:BS b (Z (XT.row k) ts)↔∃t∈ts,t.tg b:=by
 refine⟨fun⟨r,hr,h⟩=> ?_,fun⟨t,ht,h⟩=>⟨_,zE.2 ⟨t,ht,Y⟩,XT.tg_row.2 h⟩⟩;obtain⟨t,ht,rfl⟩:=zE.1 hr;exact⟨t,ht,XT.tg_row.1 h⟩
def Tf(os:O X0)(rs:O R1):Prop:=∃ts:O XT,rs= [.sc (.o 4 (Z (XT.row (N 5)) ts))]∧ts.map XT.o=os∧Fl ts
theorem XT.un{k:U X}{t:XT}:Uns (XT.row k t) (X0.row t.o):=by
 refine .cons .same (.cons .same (.cons .same (.cons ?_ .nil)));cases Z X1.row t.o.Passages with
 | nil=>exact .same
 | cons e es=>exact .slb .refl
theorem XT.uns{k:U X}:∀{ts:O XT},UnRows (Z (XT.row k) ts) (Z X0.row (ts.map XT.o))
 | []=> .nil
 | _::_=> .cons XT.un XT.uns
abbrev hO:Hw:=([(28,[2,3,5,7,9,10],[2,3,7],[2560])],[])
theorem B46{r3:(O V) × W}{a0:X6}{a1:Xc}{r4:Xm × W}{n:X}:∀{v7:V} {v8:O XT} {zr:O X0},Fl v8→EI r3 a0 a1 r4 n v7 (v8.map XT.o)=N zr→Kh I 82 hO 28 [2,3,5,7,9,10] [2,3,7] [2560]
  ⟨[pB 2,pB 3,(5,vc (.mix (.sl (Z rI r3.1)))),pB 7,pW 9 2560,pI 10 v7],[(2,[aI a0.Forecast.Tide.Mean,.old (.sl (Z Xd.row a0.Forecast.Tide.Parts)),.old (.sl (Z Xa.row a0.Forecast.Surges)),.old (.sl (Z X8.row a0.Chart.Points)),.old (.sl (Z X2.row a0.Chart.Segments)),.old (.sl (Z X4.row a0.Fleet)),aI a0.Regime.Gap,aB a0.Regime.NoMeet,aI a0.Crew.Tugs,aI a0.Crew.Pilots,aI a0.Crew.Rest,.old (.sl (Z rI a0.Crew.Moves))]),(3,[aI a1.Ship,aI a1.From,aI a1.To,aI a1.Ready,aI a1.Due]),(7,[.mix (.sl (Z rB r4.1.waits)),.mix (.sl (Z rI r4.1.minutes)),.mix (.sl (Z (rL X5.row) r4.1.sure))])],[(2560,4,Z (XT.row (N 5)) v8)]⟩ (MF [4] (Tf zr)):=by
 induction n with
 | zero=>intro _ _ _ _ h; cases h
 | succ n ih=>
  intro v7 v8 zr hap h σ hσ S hS;refine ev hS ?_;rw[EI,List.length_map] at h;refine AB (As ?_);obtain⟨h9,h⟩|⟨h9,h⟩:=ic h
  ·obtain⟨h10,h⟩|⟨h10,h⟩:=ic h
   ·obtain⟨r11,h11,h⟩:=ob h;try simp only[hσ,h9,h10,A,B,C,E,F,J,Ax]
    refine Pd (FCf.tag ((Ab ej h11).newf (BD rfl ⟨rfl,rfl,rfl,AN,rfl,⟨⟩⟩))) (ds':= [.ag (X6.row a0),.ag (zH a1),.ag (Xm.row r4.1),.sc (.sl (Z rI r3.1)),.sc (.int .i64 v7)]) (by first | rfl | kernel_rfl) .refl rfl (fun rs ⟨g,e⟩=>by subst e; exact uf rfl) ?_;rintro rs ⟨g,rfl⟩ hN
    have hnew:∀t∈v8,∀b,t.tg b→r11.1.Passages≠ []→b<g 3:=fun t ht b hb hp=>hN b (g 3) (St.tg_own (k:=9) rfl rfl (E0.2 ⟨t,ht,hb⟩)) ⟨.v (D.tagW (N 5) (g 3) (.sl (Z X1.row r11.1.Passages))),by simp[DZ,Qe,RC.tagO,R1.cells],(dy LW).2 ⟨by simpa using hp,rfl⟩⟩
    clear hN
    simp only[DZ,Qe,RC.tagO];try simp only[h9,h10,A,B,C,E,F,J,Ax]
    refine Ku ?_;obtain⟨h12,h⟩|⟨h12,h⟩:=ic h
    ·try simp only[h9,h10,h12,A,B,C,E,F,J,Ax]
     refine Bc (es:=Z (XT.row (N 5)) ([⟨r11.1,g 3⟩]:O XT)) ?_;obtain⟨h13,h⟩:=B2 h;have h13:Ad v8.length ([⟨r11.1,g 3⟩]:O XT).length 48=T:=h13;try simp only[h9,h10,h12,h13,A,B,C,E,F,J,Ax]
     refine ih (v8:=v8++ [⟨r11.1,g 3⟩]) ?_ (by simpa[GR] using h) ?_ (by kernel_rfl)
     ·refine zD.2 ⟨hap,zI _ _,fun s hs t ht b hb hb'=> ?_⟩;rw[zB.1 ht] at hb'
      have:=hnew s hs b hb hb'.1;exact absurd hb'.2 (by simp only; omega)
     try simp only[h9,h10,h12,h13,A,B,C,E,F,J,Ax,pL,aM,zG]
    ·try simp only[h9,h10,h12,A,B,C,E,F,J,Ax]
     refine ih hap (by simpa[GR] using h) ?_ (by kernel_rfl);try simp only[h9,h10,h12,A,B,C,E,F,J,Ax,pL,aM,zG]
   ·try simp only[hσ,h9,h10,A,B,C,E,F,J,Ax]
    cases h;exact⟨_,⟨v8,Y,Y,hap⟩,t0⟩
  ·try simp only[hσ,h9,A,B,C,E,F,J,Ax]
   cases h;exact⟨_,⟨v8,Y,Y,hap⟩,t0⟩
theorem qf:AE I 82=N ((Bp I 82 hO).strip,[4],69):=by kernel_rfl
theorem A8z{a0:X6}{a1:Xc}{r:O X0}(h:DE a0 a1=N r):FCs I 82 [.ag (X6.row a0),.ag (zH a1)] (Tf r):=by
 unfold DE at h;refine T6 (σ:=⟨[(0,va [aI a0.Forecast.Tide.Mean,.old (.sl (Z Xd.row a0.Forecast.Tide.Parts)),.old (.sl (Z Xa.row a0.Forecast.Surges)),.old (.sl (Z X8.row a0.Chart.Points)),.old (.sl (Z X2.row a0.Chart.Segments)),.old (.sl (Z X4.row a0.Fleet)),aI a0.Regime.Gap,aB a0.Regime.NoMeet,aI a0.Crew.Tugs,aI a0.Crew.Pilots,aI a0.Crew.Rest,.old (.sl (Z rI a0.Crew.Moves))]),(1,va [aI a1.Ship,aI a1.From,aI a1.To,aI a1.Ready,aI a1.Due])],[],[]⟩) A2 qf Y Y ?_;refine Bt hO ?_;intro S hS;refine ev hS ?_;obtain⟨r1,h1,h⟩:=ob h;refine Al ?_;refine AT (Ab W8 h1) Y (B1 Y) Y (uf Y) ?_;obtain⟨h2,h⟩|⟨h2,h⟩:=ic h
 ·obtain⟨r3,h3,h⟩:=ob h;refine Al ?_;refine YN (Ab A6a h3) Y Y ?_;obtain⟨r4,h4,h⟩:=ob h;refine Al ?_;refine YN (FC.asV (rs':= [.ag (Xm.row r4.1 |>.map .v),.sc (.v (.bool r4.2))]) (Ab A6m h4) Y) Y Y ?_;try simp only[h2,Sw,D.fl,cond_true,cond_false,A,B,C,E,F,J,Ax]
  refine Al ?_;obtain⟨h5,h⟩|⟨h5,h⟩:=ic h
  ·obtain⟨h6,h⟩|⟨h6,h⟩:=ic h
   ·refine Al ?_;refine Bc (es:=Z (XT.row (N 5)) ([]:O XT)) ?_;refine Al ?_;exact B46 (v8:= []) .nil h DW kr
   ·refine Al ?_;cases h;exact⟨_,⟨[],Y,Y,.nil⟩,t0⟩
  ·refine Al ?_;cases h;exact⟨_,⟨[],Y,Y,.nil⟩,t0⟩
 ·refine Al ?_;cases h;exact⟨_,⟨[],Y,Y,.nil⟩,t0⟩
def Ih(a1:XT→U W)(a0:O XT):X→V→U V
| 0,_=>none
| n+1,v1=>
 if(decide (v1<(a0.length:V))) then(
 (ix a0 v1).bind fun x3=>
 (a1 x3).bind fun r4=>
 if r4 then(
  N v1)
 else(
  Ih a1 a0 n (zP .i64 (v1+(1:V)))))
 else(
 N (-1:V))
def QP(a0:O XT)(a1:XT→U W):U V:= Ih a1 a0 bigN (0:V)
def KL(a1:XT→U W)(v4:V)(k_T_DeleteFunc_1:V→V→(O XT)→U (O XT))(v12:V)(v13:O XT):U (O XT):= k_T_DeleteFunc_1 v12 (zP .i64 (v4+(1:V))) v13
def GJ(a1:XT→U W):X→V→V→(O XT)→U (O XT)
| 0,_,_,_=>none
| n+1,v3,v4,v5=>
 if(decide (v4<(v5.length:V))) then(
 (ix v5 v4).bind fun x7=>
 (a1 x7).bind fun r9=>
 if r9 then(
  KL a1 v4 (GJ a1 n) v3 v5)
 else(
  (ix v5 v3).bind fun x11=>
  KL a1 v4 (GJ a1 n) (zP .i64 (v3+(1:V))) (v5.set (Int.toNat v3) x7)))
 else(
 (bnd (v5.length:V) (v5.length:V) v3 v5.length).bind fun p14=>
 (bnd ((v5.take p14.1++zO (p14.2 - p14.1) (⟨⟨(0:V),(0:V),(0:V),([]:O X1)⟩,0⟩:XT)).length:V) v3 0 (v5.take p14.1++zO (p14.2 - p14.1) (⟨⟨(0:V),(0:V),(0:V),([]:O X1)⟩,0⟩:XT)).length).bind fun p15=>
 N ((v5.take p14.1++zO (p14.2 - p14.1) (⟨⟨(0:V),(0:V),(0:V),([]:O X1)⟩,0⟩:XT)).take p15.2))
def KK(a0:O XT)(a1:XT→U W):U (O XT):= (QP a0 a1).bind fun r1=> if(r1==(-1:V)) then(
 N a0) else(
 GJ a1 bigN r1 (zP .i64 (r1+(1:V))) a0)
def gG:Hw:=([(6,[0,1,7,8],[],[])],[])
def gf:=fun F_a1 caps_a1 a0 (k_:V→U V)=>∀{v1} {zr},k_ v1=N zr→Kh I 127 gG 6 [0,1,7,8] [] [] ⟨[pL 0 (XT.row (N 5)) a0,(1,vc (.dat (.clo F_a1 caps_a1))),pI 7 (a0.length:V),pI 8 v1],[],[]⟩ (A5 [4] [.sc (.v (.int .i64 zr))])
theorem B47{a1:XT→U W}{F_a1 caps_a1}(hF_a1:AW I F_a1=T)(h_a1:∀z0 zr,a1 z0=N zr→FC I F_a1 ([.ag ((XT.row (N 5)) z0)]++caps_a1.map .sc) [.sc (.v (.bool zr))]){a0}{n:X}:gf F_a1 caps_a1 a0 (Ih a1 a0 n):=by
 induction n with
 | zero=>intro _ r h; cases h
 | succ n ih=>
  intro v1 r h σ hσ S hS;refine ev hS ?_;rw[Ih] at h;refine AB (As ?_);obtain⟨h2,h⟩|⟨h2,h⟩:=ic h
  ·obtain⟨x3,h3,h⟩:=ob h;obtain⟨r4,h4,h⟩:=ob h;refine Al ?_;refine JU (h_a1 _ _ h4) hF_a1 Y Y (B1 Y) Y (uf Y) ?_;obtain⟨h5,h⟩|⟨h5,h⟩:=ic h
   ·refine Al ?_;cases h;exact t0
   ·refine Al ?_;exact ih h DW kr
  ·refine Al ?_;cases h;exact t0
theorem A58{a0}{a1}{r}(F_a1:FuncId)(caps_a1:O D)(hF_a1:AW I F_a1=T)(h_a1:∀z0 zr,a1 z0=N zr→FC I F_a1 ([.ag ((XT.row (N 5)) z0)]++caps_a1.map .sc) [.sc (.v (.bool zr))])(h:QP a0 a1=N r):FC I 127 [.sc (.sl (Z (XT.row (N 5)) a0)),.sc (.clo F_a1 caps_a1)] [.sc (.v (.int .i64 r))]:=by
 unfold QP at h;refine A3 A2 gG [4] 19 ?_;intro S hS;refine ev hS ?_;refine Al ?_;exact B47 hF_a1 h_a1 h DW kr
def T1:Hw:=([(16,[0,1,5,6],[],[90000]),(34,[0,1,5,6],[],[90000])],[(38,3,(none,.cut 41))])
def ge:=fun F_a1 caps_a1 v4 (k_:V→(O XT)→U (O XT))=>∀{v12 v13} {zr},k_ v12 v13=N zr→Kh I 81 T1 34 [0,1,5,6] [] [90000] ⟨[pW 0 90000,(1,vc (.dat (.clo F_a1 caps_a1))),pI 5 v12,pI 6 v4],[],[(90000,4,Z (XT.row (N 5)) v13)]⟩ (GA [4] 4 (Z (XT.row (N 5)) zr))
def Wy:=fun F_a1 caps_a1 (k_:V→V→(O XT)→U (O XT))=>∀{v3 v4 v5} {zr},k_ v3 v4 v5=N zr→Kh I 81 T1 16 [0,1,5,6] [] [90000] ⟨[pW 0 90000,(1,vc (.dat (.clo F_a1 caps_a1))),pI 5 v3,pI 6 v4],[],[(90000,4,Z (XT.row (N 5)) v5)]⟩ (GA [4] 4 (Z (XT.row (N 5)) zr))
theorem gH{a1:XT→U W}{F_a1 caps_a1}(hF_a1:AW I F_a1=T)(h_a1:∀z0 zr,a1 z0=N zr→FC I F_a1 ([.ag ((XT.row (N 5)) z0)]++caps_a1.map .sc) [.sc (.v (.bool zr))]){v4}{k_T_DeleteFunc_1}(hk_T_DeleteFunc_1:Wy F_a1 caps_a1 k_T_DeleteFunc_1):ge F_a1 caps_a1 v4 (KL a1 v4 k_T_DeleteFunc_1):=by
 intro v12 v13 r h σ hσ S hS;refine ev hS ?_;refine As ?_;unfold KL at h;refine Al ?_;exact hk_T_DeleteFunc_1 h DW kr
theorem B48{a1:XT→U W}{F_a1 caps_a1}(hF_a1:AW I F_a1=T)(h_a1:∀z0 zr,a1 z0=N zr→FC I F_a1 ([.ag ((XT.row (N 5)) z0)]++caps_a1.map .sc) [.sc (.v (.bool zr))]){n:X}:Wy F_a1 caps_a1 (GJ a1 n):=by
 induction n with
 | zero=>intro _ _ _ r h; cases h
 | succ n ih=>
  intro v3 v4 v5 r h σ hσ S hS;refine ev hS ?_;rw[GJ] at h;refine AB (As ?_);obtain⟨h6,h⟩|⟨h6,h⟩:=ic h
  ·obtain⟨x7,h7,h⟩:=ob h;have h7n:=Am h7;obtain⟨r9,h9,h⟩:=ob h;refine Al ?_;refine JU (h_a1 _ _ h9) hF_a1 Y Y (B1 Y) Y (uf Y) ?_;obtain⟨h10,h⟩|⟨h10,h⟩:=ic h
   ·refine Al ?_;exact gH hF_a1 h_a1 ih h DW kr
   ·obtain⟨x11,h11,h⟩:=ob h;have h11n:=Am h11;refine Al ?_;refine AK (row:=(XT.row (N 5))) (y:=x7) Y Y h11n Y Y (by rfl) ?_;refine Al ?_;exact gH hF_a1 h_a1 ih h DW kr
  ·obtain⟨p14,h14,h⟩:=ob h;refine Al ?_;refine YO (zx:=(⟨⟨(0:V),(0:V),(0:V),([]:O X1)⟩,0⟩:XT)) Y Y h14 (by rfl) ?_;obtain⟨p15,h15,h⟩:=ob h;refine Al ?_;refine Ga Y Y h15 (by rfl) ?_;refine Al ?_;cases h;trivial
theorem qa:AE I 81=N ((Bp I 81 T1).strip,[4],42):=by kernel_rfl
theorem A57{a0}{a1}{r}(F_a1:FuncId)(caps_a1:O D)(hF_a1:AW I F_a1=T)(h_a1:∀z0 zr,a1 z0=N zr→FC I F_a1 ([.ag ((XT.row (N 5)) z0)]++caps_a1.map .sc) [.sc (.v (.bool zr))])(h:KK a0 a1=N r):FCt I 81 [.r,.d (.sc (.clo F_a1 caps_a1))] 4 (Z (XT.row (N 5)) a0) (Z (XT.row (N 5)) r):=by
 unfold KK at h;refine T7 (σ:=⟨[(0,vc (.own 90000)),(1,vc (.dat (.clo F_a1 caps_a1)))],[],[(90000,4,Z (XT.row (N 5)) a0)]⟩) A2 qa Y Y ?_;refine Bt T1 ?_;intro S hS;refine ev hS ?_;obtain⟨r1,h1,h⟩:=ob h;refine Al ?_;refine AT (A58 F_a1 caps_a1 hF_a1 h_a1 h1) Y (B1 Y) Y (uf Y) ?_;obtain⟨h2,h⟩|⟨h2,h⟩:=ic h
 ·refine Al ?_;cases h;trivial
 ·refine Al ?_;exact B48 hF_a1 h_a1 h DW kr
theorem Qn{k:U X}{ts:O XT}:∀r∈Z (XT.row k) ts,∀d∈r,Sh d:=fun r hr d hd=>by
 obtain⟨t,_,rfl⟩:=zE.1 hr;simp only[XT.row,zC,zF,or_false] at hd
 rcases hd with rfl|rfl|rfl|rfl
 ·exact .flat Y
 ·exact .flat Y
 ·exact .flat Y
 ·have hp:=LW (ps:=t.o.Passages);revert hp
  cases Z X1.row t.o.Passages with
  | nil=>exact fun _=> .nil
  | cons e es=>exact fun hp=> .slb hp
theorem qe:AE I 38=N ((Bp I 38 h0).strip,[6],23):=by kernel_rfl
theorem nc{a2:O X7}{z0:XT}{zr:W}(h:KV z0.o a2=N zr):FC I 83 ([.ag (XT.row (N 5) z0)]++ [D.pd ((rL X7.row) a2)].map .sc) [.sc (.v (.bool zr))]:=(fX h).un (.cons (.ag XT.un) .refl)
theorem A8y{a0:X6}{a1:Xc}{a2:O X7}{r:O X0}(h:CX a0 a1 a2=N r)(hd:∀r5,GN a0.Chart a2=N T→DE a0 a1=N r5→∃p:X0→W,r=r5.filter (fun o=> !p o)∧∀ts:O XT,ts.map XT.o=r5→KK ts (fun t=>KV t.o a2)=N (ts.filter fun t=> !p t.o)) :
  FCs I 38 [.ag (X6.row a0),.ag (zH a1),.sc (.sl (Z X7.row a2))] (Tf r):=by
 unfold CX at h;refine T6 (σ:=⟨[(0,va [aI a0.Forecast.Tide.Mean,.old (.sl (Z Xd.row a0.Forecast.Tide.Parts)),.old (.sl (Z Xa.row a0.Forecast.Surges)),.old (.sl (Z X8.row a0.Chart.Points)),.old (.sl (Z X2.row a0.Chart.Segments)),.old (.sl (Z X4.row a0.Fleet)),aI a0.Regime.Gap,aB a0.Regime.NoMeet,aI a0.Crew.Tugs,aI a0.Crew.Pilots,aI a0.Crew.Rest,.old (.sl (Z rI a0.Crew.Moves))]),(1,va [aI a1.Ship,aI a1.From,aI a1.To,aI a1.Ready,aI a1.Due]),(2,vc (.old (.sl (Z X7.row a2))))],[],[]⟩) A2 qe Y Y ?_;refine Bt h0 ?_;intro S hS;refine ev hS ?_;obtain⟨r1,hr1,h⟩:=ob h;refine Al ?_;refine AT (Ab W8 hr1) Y (B1 Y) Y (uf Y) ?_;obtain⟨hb2,h⟩|⟨hb2,h⟩:=ic h
 ·obtain⟨r3,hr3,h⟩:=ob h;refine Al ?_;refine AT (Ab W9 hr3) Y (B1 Y) Y (uf Y) ?_;obtain⟨hb4,h⟩|⟨hb4,h⟩:=ic h
  ·obtain⟨r5,hr5,h⟩:=ob h;refine Al ?_;refine Pd (A8z hr5) (ds':= [.ag (X6.row a0),.ag (zH a1)]) (by first | rfl | kernel_rfl) .refl rfl (fun rs ⟨_,e,_⟩=>by subst e; exact uf rfl) ?_;rintro rs ⟨ts,rfl,e5,hap⟩ _
   obtain⟨p,rfl,hp⟩:=hd r5 (by rw[hr3,hb4]) hr5;refine Al ?_;refine td (A57 83 [.pd ((rL X7.row) a2)] (by kernel_rfl) (fun z0 zr zh=>nc zh) (hp ts e5)) 1280 rfl rfl (Qn) (fun b hb=>E0.2 (by obtain⟨t,ht,h⟩:=E0.1 hb; exact⟨t,(List.mem_filter.1 ht).1,h⟩)) ⟨0,rfl⟩ rfl rfl rfl ?_;rw[QE];refine Al ?_;exact⟨_,⟨ts.filter fun t=> !p t.o,Y,by rw[← e5,List.filter_map]; rfl,hap.filter _⟩,t0⟩
  ·refine Al ?_;cases h;exact⟨_,⟨[],Y,Y,.nil⟩,t0⟩
 ·refine Al ?_;cases h;exact⟨_,⟨[],Y,Y,.nil⟩,t0⟩
def FN:O X0→V→U (V × O X0)
 | [],k=>N (k,[])
 | o::os,k=>(H3 o.Passages (zP .i64 (zP .i64 (zP .i64 (k+1)+1)+1))).bind fun r=>(FN os r.1).bind fun q=>N (q.1,⟨k,zP .i64 (k+1),zP .i64 (zP .i64 (k+1)+1),r.2⟩::q.2)
def Dz(os:O X0)(ts:O XT):O XT:=List.zipWith (fun o t=>⟨o,t.b⟩) os ts
theorem SJ{α:Type}{l r:O α}{x y:α}:(l++x::r).set (Int.toNat (l.length:V)) y=l++y::r:=by simp
theorem Ge{α:Type}{l r:O α}{x:α}:ix (l++x::r) (l.length:V)=N x:=by simp[ix]
theorem tG{α:Type}{l r:O α}{x:α}:(l++x::r)[Int.toNat (l.length:V)]?=N x:=by simp
theorem eV{σ:St}{c:AC}(h:σ.Uses c):c∈(σ.env.flatMap fun p=>p.2.cells)++σ.bx.flatMap fun p=>p.2:=by
 rcases h with ⟨k,hk⟩|⟨id,cs,hf,hc⟩
 ·obtain⟨p,hp,hc⟩:=St.get_mem hk;exact List.mem_append_left _ (List.mem_flatMap.2 ⟨p,hp,hc⟩)
 ·exact List.mem_append_right _ (List.mem_flatMap.2 ⟨_,LS hf,hc⟩)
theorem A0p{b:X}{ps:O X1}{t:XT}(h:t.tg b→t.o.Passages=ps):∀d∈XT.row (N 5) t,Gz b 5 (Z X1.row ps) d:=fun d hd=>by
 refine⟨Qn (ts:= [t]) _ (by simp; rfl) d hd,fun k es e=> ?_⟩;subst e;simp only[XT.row,zC,reduceCtorEq,zF,or_false,false_or] at hd
 revert h hd
 cases hp:t.o.Passages with
 | nil=>intro _ hd; cases hd
 | cons p q=>
  intro h hd;simp only[zA,D.tagW,D.slb.injEq] at hd
  obtain⟨e1,e2,e3⟩:=hd;rw[← h ⟨by rw[hp]; simp,e1.symm⟩];exact⟨e2,e3⟩
theorem A5u{b:X}{ps:O (O D)}{t:XT}(h:¬t.tg b):(XT.row (N 5) t).map (D.upd b ps)=XT.row (N 5) t:=by
 simp only[XT.row,zA,zG,D.upd,List.cons.injEq,and_true,true_and];cases hp:t.o.Passages with
 | nil=>rfl
 | cons p q=>
  have:(t.b==b)=L:=by simpa using fun e=>h ⟨by rw[hp]; simp,e⟩
  simp only[zA,D.tagW,D.upd,this,cond_false]
theorem eU{b:X}{ps:O (O D)}{ts:O XT}(h:∀t∈ts,¬t.tg b):(Z (XT.row (N 5)) ts).map (Z (D.upd b ps))=Z (XT.row (N 5)) ts:=by
 rw[List.map_map];exact List.map_congr_left fun t ht=>A5u (h t ht)
theorem A5t{o:X0}{ps:O X1}{b:X}(h:o.Passages≠ [])(hl:ps.length=o.Passages.length):(XT.row (N 5) ⟨o,b⟩).map (D.upd b (Z X1.row ps))=XT.row (N 5) ⟨⟨o.Start,o.Arrival,o.Cost,ps⟩,b⟩:=by
 simp only[XT.row,zA,zG,D.upd,List.cons.injEq,and_true,true_and];cases hp:o.Passages with
 | nil=>exact absurd hp h
 | cons p q=>
  cases ps with
  | nil=>rw[hp] at hl; cases hl
  | cons p' q'=>simp only[zA,D.tagW,D.upd,beq_self_eq_true,cond_true]
theorem A7n{k:V}:FC I 54 [.sc (.sl []),.sc (.int .i64 k)] [.sc (.v (.int .i64 k))]:=by
 refine A3 A2 h0 [4] 50 ?_;intro S hS;refine ev hS ?_;refine Al ?_;refine AB ?_;try simp only[List.length_nil,Int.ofNat_zero,Int.lt_irrefl,decide_false,A,B,C,E,F,J,Ax]
 exact t0
theorem ta{P:Program}{k:O Fr}{Q:Xl→St→Prop}{its:O AItem}{d f sz b j:X}{args:O Opd}{x r:D}{ps ps':O (O D)}{σ τ:St}(H:FCx P f [.sc (.r 0),.sc (.d x)] [(sz,ps)] [(sz,ps')] r)(hl:ps'.length=ps.length)(hfl:∀r∈ps,∀d∈r,d.flat=T)(hfl':∀r∈ps',∀d∈r,d.flat=T)(hx:x.flat=T)
  (ha:args.map σ.val= [.v (.sc (.dat (.slb b (N sz) ps))),.v (.sc (.dat x))]) (hnw:σ.get j= .ev .nw) (hok:∀c,σ.Uses c→∀d,c= .dat d→Gz b sz ps d) (hrows:∀id s es,A1 σ.rows id=N (s,es)→∀r∈es,∀d∈r,Gz b sz ps d) (hτ:σ.updT b ps'=τ)
  (h:go P (.ops its::k) Q .normal (N (τ.set d (.v (.sc (.dat r)))))):go P (.ops ((none,.call d f args)::its)::k) Q .normal (N σ):=LZ (by rw[ha,← hτ]; exact H.callT hl hfl hfl' hx hnw hok hrows) h
abbrev hM:Hw:=([(6,[0,1,5,77777],[],[99999999999])],[(27,6,(none,.keep [0,1,5,37,38,77777] [] [99999999999]))])
theorem B45{ts:O XT}:∀{done:O XT} {k:V} {r:V × O X0},FN (ts.map XT.o) k=N r→Fl (done++ts)→(done++ts).length≤maxLen→Kh I 19 hM 6 [0,1,5,77777] [] [99999999999]
  ⟨[pW 0 99999999999,pI 1 k,pI 5 (done.length:V),(77777,.ev .nw)],[],[(99999999999,4,Z (XT.row (N 5)) (done++ts))]⟩ (CD [4] (.int .i64 r.1) [(4,Z (XT.row (N 5)) (done++Dz r.2 ts))] [(0,0)]):=by
 induction ts with
 | nil=>
  intro done k r h hap hlen σ hσ S hS;refine ev hS ?_;cases h;refine AB (As ?_);try simp only[hσ,zL,Int.lt_irrefl,decide_false,A,B,C,E,F,J,Ax]
  refine⟨⟨Y,⟨⟩⟩,⟨⟨⟨_,Y,Y⟩,?_⟩,⟨⟩⟩⟩;simp[Dz,A1]
 | cons t ts ih=>
  intro done k r h hap hlen σ hσ S hS;refine ev hS ?_;rw[zA,FN] at h;obtain⟨r1,hr1,h⟩:=ob h;obtain⟨q,hq,h⟩:=ob h;cases h;have hlt:decide ((done.length:V)<((done++t::ts).length:V))=T:=decide_eq_true (by simp only[List.length_append,List.length_cons]; omega);refine AB (As ?_);try simp only[hσ,hlt,Ge,SJ,A,B,C,E,F,J,Ax]
  refine AK (row:=XT.row (N 5)) (y:=⟨⟨k,t.o.Arrival,t.o.Cost,t.o.Passages⟩,t.b⟩) Y Y (Am Ge) Y Y (by rfl) ?_;try simp only[Ge,SJ,A,B,C,E,F,J,Ax]
  refine AK (row:=XT.row (N 5)) (y:=⟨⟨k,zP .i64 (k+1),t.o.Cost,t.o.Passages⟩,t.b⟩) Y Y (Am Ge) Y Y (by rfl) ?_;try simp only[Ge,SJ,A,B,C,E,F,J,Ax]
  refine AK (row:=XT.row (N 5)) (y:=⟨⟨k,zP .i64 (k+1),zP .i64 (zP .i64 (k+1)+1),t.o.Passages⟩,t.b⟩) Y Y (Am Ge) Y Y (by rfl) ?_;try simp only[Ge,SJ,A,B,C,E,F,J,Ax]
  try simp only[tG,XT.row_eq,Ge,A,B,C,E,F,J,Ax]
  have hw:zP .i64 ((done.length:V)+1)=((done.length+1:X):V):=fI (n:=(done++t::ts).length) (by simp) hlen;have hu:=zD.1 hap;have hd1:∀s∈done,∀b,s.tg b→¬t.tg b:=fun s hs b=>hu.2.2 s hs t List.mem_cons_self b
  have hd2:∀s∈ts,∀b,s.tg b→¬t.tg b:=fun s hs b h1 h2=>(zJ.1 hu.2.1).1 s hs b h2 h1
  have hfin:∀{σ':St},σ'.kept [0,1,5,77777] [] [99999999999]=⟨[pW 0 99999999999,pI 1 r1.1,pI 5 ((done.length+1:X):V),(77777,.ev .nw)],[],[(99999999999,4,Z (XT.row (N 5)) (done++⟨⟨k,zP .i64 (k+1),zP .i64 (zP .i64 (k+1)+1),r1.2⟩,t.b⟩::ts))]⟩→
    ∀{S:O Fr},S=sk I 19 hM 6→go I S (CD [4] (.int .i64 q.1) [(4,Z (XT.row (N 5)) (done++Dz (⟨k,zP .i64 (k+1),zP .i64 (zP .i64 (k+1)+1),r1.2⟩::q.2) (t::ts)))] [(0,0)]) .normal (N σ'):=fun{σ'} hs {S} hS=>by
   have:=ih (done:=done++ [⟨⟨k,zP .i64 (k+1),zP .i64 (zP .i64 (k+1)+1),r1.2⟩,t.b⟩]) hq ?_ ?_ (σ:=σ') ?_ hS
   ·simpa[Dz] using this
   ·have hl:=UU _ _ _ hr1;have hb:∀b,XT.tg ⟨⟨k,zP .i64 (k+1),zP .i64 (zP .i64 (k+1)+1),r1.2⟩,t.b⟩ b→t.tg b:=fun b h=>⟨fun e=>h.1 (List.length_eq_zero_iff.1 (by rw[hl,e]; rfl)),h.2⟩
    rw[List.append_assoc]
    exact zD.2 ⟨hu.1,zJ.2 ⟨fun s hs b h1 h2=>hd2 s hs b h2 (hb b h1),(zJ.1 hu.2.1).2⟩,fun s hs s' hs' b h1 h2=>by
     rcases zC.1 hs' with rfl|hs'
     ·exact hd1 s hs b h1 (hb b h2)
     ·exact hu.2.2 s hs s' (List.mem_cons_of_mem _ hs') b h1 h2⟩
   ·simpa using hlen
   ·simpa using hs
  cases hp:t.o.Passages with
  | nil=>
   rw[hp] at hr1
   have e1:∀x,H3 [] x=N (x,[]):=fun x=>by kernel_rfl
   rw[e1] at hr1
   cases hr1;refine AT A7n Y (B1 Y) Y (uf Y) ?_;refine Al ?_;exact hfin DW kr
  | cons p ps=>
   rw[hp] at hr1
   have hl:=UU _ _ _ hr1;have htb:t.tg t.b:=⟨by rw[hp]; simp,rfl⟩;refine ta (j:=77777) (b:=t.b) (A7e _ _ _ hr1) (by simpa using hl) LW LW Y Y Y (fun c hu d e=> ?_) (fun id s es hf r hr d hd=> ?_) (τ:=⟨[(0,vc (.own 99999999999)),(1,vc (aI (zP .i64 (zP .i64 (zP .i64 (k+1)+1)+1)))),(5,vc (aI (done.length:V))),(37,vc (.dat (.slb t.b (N 5) (Z X1.row r1.2)))),(38,vc (aI (zP .i64 (zP .i64 (zP .i64 (k+1)+1)+1)))),(77777,.ev .nw)],[],[(99999999999,4,Z (XT.row (N 5)) (done++⟨⟨k,zP .i64 (k+1),zP .i64 (zP .i64 (k+1)+1),r1.2⟩,t.b⟩::ts))]⟩) ?_ ?_
   ·subst e;have:=eV hu;simp only[List.flatMap_cons,List.flatMap_nil,AV.cells,V1.cells,zL,List.cons_append,zM,zC,zF,or_false,reduceCtorEq,false_or,AC.dat.injEq] at this
    rcases this with rfl|rfl|rfl|rfl
    ·exact⟨.flat Y,fun k es e=>by cases e⟩
    ·exact⟨.flat Y,fun k es e=>by cases e⟩
    ·exact⟨.slb (LW (ps:=p::ps)),fun k es e=>by cases e; exact⟨Y,Y⟩⟩
    ·exact⟨.flat Y,fun k es e=>by cases e⟩
   ·simp only[A1] at hf
    by_cases hid:99999999999=id
    ·subst hid;simp only[beq_self_eq_true,cond_true,Option.some.injEq,Prod.mk.injEq] at hf
     obtain⟨rfl,rfl⟩:=hf;obtain⟨s,hs,rfl⟩:=zE.1 hr;refine A0p (fun hsb=> ?_) d hd;rcases zN.1 hs with hs|hs
     ·exact absurd htb (hd1 s hs _ hsb)
     ·rcases zC.1 hs with rfl|hs
      ·rfl
      ·exact absurd htb (hd2 s hs _ hsb)
    ·have:(99999999999==id)=L:=by simpa using hid
     rw[this] at hf
     cases hf
   ·have e2:=A5t (o:=⟨k,zP .i64 (k+1),zP .i64 (zP .i64 (k+1)+1),p::ps⟩) (ps:=r1.2) (b:=t.b) (by simp) hl;simp only[St.updT,St.map,zA,zG,AV.map,V1.map,AC.mapD,D.upd,D.tagW,beq_self_eq_true,cond_true,List.map_append,eU fun s hs h=>hd1 s hs _ h htb,eU fun s hs h=>hd2 s hs _ h htb,e2]
   ·refine Al ?_;exact hfin DW kr
theorem qd:AE I 19=N ((Bp I 19 hM).strip,[4],41):=by kernel_rfl
theorem V8:∀{ts:O XT} {k:V} {r:V × O X0},FN (ts.map XT.o) k=N r→r.2.length=ts.length∧∀t∈Dz r.2 ts,∀b,t.tg b→∃s∈ts,s.tg b
 | [],k,r,h=>by cases h; exact⟨rfl,fun t ht=>by simp[Dz] at ht⟩
 | s::ts,k,r,h=>by
  rw[zA,FN] at h;obtain⟨r1,hr1,h⟩:=ob h;obtain⟨q,hq,h⟩:=ob h;cases h;obtain⟨h1,h2⟩:=V8 hq;have hl:=UU _ _ _ hr1;refine⟨by simp[h1],fun t ht b hb=> ?_⟩;rcases zC.1 ht with rfl|ht
  ·exact⟨s,List.mem_cons_self,fun e=>hb.1 (List.length_eq_zero_iff.1 (by rw[hl,e]; rfl)),hb.2⟩
  ·obtain⟨s',hs',h3⟩:=h2 t ht b hb;exact⟨s',List.mem_cons_of_mem _ hs',h3⟩
theorem cf:∀{os:O X0} {ts:O XT},os.length=ts.length→(Dz os ts).map XT.o=os
 | [],[],_=>rfl
 | o::os,t::ts,h=>by simpa[Dz] using cf (os:=os) (ts:=ts) (by simpa using h)
theorem A11{os:O X0}{ts:O XT}(h:os.length=ts.length):(Dz os ts).length=ts.length:=by simp[Dz,h]
theorem A8x{ts:O XT}{k:V}{r:V × O X0}(h:FN (ts.map XT.o) k=N r)(hap:Fl ts)(hlen:ts.length≤maxLen):FCm I 19 (.int .i64 k) 4 (Z (XT.row (N 5)) ts) (Z (XT.row (N 5)) (Dz r.2 ts)) (.int .i64 r.1):=by
 refine gU (p:=(0,0)) A2 qd Y Y Y Qn (fun b hb=> ?_) Y ?_
 ·obtain⟨t,ht,hb⟩:=E0.1 hb;obtain⟨s,hs,h3⟩:=(V8 h).2 t ht b hb;exact E0.2 ⟨s,hs,h3⟩
 refine Bt hM ?_;intro S hS;refine ev hS ?_;unfold St.initM;refine Al ?_;refine B45 (done:= []) h (by simpa using hap) (by simpa using hlen) ?_ (by kernel_rfl);try simp only[A,B,C,E,F,J,Ax,pL,aM,zG,List.length_nil,zM]
 try rfl
theorem dv:∀{bs:O X} {os:O X0},bs.length=os.length→∃us:O XT,us.map XT.o=os∧I1 none bs (Z X0.row os)=Z (XT.row none) us
 | [],[],_=>⟨[],rfl,rfl⟩
 | b::bs,o::os,h=>by
  obtain⟨us,h1,h2⟩:=dv (bs:=bs) (os:=os) (by simpa using h);refine⟨⟨o,b⟩::us,by simp[h1],?_⟩;simp only[I1,zA,List.zipWith_cons_cons] at h2 ⊢
  rw[h2];rfl
theorem A0w{os:O X0}:∀r∈Z X0.row os,Kr r:=fun r hr=>by
 obtain⟨o,_,rfl⟩:=zE.1 hr;refine⟨[.int .i64 o.Start,.int .i64 o.Arrival,.int .i64 o.Cost],_,[],Y,fun d hd=> ?_,fun d hd=>by cases hd⟩;simp only[zC,zF,or_false] at hd
 rcases hd with rfl|rfl|rfl<;>rfl
def KM(a0:O (O XT))(a1:O V):X→V→(O XT)→U (O XT)
| 0,_,_=>none
| n+1,v1,v2=>
 if(decide (v1<(a1.length:V))) then(
 (ix a1 v1).bind fun x4=>
 (ix a0 v1).bind fun x5=>
 (ix x5 x4).bind fun x6=>
 if Ad v2.length ([x6]:O XT).length 48 then(
  KM a0 a1 n (zP .i64 (v1+(1:V))) (v2++([x6]:O XT)))
 else none)
 else(
 N v2)
def TS(a0:O (O XT))(a1:O V):U (O XT):= KM a0 a1 bigN (0:V) ([]:O XT)
def gF:Hw:=([(8,[0,5,9,10,11],[],[512])],[])
def gg:=fun a0 a1 (k_:V→(O XT)→U (O XT))=>∀{v1 v2} {zr},k_ v1 v2=N zr→Kh I 41 gF 8 [0,5,9,10,11] [] [512] ⟨[pL 0 (rL (XT.row (N 5))) a0,pW 5 512,pL 9 rI a1,pI 10 (a1.length:V),pI 11 v1],[],[(512,4,Z (XT.row (N 5)) v2)]⟩ (A5 [4] [.sc (.o 4 (Z (XT.row (N 5)) zr))])
theorem B43{a0 a1}{n:X}:gg a0 a1 (KM a0 a1 n):=by
 induction n with
 | zero=>intro _ _ r h; cases h
 | succ n ih=>
  intro v1 v2 r h σ hσ S hS;refine ev hS ?_;rw[KM] at h;refine AB (As ?_);obtain⟨h3,h⟩|⟨h3,h⟩:=ic h
  ·obtain⟨x4,h4,h⟩:=ob h;obtain⟨x5,h5,h⟩:=ob h;obtain⟨x6,h6,h⟩:=ob h;refine Al ?_;refine Bc (es:=Z (XT.row (N 5)) ([x6]:O XT)) ?_;obtain⟨h7,h⟩:=B2 h;refine Al ?_;exact ih h DW kr
  ·refine Al ?_;cases h;exact t0
theorem A59{a0}{a1}{r}(h:TS a0 a1=N r):FC I 41 [.sc (.sl (Z (rL (XT.row (N 5))) a0)),.sc (.sl (Z rI a1))] [.sc (.o 4 (Z (XT.row (N 5)) r))]:=by
 unfold TS at h;refine A3 A2 gF [4] 28 ?_;intro S hS;refine ev hS ?_;refine Al ?_;refine Bc (es:=Z (XT.row (N 5)) ([]:O XT)) ?_;refine Al ?_;exact B43 h DW kr
theorem A45{tss:O (O XT)}{b:X}:BS b (Z (rL (XT.row (N 5))) tss)↔∃ts∈tss,∃t∈ts,t.tg b:=by
 refine⟨fun⟨r,hr,d,hd,h⟩=> ?_,fun⟨ts,h1,t,h2,h3⟩=>⟨_,zE.2 ⟨ts,h1,Y⟩,.sl (Z (XT.row (N 5)) ts),zB.2 Y,?_⟩⟩
 ·obtain⟨ts,hts,rfl⟩:=zE.1 hr;obtain rfl:=zB.1 hd;cases h with | sl a c e=>exact⟨ts,hts,E0.1 ⟨_,a,_,c,e⟩⟩
 ·obtain⟨r,hr,d,hd,h⟩:=E0 (k:=some 5).2 ⟨t,h2,h3⟩;exact .sl hr hd h
theorem XT.unss:∀{tss:O (O XT)},UnRows (Z (rL (XT.row (N 5))) tss) (Z (rL X0.row) (tss.map (Z XT.o)))
 | []=> .nil
 | _::_=> .cons (.cons (.sl XT.uns) .nil) XT.unss
theorem bL{α β:Type}{f:α→β}{l:O α}{i:V}:ix (l.map f) i=(ix l i).map f:=by unfold ix; split<;>simp
theorem UO{α:Type}{l:O α}{i:V}{x:α}(h:ix l i=N x):∃j:X,i=j∧l[j]?=N x:=by
 unfold ix at h;split at h
 ·exact⟨i.toNat,by omega,h⟩
 ·cases h
def Wt(tss:O (O XT)):Prop:=(∀ts∈tss,Fl ts)∧tss.Pairwise fun l m=>∀s∈l,∀t∈m,∀b,s.tg b→¬t.tg b
theorem Y7{tss:O (O XT)}{ch:O V}(hap:Wt tss):∀(n:X) (v:V) (acc:O XT) (r:O X0),0≤v→v≤9223372036854775807→DF (tss.map (Z XT.o)) ch n v (acc.map XT.o)=N r→Fl acc→(∀s∈acc,∃(j:X) (l:O XT),(j:V)<v∧tss[j]?=N l∧s∈l)→
  ∃ts,KM tss ch n v acc=N ts∧ts.map XT.o=r∧Fl ts
 | 0,_,_,_,_,_,h,_,_=>by cases h
 | n+1,v,acc,r,hv,hv2,h,ha,hj=>by
  rw[DF] at h;rw[KM];by_cases hlt:v<(ch.length:V)
  ·simp only[hlt,decide_true,if_true] at h ⊢
   obtain⟨x4,h4,h⟩:=ob h;obtain⟨x5,h5,h⟩:=ob h;obtain⟨x6,h6,h⟩:=ob h;rw[bL,Option.map_eq_some_iff] at h5
   obtain⟨l,h5,rfl⟩:=h5;rw[bL,Option.map_eq_some_iff] at h6
   obtain⟨t,h6,rfl⟩:=h6;obtain⟨hg,h⟩:=B2 h;have hg:Ad acc.length ([t]:O XT).length 48=T:=by simpa using hg
   simp only[h4,h5,h6,Option.bind_some,hg,if_true];obtain⟨j,rfl,hjl⟩:=UO h5;obtain⟨q,_,hq⟩:=UO h6;have htl:t∈l:=List.mem_of_getElem? hq
   have hap':Fl (acc++ [t]):=zD.2 ⟨ha,zI _ _,fun s hs t' ht' b hb hb'=>by
    rw[zB.1 ht'] at hb'
    obtain⟨j',l',hlt',hl',hs'⟩:=hj s hs;have hp:=List.pairwise_iff_getElem.1 hap.2;obtain⟨g1,g2⟩:=zK.1 hl';obtain⟨g3,g4⟩:=zK.1 hjl;exact hp j' j g1 g3 (by omega) s (g2▸hs') t (g4▸htl) b hb hb'⟩
   by_cases hw:(j:V)+1≤9223372036854775807
   ·rw[Aj (by omega) hw] at h ⊢
    refine Y7 hap n _ (acc++ [t]) r (by omega) hw (by simpa using h) hap' fun s hs=> ?_
    rcases zN.1 hs with hs|hs
    ·obtain⟨j',l',h1,h2⟩:=hj s hs;exact⟨j',l',by omega,h2⟩
    ·rw[zB.1 hs];exact⟨j,l,by omega,hjl,htl⟩
   ·exfalso
    have e:(j:V)+1=9223372036854775808:=by omega
    rw[e,show zP .i64 9223372036854775808= -9223372036854775808 by decide +kernel] at h;cases n with
    | zero=>cases h
    | succ n=>
     rw[DF,if_pos (by rw[decide_eq_true_eq]; omega)] at h;simp[ix] at h
  ·simp only[hlt,decide_false,Bool.false_eq_true,if_false] at h ⊢
   cases h;exact⟨acc,Y,Y,ha⟩
def HD(h:X6)(c:Xc)(l:O X7)(r:O X0):Prop:=∀r5,GN h.Chart l=N T→DE h c=N r5→∃p:X0→W,r=r5.filter (fun o=> !p o)∧∀ts:O XT,ts.map XT.o=r5→KK ts (fun t=>KV t.o l)=N (ts.filter fun t=> !p t.o)
def Xy(q:O X0 × W)(rs:O R1):Prop:=∃ts:O XT,rs= [.sc (.o 4 (Z (XT.row (N 5)) ts)),.sc (.v (.bool q.2))]∧ts.map XT.o=q.1∧Fl ts
abbrev hC:Hw:=([(16,[2,3,8,26,27,28],[3],[1600])],[(27,5,(none,.frz 2304)),(40,2,(none,.frz 1600)),(40,3,(none,.frz 2752))])
theorem xCl{a2:O X7}{a1:O Xc}{a0:X6}(hd:∀c∈a1,∀g,CX a0 c a2=N g→HD a0 c a2 g){n:X}:∀{v6:V} {tss:O (O XT)} {zr:O X0 × W},Wt tss→In a2 a1 a0 n v6 (tss.map (Z XT.o))=N zr→
  Kh I 11 hC 16 [2,3,8,26,27,28] [3] [1600] ⟨[(2,vc (.old (.sl (Z X7.row a2)))),pB 3,pW 8 1600,(26,vc (.old (.sl (Z zH a1)))),pI 27 (a1.length:V),pI 28 v6],[(3,[aI a0.Forecast.Tide.Mean,.old (.sl (Z Xd.row a0.Forecast.Tide.Parts)),.old (.sl (Z Xa.row a0.Forecast.Surges)),.old (.sl (Z X8.row a0.Chart.Points)),.old (.sl (Z X2.row a0.Chart.Segments)),.old (.sl (Z X4.row a0.Fleet)),aI a0.Regime.Gap,aB a0.Regime.NoMeet,aI a0.Crew.Tugs,aI a0.Crew.Pilots,aI a0.Crew.Rest,.old (.sl (Z rI a0.Crew.Moves))])],[(1600,1,Z (rL (XT.row (N 5))) tss)]⟩ (MF [6,7] (Xy zr)):=by
 induction n with
 | zero=>intro _ _ _ _ h; cases h
 | succ n ih=>
  intro v6 tss zr hap h σ hσ S hS;refine ev hS ?_;rw[In,List.length_map] at h;refine AB (As ?_);obtain⟨hb8,h⟩|⟨hb8,h⟩:=ic h
  ·obtain⟨x9,hx9,h⟩:=ob h;try simp only[hσ,hb8,hx9,A,B,C,E,F,J,Ax]
   refine Ku ?_;obtain⟨r10,hr10,h⟩:=ob h;try simp only[hb8,hx9,A,B,C,E,F,J,Ax]
   have hmem:x9∈a1:=by
    obtain⟨j,_,hj⟩:=UO hx9;exact List.mem_of_getElem? hj
   refine Pd (A8y hr10 (hd x9 hmem r10 hr10)) (ds':= [.ag (X6.row a0),.ag (zH x9),.sc (.sl (Z X7.row a2))]) (by first | rfl | kernel_rfl) .refl rfl (fun rs ⟨_,e,_⟩=>by subst e; exact uf rfl) ?_;rintro rs ⟨ts,rfl,rfl,hts⟩ hN
   have hnew:∀l∈tss,∀s∈l,∀t∈ts,∀b,s.tg b→¬t.tg b:=fun l hl s hs t ht b h1 h2=>Nat.lt_irrefl b (hN b b (St.tg_own (k:=8) rfl rfl (A45.2 ⟨l,hl,s,hs,h1⟩)) ⟨.o 4 (Z (XT.row (N 5)) ts),by simp[R1.cells],E0.2 ⟨t,ht,h2⟩⟩)
   clear hN
   try simp only[hb8,hx9,A,B,C,E,F,J,Ax]
   refine El ?_;try simp only[hb8,hx9,A,B,C,E,F,J,Ax]
   refine Bc (es:=Z (rL (XT.row (N 5))) ([ts]:O (O XT))) ?_;obtain⟨hg11,h⟩:=B2 h;have hg11:Ad tss.length ([ts]:O (O XT)).length 24=T:=hg11;try simp only[hb8,hx9,hg11,A,B,C,E,F,J,Ax]
   refine ih (tss:=tss++ [ts]) ⟨fun l hl=> ?_,zD.2 ⟨hap.2,zI _ _,fun l hl m hm=> ?_⟩⟩ (by simpa using h) ?_ (by kernel_rfl)
   ·rcases zN.1 hl with hl|hl
    ·exact hap.1 l hl
    ·rw[zB.1 hl]; exact hts
   ·rw[zB.1 hm];exact hnew l hl
   try simp only[hb8,hx9,hg11,A,B,C,E,F,J,Ax,pL,aM,zG]
  ·obtain⟨r12,hr12,h⟩:=ob h;try simp only[hσ,hb8,A,B,C,E,F,J,Ax]
   refine AT ((A6w 40 [] (by kernel_rfl) (fun z0 zr zh=>A6l zh) hr12).un (.cons .refl (.cons (.sc (.sl XT.unss)) .refl))) Y (BD Y ⟨AN,Y,Y,Y,⟨⟩⟩) Y (uf Y) ?_;try simp only[hb8,A,B,C,E,F,J,Ax]
   refine Ku ?_;obtain⟨hb13,h⟩|⟨hb13,h⟩:=ic h
   ·try simp only[hb8,hb13,A,B,C,E,F,J,Ax]
    refine El ?_;try simp only[hb8,hb13,A,B,C,E,F,J,Ax]
    refine El ?_;obtain⟨r14,hr14,h⟩:=ob h;obtain⟨ts,hts,e14,hats⟩:=Y7 hap bigN 0 [] r14 (by omega) (by omega) hr14 .nil (fun s hs=>by cases hs);have hts:TS tss r12.1=N ts:=hts;try simp only[hb8,hb13,A,B,C,E,F,J,Ax]
    refine AF (A59 hts) ?_;try simp only[hb8,hb13,A,B,C,E,F,J,Ax]
    cases h;exact⟨_,⟨ts,Y,e14,hats⟩,⟨Y,Y,⟨⟩⟩,Y⟩
   ·try simp only[hb8,hb13,A,B,C,E,F,J,Ax]
    cases h;exact⟨_,⟨[],Y,Y,.nil⟩,⟨Y,Y,⟨⟩⟩,Y⟩
theorem qb:AE I 11=N ((Bp I 11 hC).strip,[6,7],52):=by kernel_rfl
theorem fJ{a0:X6}{a1:O Xc}{a2:O X7}{r:O X0 × W}(h:Ea a0 a1 a2=N r)(hd:∀c∈a1,∀g,CX a0 c a2=N g→HD a0 c a2 g) :
  FCs I 11 [.ag (X6.row a0),.sc (.sl (Z zH a1)),.sc (.sl (Z X7.row a2))] (Xy r):=by
 unfold Ea at h;refine T6 (σ:=⟨[(0,va [aI a0.Forecast.Tide.Mean,.old (.sl (Z Xd.row a0.Forecast.Tide.Parts)),.old (.sl (Z Xa.row a0.Forecast.Surges)),.old (.sl (Z X8.row a0.Chart.Points)),.old (.sl (Z X2.row a0.Chart.Segments)),.old (.sl (Z X4.row a0.Fleet)),aI a0.Regime.Gap,aB a0.Regime.NoMeet,aI a0.Crew.Tugs,aI a0.Crew.Pilots,aI a0.Crew.Rest,.old (.sl (Z rI a0.Crew.Moves))]),(1,vc (.old (.sl (Z zH a1)))),(2,vc (.old (.sl (Z X7.row a2))))],[],[]⟩) A2 qb Y Y ?_;refine Bt hC ?_;intro S hS;refine ev hS ?_;obtain⟨r1,h1,h⟩:=ob h;refine Al ?_;refine AT (Ab A6b h1) Y (B1 Y) Y (uf Y) ?_;obtain⟨h2,h⟩|⟨h2,h⟩:=ic h
 ·obtain⟨r3,h3,h⟩:=ob h;refine Al ?_;refine AT (Ab W9 h3) Y (B1 Y) Y (uf Y) ?_;unfold MZ at h;obtain⟨h5,h⟩|⟨h5,h⟩:=ic h
  ·refine Al ?_;cases h;exact⟨_,⟨[],Y,Y,.nil⟩,⟨Y,Y,⟨⟩⟩,Y⟩
  ·refine Al ?_;refine Bc (es:=Z (rL (XT.row (N 5))) ([]:O (O XT))) ?_;refine Al ?_;exact xCl hd (tss:= []) ⟨fun l hl=>(by cases hl),.nil⟩ h DW kr
 ·unfold MZ at h;refine Al ?_;cases h;exact⟨_,⟨[],Y,Y,.nil⟩,⟨Y,Y,⟨⟩⟩,Y⟩
def QZ(a0:X6)(a1:O Xc)(a2:O X7):U W:=
 (J9 a0 1048576).bind fun s1=>if decide (s1<0) then N T else
 (J7 a1 s1).bind fun s2=>if decide (s2<0) then N T else
 (J8 a2 s2).bind fun s3=>if decide (s3<0) then N T else
 (EO a0).bind fun h1=>(EM a1).bind fun c1=>(EN a2).bind fun l1=>
 (H7 h1 c1 l1).bind fun w0=>
 (EO a0).bind fun x0=>(EM a1).bind fun x1=>(EN a2).bind fun x2=>
 (Ea x0 x1 x2).bind fun g0=>
 (H2 g0.1 w0.1).bind fun b1=>if b1 then if !(g0.2==w0.2) then N L else
  (EO a0).bind fun h2=>(NL x0 h2).bind fun b2=>if b2 then
   (EM a1).bind fun c2=>(NH x1 c2).bind fun b3=>if b3 then
    (EN a2).bind fun l2=>(Lb x2 l2).bind fun b4=>if b4 then
     (J5 x0 1).bind fun k1=>(Ld x1 k1.1).bind fun k2=>(Lf x2 k2.1).bind fun k3=>
     if decide (k3.1<0) then N L else
     (H2 g0.1 w0.1).bind fun b5=>if b5 then if !(g0.2==w0.2) then N L else
      (FN g0.1 1).bind fun m=>(Lc m.2 1).bind fun q1=>
      if decide (q1<0) then N L else if q1 !=m.1 then N L else
      (EO a0).bind fun h3=>(EM a1).bind fun c3=>(EN a2).bind fun l3=>
      (Ea h3 c3 l3).bind fun g1=>
      (H2 g1.1 w0.1).bind fun b6=>if b6 then if !(g1.2==w0.2) then N L else
       (Lc m.2 1).bind fun q2=>if decide (q2<0) then N L else if q2 !=m.1 then N L else N T
      else N L
     else N L
    else N L
   else N L
  else N L
 else N L
theorem tb{P:Program}{k:O Fr}{Q:Xl→St→Prop}{σ σ':St}{its:O AItem}{d f:X}{args:O Opd}{l:O AV}{r:AV}(hf:CallC P f l σ σ' r)(ha:args.map σ.val=l)(h:go P (.ops its::k) Q .normal (N (σ'.set d r))):go P (.ops ((none,.call d f args)::its)::k) Q .normal (N σ):=LZ (by rw[ha]; exact hf) h
abbrev YP:Hw:=([],[(95,2,(none,.keep [1,2,3,8,9,13,14,16,104,105] [3] [2688,3520]))])
theorem qc:AE I 3=N ((Bp I 3 YP).strip,[6],142):=by kernel_rfl
theorem w_laws_FnExactClosedPlan(a0:X6)(a1:O Xc)(a2:O X7)(r:W)(h:QZ a0 a1 a2=N r∧∀s1 s2 s3,J9 a0 1048576=N s1→decide (s1<0)=L→J7 a1 s1=N s2→decide (s2<0)=L→J8 a2 s2=N s3→decide (s3<0)=L→
   ∀h c l,EO a0=N h→EM a1=N c→EN a2=N l→(∀x∈c,∀g,CX h x l=N g→HD h x l g)∧∀g,Ea h c l=N g→g.1.length≤maxLen) :
  FC I 3 [.ag (X6.row a0),.sc (.sl (Z zH a1)),.sc (.sl (Z X7.row a2))] [.sc (.v (.bool r))]:=by
 obtain⟨h,hd⟩:=h;unfold QZ at h;refine FCf.fc (gR (σ:=⟨[(0,va [aI a0.Forecast.Tide.Mean,.old (.sl (Z Xd.row a0.Forecast.Tide.Parts)),.old (.sl (Z Xa.row a0.Forecast.Surges)),.old (.sl (Z X8.row a0.Chart.Points)),.old (.sl (Z X2.row a0.Chart.Segments)),.old (.sl (Z X4.row a0.Fleet)),aI a0.Regime.Gap,aB a0.Regime.NoMeet,aI a0.Crew.Tugs,aI a0.Crew.Pilots,aI a0.Crew.Rest,.old (.sl (Z rI a0.Crew.Moves))]),(1,vc (.old (.sl (Z zH a1)))),(2,vc (.old (.sl (Z X7.row a2))))],[],[]⟩) A2 qc Y Y ?_);refine Bt YP ?_;intro S hS;refine ev hS ?_;obtain⟨s1,hs1,h⟩:=ob h;refine Al ?_;refine AT (A7m hs1) Y (B1 Y) Y (uf Y) ?_;obtain⟨hb1,h⟩|⟨hb1,h⟩:=ic h
 ·refine Al ?_;cases h;exact t0
 obtain⟨s2,hs2,h⟩:=ob h;refine Al ?_;refine AT (A7k hs2) Y (B1 Y) Y (uf Y) ?_;obtain⟨hb2,h⟩|⟨hb2,h⟩:=ic h
 ·refine Al ?_;cases h;exact t0
 obtain⟨s3,hs3,h⟩:=ob h;refine Al ?_;refine AT (A7l hs3) Y (B1 Y) Y (uf Y) ?_;obtain⟨hb3,h⟩|⟨hb3,h⟩:=ic h
 ·refine Al ?_;cases h;exact t0
 have hd:=hd s1 s2 s3 hs1 hb1 hs2 hb2 hs3 hb3;obtain⟨h1,hh1,h⟩:=ob h;obtain⟨c1,hc1,h⟩:=ob h;obtain⟨l1,hl1,h⟩:=ob h;obtain⟨w0,hw0,h⟩:=ob h;refine Al ?_;refine U3 (FCf.asV (rs':= [.ag ((X6.row h1).map .v)]) ((SX hh1).newf (BD Y ⟨Y,AN,AN,AN,AN,AN,Y,Y,Y,Y,Y,AN,⟨⟩⟩)) Y) Y Y (uf Y) ?_;try simp only[zA,zG,A,B,C,E,F,J,Ax]
 refine U3 (FCf.asV (rs':= [.sc (.v (.sl (Z zH c1)))]) ((SV hc1).newf (BD Y ⟨AN,⟨⟩⟩)) Y) Y Y (uf Y) ?_;refine Al ?_;refine U3 (FCf.asV (rs':= [.sc (.v (.sl (Z X7.row l1)))]) ((SW hl1).newf (BD Y ⟨AN,⟨⟩⟩)) Y) Y Y (uf Y) ?_;refine Al ?_;refine tc (ds:= [.ag (X6.row h1),.sc (.sl (Z zH c1)),.sc (.sl (Z X7.row l1))]) (FC.stamp (A7z hw0) A0w) rfl rfl (fun rs ⟨_,_,e⟩=>by subst e; exact uf rfl) ?_;rintro rs ⟨bs,hbl,rfl⟩
 obtain⟨us,eu,eus⟩:=dv (os:=w0.1) (by simpa using hbl);rw[eus];obtain⟨x0,hx0,h⟩:=ob h;refine Al ?_;refine AT (SX hx0) Y (BD Y ⟨Y,AN,AN,AN,AN,AN,Y,Y,Y,Y,Y,AN,⟨⟩⟩) Y (uf Y) ?_;obtain⟨x1,hx1,h⟩:=ob h;refine Al ?_;refine AT (SV hx1) Y (BD Y ⟨AN,⟨⟩⟩) Y (uf Y) ?_;obtain⟨x2,hx2,h⟩:=ob h;refine Al ?_;refine AT (SW hx2) Y (BD Y ⟨AN,⟨⟩⟩) Y (uf Y) ?_;obtain⟨g0,hg0,h⟩:=ob h;refine Al ?_;have hdg:=hd _ _ _ hx0 hx1 hx2;refine Pd (fJ hg0 hdg.1) (ds':= [.ag (X6.row x0),.sc (.sl (Z zH x1)),.sc (.sl (Z X7.row x2))]) (by first | rfl | kernel_rfl) .refl rfl (fun rs ⟨_,e,_⟩=>by subst e; exact uf rfl) ?_;rintro rs ⟨ts,rfl,et,hap⟩ hN
 have hsep:∀b,(∃u∈us,u.tg b)→¬∃t∈ts,t.tg b:=fun b h1 h2=>Nat.lt_irrefl b (hN b b (St.tg_own (k:=8) rfl rfl (E0.2 h1)) ⟨.o 4 (Z (XT.row (N 5)) ts),by simp[R1.cells],E0.2 h2⟩)
 clear hN
 rw[← et,← eu] at h;obtain⟨b1,hq1,h⟩:=ob h;refine Al ?_;refine AT ((Wa hq1).un (.cons (.sc (.sl XT.uns)) (.cons (.sc (.sl XT.uns)) .nil))) Y (B1 Y) Y (uf Y) ?_;obtain⟨f1,h⟩|⟨f1,h⟩:=ic h
 rotate_left
 ·try simp only[f1,A,B,C,E,F,J,Ax]
  cases h;exact t0
 try simp only[f1,A,B,C,E,F,J,Ax]
 obtain⟨f1a,h⟩|⟨f1a,h⟩:=ic h
 ·try simp only[f1a,A,B,C,E,F,J,Ax]
  cases h;exact t0
 obtain⟨h2,EV,h⟩:=ob h;try simp only[f1a,A,B,C,E,F,J,Ax]
 refine Al ?_;refine U5 (SX EV) (by first | rfl | kernel_rfl) (BD Y ⟨Y,AN,AN,AN,AN,AN,Y,Y,Y,Y,Y,AN,⟨⟩⟩) Y (uf Y) ?_;obtain⟨b2,hq2,h⟩:=ob h;refine Al ?_;refine AT (A65 hq2) Y (B1 Y) Y (uf Y) ?_;refine Al ?_;obtain⟨f2,h⟩|⟨f2,h⟩:=ic h
 rotate_left
 ·try simp only[f2,A,B,C,E,F,J,Ax]
  cases h;exact t0
 obtain⟨c2,hc2,h⟩:=ob h;try simp only[f2,A,B,C,E,F,J,Ax]
 refine AT (SV hc2) Y (BD Y ⟨AN,⟨⟩⟩) Y (uf Y) ?_;obtain⟨b3,hq3,h⟩:=ob h;refine Al ?_;refine AT (A63 hq3) Y (B1 Y) Y (uf Y) ?_;obtain⟨f3,h⟩|⟨f3,h⟩:=ic h
 rotate_left
 ·try simp only[f3,A,B,C,E,F,J,Ax]
  cases h;exact t0
 obtain⟨l2,hl2,h⟩:=ob h;try simp only[f3,A,B,C,E,F,J,Ax]
 refine AT (SW hl2) Y (BD Y ⟨AN,⟨⟩⟩) Y (uf Y) ?_;obtain⟨b4,hq4,h⟩:=ob h;refine Al ?_;refine AT (A64 hq4) Y (B1 Y) Y (uf Y) ?_;obtain⟨f4,h⟩|⟨f4,h⟩:=ic h
 rotate_left
 ·try simp only[f4,A,B,C,E,F,J,Ax]
  cases h;exact t0
 obtain⟨k1,hk1,h⟩:=ob h;try simp only[f4,A,B,C,E,F,J,Ax]
 refine Dr (ids:= [2945,2946,2947,2948,2949,2955]) (A7b hk1) Y Y Y (AS (AS (AS (AS (AS (AS Bw)))))) (Cd (Mb hk1).1 (Cd (Mb hk1).2.1 (Cd (Mb hk1).2.2.1 (Cd (Mb hk1).2.2.2.1 (Cd (Mb hk1).2.2.2.2.1 (Cd (Mb hk1).2.2.2.2.2 DA)))))) ?_;obtain⟨k2,hk2,h⟩:=ob h;refine Al ?_;refine Dr (ids:= [3072]) (A66 _ _ _ hk2) Y Y Y (AS Bw) (Cd (xb _ _ _ hk2) DA) ?_;obtain⟨k3,hk3,h⟩:=ob h;refine Al ?_;refine Dr (ids:= [3200]) (A68 _ _ _ hk3) Y Y Y (AS Bw) (Cd (xd _ _ _ hk3) DA) ?_;obtain⟨f5,h⟩|⟨f5,h⟩:=ic h
 ·try simp only[f5,A,B,C,E,F,J,Ax]
  cases h;exact t0
 obtain⟨b5,hq5,h⟩:=ob h;try simp only[f5,A,B,C,E,F,J,Ax]
 refine AT ((Wa hq5).un (.cons (.sc (.sl XT.uns)) (.cons (.sc (.sl XT.uns)) .nil))) Y (B1 Y) Y (uf Y) ?_;obtain⟨f6,h⟩|⟨f6,h⟩:=ic h
 rotate_left
 ·try simp only[f6,A,B,C,E,F,J,Ax]
  cases h;exact t0
 try simp only[f6,A,B,C,E,F,J,Ax]
 obtain⟨f6a,h⟩|⟨f6a,h⟩:=ic h
 ·try simp only[f6a,A,B,C,E,F,J,Ax]
  cases h;exact t0
 obtain⟨m,hm,h⟩:=ob h;try simp only[f6a,A,B,C,E,F,J,Ax]
 have hml:=(V8 hm).1;have hun:UnRows (Z (XT.row (N 5)) (Dz m.2 ts)) (Z X0.row m.2):=by have:=XT.uns (k:=some 5) (ts:=Dz m.2 ts); rwa [cf hml] at this
 refine tb (FCm.callC (A8x hm hap (by have:=hdg.2 _ hg0; rw[← et] at this; simpa using this)) (by simp[A11 hml]) Y Qn Y (fun R=>R.isNewB (id:=3) Y Y) (fun c hu=> ?_)) Y ?_
 ·have:=eV hu;simp only[List.flatMap_cons,List.flatMap_nil,AV.cells,V1.cells,zL,List.cons_append,zM,zC,zF,or_false] at this
  repeat' (rcases this with rfl | this)
  all_goals first | exact trivial | exact .inl rfl | exact⟨.flat rfl,fun b hb=>by cases hb⟩ | exact .inr fun s es hf=>by cases hf; exact⟨Qn,fun b h1 h2=>hsep b (E0.1 h1) (E0.1 h2)⟩ | (subst this; exact⟨.flat rfl,fun b hb=>by cases hb⟩) | (subst this; exact trivial)
 obtain⟨q1,hh1',h⟩:=ob h;refine Al ?_;refine AT ((en _ _ _ hh1').un (.cons (.sc (.sl hun)) (.cons (.sc .same) .nil))) Y (B1 Y) Y (uf Y) ?_;obtain⟨f7,h⟩|⟨f7,h⟩:=ic h
 ·try simp only[f7,A,B,C,E,F,J,Ax]
  cases h;exact t0
 try simp only[f7,A,B,C,E,F,J,Ax]
 obtain⟨f8,h⟩|⟨f8,h⟩:=ic h
 ·try simp only[f8,A,B,C,E,F,J,Ax]
  cases h;exact t0
 obtain⟨h3,hh3,h⟩:=ob h;obtain⟨c3,hc3,h⟩:=ob h;obtain⟨l3,hl3,h⟩:=ob h;obtain⟨g1,hg1,h⟩:=ob h;try simp only[f8,A,B,C,E,F,J,Ax]
 refine AT (SX hh3) Y (BD Y ⟨Y,AN,AN,AN,AN,AN,Y,Y,Y,Y,Y,AN,⟨⟩⟩) Y (uf Y) ?_;refine Al ?_;refine AT (SV hc3) Y (BD Y ⟨AN,⟨⟩⟩) Y (uf Y) ?_;refine Al ?_;refine AT (SW hl3) Y (BD Y ⟨AN,⟨⟩⟩) Y (uf Y) ?_;refine Al ?_;refine Pd (fJ hg1 (hd _ _ _ hh3 hc3 hl3).1) (ds':= [.ag (X6.row h3),.sc (.sl (Z zH c3)),.sc (.sl (Z X7.row l3))]) (by first | rfl | kernel_rfl) .refl rfl (fun rs ⟨_,e,_⟩=>by subst e; exact uf rfl) ?_;rintro rs ⟨ts',rfl,et',_⟩ _
 rw[← et'] at h;obtain⟨b6,hq6,h⟩:=ob h;refine Al ?_;refine AT ((Wa hq6).un (.cons (.sc (.sl XT.uns)) (.cons (.sc (.sl XT.uns)) .nil))) Y (B1 Y) Y (uf Y) ?_;obtain⟨f9,h⟩|⟨f9,h⟩:=ic h
 rotate_left
 ·try simp only[f9,A,B,C,E,F,J,Ax]
  cases h;exact t0
 try simp only[f9,A,B,C,E,F,J,Ax]
 obtain⟨f9a,h⟩|⟨f9a,h⟩:=ic h
 ·try simp only[f9a,A,B,C,E,F,J,Ax]
  cases h;exact t0
 obtain⟨q2,hh2',h⟩:=ob h;try simp only[f9a,A,B,C,E,F,J,Ax]
 refine AT ((en _ _ _ hh2').un (.cons (.sc (.sl hun)) (.cons (.sc .same) .nil))) Y (B1 Y) Y (uf Y) ?_;obtain⟨f10,h⟩|⟨f10,h⟩:=ic h
 ·try simp only[f10,A,B,C,E,F,J,Ax]
  cases h;exact t0
 try simp only[f10,A,B,C,E,F,J,Ax]
 obtain⟨f11,h⟩|⟨f11,h⟩:=ic h
 ·try simp only[f11,A,B,C,E,F,J,Ax]
  cases h;exact t0
 ·try simp only[f11,A,B,C,E,F,J,Ax]
  cases h;exact t0
end Go.Vi
