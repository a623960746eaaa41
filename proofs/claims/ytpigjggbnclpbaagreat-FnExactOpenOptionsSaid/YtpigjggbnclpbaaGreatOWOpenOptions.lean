/-
Walks of functions whose results tell the blocks of what is . No condition.
-/
import Derived.Test.YtpigjggbnclpbaaGreatOWOpenOptionsc
import Derived.Test.YtpigjggbnclpbaaGreatOVi44
import Derived.KernelRfl
namespace Go.Vi
open Go.Proofs
set_option linter.all false
set_option maxRecDepth 4000
set_option maxHeartbeats 2000000
open Nat renaming reduceBEq → A, reduceMul → B, reduceAdd → C, reduceDiv → E, le_of_ble_eq_true → uf
open Int renaming reduceBEq → F
attribute [local irreducible] go AT H7
open List renaming map → Y, map_nil → I, map_cons → zA, mem_cons → zB, not_mem_nil → zC, mem_map → zD, pairwise_append → zE, pairwise_cons → zF, append_nil → zH, nil_append → zI, replicate → zJ
open Tryz renaming prog → Z
open Xe renaming row → zG
open IntKind renaming wrap → zK
open Bool renaming true → T, false → G
open Option renaming some → L
open _root_ renaming List → N, Option → O, Int → U, Bool → V, Nat → W, rfl → X
structure XT where
 o:X5
 b:W
def XT.row(k:O W)(t:XT):N D:= [.int .i64 t.o.Start,.int .i64 t.o.Arrival,.int .i64 t.o.Cost,D.tagW k t.b (.sl (Y X3.row t.o.Passages))]
instance {k:O W}:Row (XT.row k) 4:=⟨fun _=>rfl,uf rfl⟩
theorem XT.row_eq{k:O W}(t:XT):XT.row k t= [.int .i64 t.o.Start,.int .i64 t.o.Arrival,.int .i64 t.o.Cost,D.tagW k t.b (.sl (Y X3.row t.o.Passages))]:=rfl
def XT.tg(t:XT)(b:W):Prop:=t.o.Passages≠ []∧t.b=b
def LU(ts:N XT):Prop:=ts.Pairwise fun s t=>∀b,s.tg b→¬t.tg b
theorem Ve{k:O W}{b c:W}{es:N (N D)}(hf:∀r∈es,∀d∈r,d.flat=T):Tg c (D.tagW k b (.sl es))↔es≠ []∧b=c:=by
 cases es with
 | nil=>exact⟨fun h=>(by cases h; simp_all),fun h=>absurd rfl h.1⟩
 | cons e es=>exact⟨fun h=>(by cases h; exact⟨by simp,rfl⟩),fun h=>h.2▸Tg.here⟩
theorem Iq{ps:N X3}:∀r∈Y X3.row ps,∀d∈r,d.flat=T:=fun r hr d hd=>by
 obtain⟨x,_,rfl⟩:=zD.1 hr;exact FlatRow.flat x d hd
theorem XT.tg_row{k:O W}{t:XT}{b:W}:(∃d∈XT.row k t,Tg b d)↔t.tg b:=by
 have h:Tg b (D.tagW k t.b (.sl (Y X3.row t.o.Passages)))↔t.tg b:=by
  rw[Ve Iq];simp[XT.tg]
 refine⟨fun⟨d,hd,ht⟩=> ?_,fun ht=>⟨_,by simp[XT.row],h.2 ht⟩⟩;simp only[XT.row,zB,zC,or_false] at hd
 rcases hd with rfl|rfl|rfl|rfl
 ·cases ht
 ·cases ht
 ·cases ht
 ·exact h.1 ht
theorem EA{k:O W}{ts:N XT}{b:W}:BC b (Y (XT.row k) ts)↔∃t∈ts,t.tg b:=by
 refine⟨fun⟨r,hr,h⟩=> ?_,fun⟨t,ht,h⟩=>⟨_,zD.2 ⟨t,ht,X⟩,XT.tg_row.2 h⟩⟩;obtain⟨t,ht,rfl⟩:=zD.1 hr;exact⟨t,ht,XT.tg_row.1 h⟩
def O5(os:N X5)(rs:N R1):Prop:=∃ts:N XT,rs= [.sc (.o 4 (Y (XT.row (L 5)) ts))]∧ts.map XT.o=os∧LU ts
theorem XT.un{k:O W}{t:XT}:Uns (XT.row k t) (X5.row t.o):=by
 refine .cons .same (.cons .same (.cons .same (.cons ?_ .nil)));cases Y X3.row t.o.Passages with
 | nil=>exact .same
 | cons e es=>exact .slb .refl
theorem XT.uns{k:O W}:∀{ts:N XT},UnRows (Y (XT.row k) ts) (Y X5.row (ts.map XT.o))
 | []=> .nil
 | _::_=> .cons XT.un XT.uns
abbrev hO:Hw:=([(28,[2,3,5,7,9,10],[2,3,7],[2560])],[])
theorem uU{r3:(N U) × V}{a0:X9}{a1:Xe}{r4:Xf × V}{n:W}:∀{v7:U} {v8:N XT} {zr:N X5},LU v8→Dn r3 a0 a1 r4 n v7 (v8.map XT.o)=L zr→Kh Z 35 hO 28 [2,3,5,7,9,10] [2,3,7] [2560]
  ⟨[pB 2,pB 3,(5,vc (.mix (.sl (Y rI r3.1)))),pB 7,pW 9 2560,pI 10 v7],[(2,[aI a0.Forecast.Tide.Mean,.old (.sl (Y Xc.row a0.Forecast.Tide.Parts)),.old (.sl (Y Xa.row a0.Forecast.Surges)),.old (.sl (Y X8.row a0.Chart.Points)),.old (.sl (Y X1.row a0.Chart.Segments)),.old (.sl (Y X6.row a0.Fleet)),aI a0.Regime.Gap,aB a0.Regime.NoMeet,aI a0.Crew.Tugs,aI a0.Crew.Pilots,aI a0.Crew.Rest,.old (.sl (Y rI a0.Crew.Moves))]),(3,[aI a1.Ship,aI a1.From,aI a1.To,aI a1.Ready,aI a1.Due]),(7,[.mix (.sl (Y rB r4.1.waits)),.mix (.sl (Y rI r4.1.minutes)),.mix (.sl (Y (rL X2.row) r4.1.sure))])],[(2560,4,Y (XT.row (L 5)) v8)]⟩ (M1 [4] (O5 zr)):=by
 induction n with
 | zero=>intro _ _ _ _ h; cases h
 | succ n ih=>
  intro v7 v8 zr hap h σ hσ S hS;refine ev hS ?_;rw[Dn,List.length_map] at h;refine AR (AJ ?_);obtain⟨h9,h⟩|⟨h9,h⟩:=ic h
  ·obtain⟨h10,h⟩|⟨h10,h⟩:=ic h
   ·obtain⟨r11,h11,h⟩:=ob h;try simp only[hσ,h9,h10,A,B,C,E,F,J,A9]
    refine N1 (FCf.tag ((Ag VI h11).newf (BL rfl ⟨rfl,rfl,rfl,AM,rfl,⟨⟩⟩))) (ds':= [.ag (X9.row a0),.ag (zG a1),.ag (Xf.row r4.1),.sc (.sl (Y rI r3.1)),.sc (.int .i64 v7)]) (by first | rfl | kernel_rfl) .refl rfl (fun rs ⟨g,e⟩=>by subst e; exact uf rfl) ?_;rintro rs ⟨g,rfl⟩ hN
    have hnew:∀t∈v8,∀b,t.tg b→r11.1.Passages≠ []→b<g 3:=fun t ht b hb hp=>hN b (g 3) (St.tg_own (k:=9) rfl rfl (EA.2 ⟨t,ht,hb⟩)) ⟨.v (D.tagW (L 5) (g 3) (.sl (Y X3.row r11.1.Passages))),by simp[CZ,LG,RC.tagO,R1.cells],(Ve Iq).2 ⟨by simpa using hp,rfl⟩⟩
    clear hN
    simp only[CZ,LG,RC.tagO];try simp only[h9,h10,A,B,C,E,F,J,A9]
    refine BS ?_;obtain⟨h12,h⟩|⟨h12,h⟩:=ic h
    ·try simp only[h9,h10,h12,A,B,C,E,F,J,A9]
     refine Bz (es:=Y (XT.row (L 5)) ([⟨r11.1,g 3⟩]:N XT)) ?_;obtain⟨h13,h⟩:=Bv h;have h13:A4 v8.length ([⟨r11.1,g 3⟩]:N XT).length 48=T:=h13;try simp only[h9,h10,h12,h13,A,B,C,E,F,J,A9]
     refine ih (v8:=v8++ [⟨r11.1,g 3⟩]) ?_ (by simpa[ES] using h) ?_ (by kernel_rfl)
     ·refine zE.2 ⟨hap,List.pairwise_singleton _ _,fun s hs t ht b hb hb'=> ?_⟩;rw[List.mem_singleton.1 ht] at hb'
      have:=hnew s hs b hb hb'.1;exact absurd hb'.2 (by simp only; omega)
     try simp only[h9,h10,h12,h13,A,B,C,E,F,J,A9,pL,aM,I]
    ·try simp only[h9,h10,h12,A,B,C,E,F,J,A9]
     refine ih hap (by simpa[ES] using h) ?_ (by kernel_rfl);try simp only[h9,h10,h12,A,B,C,E,F,J,A9,pL,aM,I]
   ·try simp only[hσ,h9,h10,A,B,C,E,F,J,A9]
    cases h;exact⟨_,⟨v8,X,X,hap⟩,t0⟩
  ·try simp only[hσ,h9,A,B,C,E,F,J,A9]
   cases h;exact⟨_,⟨v8,X,X,hap⟩,t0⟩
theorem ce:AB Z 35=L ((By Z 35 hO).strip,[4],69):=by kernel_rfl
theorem rc{a0:X9}{a1:Xe}{r:N X5}(h:D5 a0 a1=L r):FCs Z 35 [.ag (X9.row a0),.ag (zG a1)] (O5 r):=by
 unfold D5 at h;refine Qu (σ:=⟨[(0,va [aI a0.Forecast.Tide.Mean,.old (.sl (Y Xc.row a0.Forecast.Tide.Parts)),.old (.sl (Y Xa.row a0.Forecast.Surges)),.old (.sl (Y X8.row a0.Chart.Points)),.old (.sl (Y X1.row a0.Chart.Segments)),.old (.sl (Y X6.row a0.Fleet)),aI a0.Regime.Gap,aB a0.Regime.NoMeet,aI a0.Crew.Tugs,aI a0.Crew.Pilots,aI a0.Crew.Rest,.old (.sl (Y rI a0.Crew.Moves))]),(1,va [aI a1.Ship,aI a1.From,aI a1.To,aI a1.Ready,aI a1.Due])],[],[]⟩) A2 ce X X ?_;refine BE hO ?_;intro S hS;refine ev hS ?_;try simp only[A,B,C,E,F,J,A9]
 refine Bd ?_;try simp only[A,B,C,E,F,J,A9]
 refine Bd ?_;obtain⟨r1,h1,h⟩:=ob h;try simp only[A,B,C,E,F,J,A9]
 refine Bm (Ag VD h1) X (Bg X) X (uf X) ?_;obtain⟨h2,h⟩|⟨h2,h⟩:=ic h
 ·obtain⟨r3,h3,h⟩:=ob h;try simp only[h2,A,B,C,E,F,J,A9]
  refine RW (Ag qM h3) X X ?_;obtain⟨r4,h4,h⟩:=ob h;try simp only[h2,A,B,C,E,F,J,A9]
  refine RW (FC.asV (rs':= [.ag (Xf.row r4.1 |>.map .v),.sc (.v (.bool r4.2))]) (Ag qW h4) X) X X ?_;try simp only[h2,Nz,D.fl,cond_true,cond_false,A,B,C,E,F,J,A9]
  refine BS ?_;obtain⟨h5,h⟩|⟨h5,h⟩:=ic h
  ·obtain⟨h6,h⟩|⟨h6,h⟩:=ic h
   ·try simp only[h2,h5,h6,A,B,C,E,F,J,A9]
    refine Bz (es:=Y (XT.row (L 5)) ([]:N XT)) ?_;try simp only[h2,h5,h6,A,B,C,E,F,J,A9]
    refine uU (v8:= []) .nil h ?_ (by kernel_rfl);try simp only[h2,h5,h6,A,B,C,E,F,J,A9,pL,aM,I]
   ·try simp only[h2,h5,h6,A,B,C,E,F,J,A9]
    cases h;exact⟨_,⟨[],X,X,.nil⟩,t0⟩
  ·try simp only[h2,h5,A,B,C,E,F,J,A9]
   cases h;exact⟨_,⟨[],X,X,.nil⟩,t0⟩
 ·try simp only[h2,A,B,C,E,F,J,A9]
  cases h;exact⟨_,⟨[],X,X,.nil⟩,t0⟩
def Fsz(a1:XT→O V)(a0:N XT):W→U→O U
| 0,_=>none
| n+1,v1=>
 if(decide (v1<(a0.length:U))) then(
 (ix a0 v1).bind fun x3=>
 (a1 x3).bind fun r4=>
 if r4 then(
  L v1)
 else(
  Fsz a1 a0 n (zK .i64 (v1+(1:U)))))
 else(
 L (-1:U))
def Mh(a0:N XT)(a1:XT→O V):O U:= Fsz a1 a0 bigN (0:U)
def HQ(a1:XT→O V)(v4:U)(k_T_DeleteFunc_1:U→U→(N XT)→O (N XT))(v12:U)(v13:N XT):O (N XT):= k_T_DeleteFunc_1 v12 (zK .i64 (v4+(1:U))) v13
def EL(a1:XT→O V):W→U→U→(N XT)→O (N XT)
| 0,_,_,_=>none
| n+1,v3,v4,v5=>
 if(decide (v4<(v5.length:U))) then(
 (ix v5 v4).bind fun x7=>
 (a1 x7).bind fun r9=>
 if r9 then(
  HQ a1 v4 (EL a1 n) v3 v5)
 else(
  (ix v5 v3).bind fun x11=>
  HQ a1 v4 (EL a1 n) (zK .i64 (v3+(1:U))) (v5.set (Int.toNat v3) x7)))
 else(
 (bnd (v5.length:U) (v5.length:U) v3 v5.length).bind fun p14=>
 (bnd ((v5.take p14.1++zJ (p14.2 - p14.1) (⟨⟨(0:U),(0:U),(0:U),([]:N X3)⟩,0⟩:XT)).length:U) v3 0 (v5.take p14.1++zJ (p14.2 - p14.1) (⟨⟨(0:U),(0:U),(0:U),([]:N X3)⟩,0⟩:XT)).length).bind fun p15=>
 L ((v5.take p14.1++zJ (p14.2 - p14.1) (⟨⟨(0:U),(0:U),(0:U),([]:N X3)⟩,0⟩:XT)).take p15.2))
def HP(a0:N XT)(a1:XT→O V):O (N XT):= (Mh a0 a1).bind fun r1=> if(r1==(-1:U)) then(
 L a0) else(
 EL a1 bigN r1 (zK .i64 (r1+(1:U))) a0)
def S4:Hw:=([(6,[0,1,7,8],[],[])],[])
def WI:=fun F_a1 caps_a1 a0 (k_:U→O U)=>∀{v1} {zr},k_ v1=L zr→Kh Z 76 S4 6 [0,1,7,8] [] [] ⟨[pL 0 (XT.row (L 5)) a0,(1,vc (.dat (.clo F_a1 caps_a1))),pI 7 (a0.length:U),pI 8 v1],[],[]⟩ (Ac [4] [.sc (.v (.int .i64 zr))])
theorem uV{a1:XT→O V}{F_a1 caps_a1}(hF_a1:Bi Z F_a1=T)(h_a1:∀z0 zr,a1 z0=L zr→FC Z F_a1 ([.ag ((XT.row (L 5)) z0)]++caps_a1.map .sc) [.sc (.v (.bool zr))]){a0}{n:W}:WI F_a1 caps_a1 a0 (Fsz a1 a0 n):=by
 induction n with
 | zero=>intro _ r h; cases h
 | succ n ih=>
  intro v1 r h σ hσ S hS;refine ev hS ?_;rw[Fsz] at h;refine AR (AJ ?_);obtain⟨h2,h⟩|⟨h2,h⟩:=ic h
  ·obtain⟨x3,h3,h⟩:=ob h;obtain⟨r4,h4,h⟩:=ob h;try simp only[hσ,h2,h3,A,B,C,E,F,J,A9]
   refine L7 (h_a1 _ _ h4) hF_a1 X X (Bg X) X (uf X) ?_;obtain⟨h5,h⟩|⟨h5,h⟩:=ic h
   ·try simp only[h2,h3,h5,A,B,C,E,F,J,A9]
    cases h;exact t0
   ·try simp only[h2,h3,h5,A,B,C,E,F,J,A9]
    refine ih h ?_ (by kernel_rfl);try simp only[h2,h3,h5,A,B,C,E,F,J,A9,pL,aM,I]
  ·try simp only[hσ,h2,A,B,C,E,F,J,A9]
   cases h;exact t0
theorem qL{a0}{a1}{r}(F_a1:FuncId)(caps_a1:N D)(hF_a1:Bi Z F_a1=T)(h_a1:∀z0 zr,a1 z0=L zr→FC Z F_a1 ([.ag ((XT.row (L 5)) z0)]++caps_a1.map .sc) [.sc (.v (.bool zr))])(h:Mh a0 a1=L r):FC Z 76 [.sc (.sl (Y (XT.row (L 5)) a0)),.sc (.clo F_a1 caps_a1)] [.sc (.v (.int .i64 r))]:=by
 unfold Mh at h;refine A5 A2 S4 [4] 19 ?_;intro S hS;refine ev hS ?_;simp only[A,B,C,E,F,J,A9];try simp only[A,B,C,E,F,J,A9]
 refine uV hF_a1 h_a1 h ?_ (by kernel_rfl);try simp only[A,B,C,E,F,J,A9,pL,aM,I]
def N3:Hw:=([(16,[0,1,5,6],[],[90000]),(34,[0,1,5,6],[],[90000])],[(38,3,(none,.cut 41))])
def WH:=fun F_a1 caps_a1 v4 (k_:U→(N XT)→O (N XT))=>∀{v12 v13} {zr},k_ v12 v13=L zr→Kh Z 34 N3 34 [0,1,5,6] [] [90000] ⟨[pW 0 90000,(1,vc (.dat (.clo F_a1 caps_a1))),pI 5 v12,pI 6 v4],[],[(90000,4,Y (XT.row (L 5)) v13)]⟩ (Hv [4] 4 (Y (XT.row (L 5)) zr))
def Qz:=fun F_a1 caps_a1 (k_:U→U→(N XT)→O (N XT))=>∀{v3 v4 v5} {zr},k_ v3 v4 v5=L zr→Kh Z 34 N3 16 [0,1,5,6] [] [90000] ⟨[pW 0 90000,(1,vc (.dat (.clo F_a1 caps_a1))),pI 5 v3,pI 6 v4],[],[(90000,4,Y (XT.row (L 5)) v5)]⟩ (Hv [4] 4 (Y (XT.row (L 5)) zr))
theorem Wi{a1:XT→O V}{F_a1 caps_a1}(hF_a1:Bi Z F_a1=T)(h_a1:∀z0 zr,a1 z0=L zr→FC Z F_a1 ([.ag ((XT.row (L 5)) z0)]++caps_a1.map .sc) [.sc (.v (.bool zr))]){v4}{k_T_DeleteFunc_1}(hk_T_DeleteFunc_1:Qz F_a1 caps_a1 k_T_DeleteFunc_1):WH F_a1 caps_a1 v4 (HQ a1 v4 k_T_DeleteFunc_1):=by
 intro v12 v13 r h σ hσ S hS;refine ev hS ?_;refine AJ ?_;unfold HQ at h;try simp only[hσ,A,B,C,E,F,J,A9]
 refine hk_T_DeleteFunc_1 h ?_ (by kernel_rfl);try simp only[A,B,C,E,F,J,A9,pL,aM,I]
theorem uW{a1:XT→O V}{F_a1 caps_a1}(hF_a1:Bi Z F_a1=T)(h_a1:∀z0 zr,a1 z0=L zr→FC Z F_a1 ([.ag ((XT.row (L 5)) z0)]++caps_a1.map .sc) [.sc (.v (.bool zr))]){n:W}:Qz F_a1 caps_a1 (EL a1 n):=by
 induction n with
 | zero=>intro _ _ _ r h; cases h
 | succ n ih=>
  intro v3 v4 v5 r h σ hσ S hS;refine ev hS ?_;rw[EL] at h;refine AR (AJ ?_);obtain⟨h6,h⟩|⟨h6,h⟩:=ic h
  ·obtain⟨x7,h7,h⟩:=ob h;have h7n:=Ay h7;try simp only[hσ,h6,h7,h7n,A,B,C,E,F,J,A9]
   refine BS ?_;obtain⟨r9,h9,h⟩:=ob h;try simp only[h6,h7,h7n,A,B,C,E,F,J,A9]
   refine L7 (h_a1 _ _ h9) hF_a1 X X (Bg X) X (uf X) ?_;obtain⟨h10,h⟩|⟨h10,h⟩:=ic h
   ·try simp only[h6,h7,h7n,h10,A,B,C,E,F,J,A9]
    refine Wi hF_a1 h_a1 ih h ?_ (by kernel_rfl);try simp only[h6,h7,h7n,h10,A,B,C,E,F,J,A9,pL,aM,I]
   ·obtain⟨x11,h11,h⟩:=ob h;have h11n:=Ay h11;try simp only[h6,h7,h7n,h10,h11,A,B,C,E,F,J,A9]
    refine B1 (row:=(XT.row (L 5))) (y:=x7) X X h11n X X (by rfl) ?_;try simp only[h6,h7,h7n,h10,h11,A,B,C,E,F,J,A9]
    refine Wi hF_a1 h_a1 ih h ?_ (by kernel_rfl);try simp only[h6,h7,h7n,h10,h11,A,B,C,E,F,J,A9,pL,aM,I]
  ·obtain⟨p14,h14,h⟩:=ob h;try simp only[hσ,h6,A,B,C,E,F,J,A9]
   refine gX (zx:=(⟨⟨(0:U),(0:U),(0:U),([]:N X3)⟩,0⟩:XT)) X X h14 (by rfl) ?_;obtain⟨p15,h15,h⟩:=ob h;try simp only[h6,A,B,C,E,F,J,A9]
   refine gY X X h15 (by rfl) ?_;try simp only[h6,A,B,C,E,F,J,A9]
   cases h;trivial
theorem cY:AB Z 34=L ((By Z 34 N3).strip,[4],42):=by kernel_rfl
theorem qK{a0}{a1}{r}(F_a1:FuncId)(caps_a1:N D)(hF_a1:Bi Z F_a1=T)(h_a1:∀z0 zr,a1 z0=L zr→FC Z F_a1 ([.ag ((XT.row (L 5)) z0)]++caps_a1.map .sc) [.sc (.v (.bool zr))])(h:HP a0 a1=L r):FCt Z 34 [.r,.d (.sc (.clo F_a1 caps_a1))] 4 (Y (XT.row (L 5)) a0) (Y (XT.row (L 5)) r):=by
 unfold HP at h;refine Qv (σ:=⟨[(0,vc (.own 90000)),(1,vc (.dat (.clo F_a1 caps_a1)))],[],[(90000,4,Y (XT.row (L 5)) a0)]⟩) A2 cY X X ?_;refine BE N3 ?_;intro S hS;refine ev hS ?_;obtain⟨r1,h1,h⟩:=ob h;try simp only[A,B,C,E,F,J,A9]
 refine Bm (qL F_a1 caps_a1 hF_a1 h_a1 h1) X (Bg X) X (uf X) ?_;obtain⟨h2,h⟩|⟨h2,h⟩:=ic h
 ·try simp only[h2,A,B,C,E,F,J,A9]
  cases h;trivial
 ·try simp only[h2,A,B,C,E,F,J,A9]
  refine uW hF_a1 h_a1 h ?_ (by kernel_rfl);try simp only[h2,A,B,C,E,F,J,A9,pL,aM,I]
theorem LP{k:O W}{ts:N XT}:∀r∈Y (XT.row k) ts,∀d∈r,Sh d:=fun r hr d hd=>by
 obtain⟨t,_,rfl⟩:=zD.1 hr;simp only[XT.row,zB,zC,or_false] at hd
 rcases hd with rfl|rfl|rfl|rfl
 ·exact .flat X
 ·exact .flat X
 ·exact .flat X
 ·have hp:=Iq (ps:=t.o.Passages);revert hp
  cases Y X3.row t.o.Passages with
  | nil=>exact fun _=> .nil
  | cons e es=>exact fun hp=> .slb hp
theorem cd:AB Z 10=L ((By Z 10 h0).strip,[6],23):=by kernel_rfl
theorem ZO{a2:N X7}{z0:XT}{zr:V}(h:HU z0.o a2=L zr):FC Z 36 ([.ag (XT.row (L 5) z0)]++ [D.pd ((rL X7.row) a2)].map .sc) [.sc (.v (.bool zr))]:=(tI h).un (.cons (.ag XT.un) .refl)
theorem VT{a0:X9}{a1:Xe}{a2:N X7}{r:N X5}(h:Dm a0 a1 a2=L r)(hd:∀r5,FY a0.Chart a2=L T→D5 a0 a1=L r5→∃p:X5→V,r=r5.filter (fun o=> !p o)∧∀ts:N XT,ts.map XT.o=r5→HP ts (fun t=>HU t.o a2)=L (ts.filter fun t=> !p t.o)) :
  FCs Z 10 [.ag (X9.row a0),.ag (zG a1),.sc (.sl (Y X7.row a2))] (O5 r):=by
 unfold Dm at h;refine Qu (σ:=⟨[(0,va [aI a0.Forecast.Tide.Mean,.old (.sl (Y Xc.row a0.Forecast.Tide.Parts)),.old (.sl (Y Xa.row a0.Forecast.Surges)),.old (.sl (Y X8.row a0.Chart.Points)),.old (.sl (Y X1.row a0.Chart.Segments)),.old (.sl (Y X6.row a0.Fleet)),aI a0.Regime.Gap,aB a0.Regime.NoMeet,aI a0.Crew.Tugs,aI a0.Crew.Pilots,aI a0.Crew.Rest,.old (.sl (Y rI a0.Crew.Moves))]),(1,va [aI a1.Ship,aI a1.From,aI a1.To,aI a1.Ready,aI a1.Due]),(2,vc (.old (.sl (Y X7.row a2))))],[],[]⟩) A2 cd X X ?_;refine BE h0 ?_;intro S hS;refine ev hS ?_;try simp only[A,B,C,E,F,J,A9]
 refine Bd ?_;try simp only[A,B,C,E,F,J,A9]
 refine Bd ?_;try simp only[A,B,C,E,F,J,A9]
 refine Bd ?_;obtain⟨r1,hr1,h⟩:=ob h;try simp only[A,B,C,E,F,J,A9]
 refine Bm (Ag VD hr1) X (Bg X) X (uf X) ?_;obtain⟨hb2,h⟩|⟨hb2,h⟩:=ic h
 ·obtain⟨r3,hr3,h⟩:=ob h;try simp only[hb2,A,B,C,E,F,J,A9]
  refine Bm (Ag qR hr3) X (Bg X) X (uf X) ?_;obtain⟨hb4,h⟩|⟨hb4,h⟩:=ic h
  ·obtain⟨r5,hr5,h⟩:=ob h;try simp only[hb2,hb4,A,B,C,E,F,J,A9]
   refine N1 (rc hr5) (ds':= [.ag (X9.row a0),.ag (zG a1)]) (by first | rfl | kernel_rfl) .refl rfl (fun rs ⟨_,e,_⟩=>by subst e; exact uf rfl) ?_;rintro rs ⟨ts,rfl,e5,hap⟩ _
   obtain⟨p,rfl,hp⟩:=hd r5 (by rw[hr3,hb4]) hr5;try simp only[hb2,hb4,A,B,C,E,F,J,A9]
   refine fN (qK 36 [.pd ((rL X7.row) a2)] (by kernel_rfl) (fun z0 zr zh=>ZO zh) (hp ts e5)) 1280 rfl rfl (LP) (fun b hb=>EA.2 (by obtain⟨t,ht,h⟩:=EA.1 hb; exact⟨t,(List.mem_filter.1 ht).1,h⟩)) ⟨0,rfl⟩ rfl rfl rfl ?_;rw[Ol];try simp only[hb2,hb4,A,B,C,E,F,J,A9]
   exact⟨_,⟨ts.filter fun t=> !p t.o,X,by rw[← e5,List.filter_map]; rfl,hap.filter _⟩,t0⟩
  ·try simp only[hb2,hb4,A,B,C,E,F,J,A9]
   cases h;exact⟨_,⟨[],X,X,.nil⟩,t0⟩
 ·try simp only[hb2,A,B,C,E,F,J,A9]
  cases h;exact⟨_,⟨[],X,X,.nil⟩,t0⟩
def DY:N X5→U→O (U × N X5)
 | [],k=>L (k,[])
 | o::os,k=>(EY o.Passages (zK .i64 (zK .i64 (zK .i64 (k+1)+1)+1))).bind fun r=>(DY os r.1).bind fun q=>L (q.1,⟨k,zK .i64 (k+1),zK .i64 (zK .i64 (k+1)+1),r.2⟩::q.2)
def CI(os:N X5)(ts:N XT):N XT:=List.zipWith (fun o t=>⟨o,t.b⟩) os ts
theorem NM{α:Type}{l r:N α}{x y:α}:(l++x::r).set (Int.toNat (l.length:U)) y=l++y::r:=by simp
theorem Eh{α:Type}{l r:N α}{x:α}:ix (l++x::r) (l.length:U)=L x:=by simp[ix]
theorem eg{α:Type}{l r:N α}{x:α}:(l++x::r)[Int.toNat (l.length:U)]?=L x:=by simp
theorem Vz{σ:St}{c:AC}(h:σ.Uses c):c∈(σ.env.flatMap fun p=>p.2.cells)++σ.bx.flatMap fun p=>p.2:=by
 rcases h with ⟨k,hk⟩|⟨id,cs,hf,hc⟩
 ·obtain⟨p,hp,hc⟩:=St.get_mem hk;exact List.mem_append_left _ (List.mem_flatMap.2 ⟨p,hp,hc⟩)
 ·exact List.mem_append_right _ (List.mem_flatMap.2 ⟨_,Io hf,hc⟩)
theorem lz{b:W}{ps:N X3}{t:XT}(h:t.tg b→t.o.Passages=ps):∀d∈XT.row (L 5) t,EC b 5 (Y X3.row ps) d:=fun d hd=>by
 refine⟨LP (ts:= [t]) _ (by simp; rfl) d hd,fun k es e=> ?_⟩;subst e;simp only[XT.row,zB,reduceCtorEq,zC,or_false,false_or] at hd
 revert h hd
 cases hp:t.o.Passages with
 | nil=>intro _ hd; cases hd
 | cons p q=>
  intro h hd;simp only[zA,D.tagW,D.slb.injEq] at hd
  obtain⟨e1,e2,e3⟩:=hd;rw[← h ⟨by rw[hp]; simp,e1.symm⟩];exact⟨e2,e3⟩
theorem px{b:W}{ps:N (N D)}{t:XT}(h:¬t.tg b):(XT.row (L 5) t).map (D.upd b ps)=XT.row (L 5) t:=by
 simp only[XT.row,zA,I,D.upd,List.cons.injEq,and_true,true_and];cases hp:t.o.Passages with
 | nil=>rfl
 | cons p q=>
  have:(t.b==b)=G:=by simpa using fun e=>h ⟨by rw[hp]; simp,e⟩
  simp only[zA,D.tagW,D.upd,this,cond_false]
theorem Vy{b:W}{ps:N (N D)}{ts:N XT}(h:∀t∈ts,¬t.tg b):(Y (XT.row (L 5)) ts).map (Y (D.upd b ps))=Y (XT.row (L 5)) ts:=by
 rw[List.map_map];exact List.map_congr_left fun t ht=>px (h t ht)
theorem pw{o:X5}{ps:N X3}{b:W}(h:o.Passages≠ [])(hl:ps.length=o.Passages.length):(XT.row (L 5) ⟨o,b⟩).map (D.upd b (Y X3.row ps))=XT.row (L 5) ⟨⟨o.Start,o.Arrival,o.Cost,ps⟩,b⟩:=by
 simp only[XT.row,zA,I,D.upd,List.cons.injEq,and_true,true_and];cases hp:o.Passages with
 | nil=>exact absurd hp h
 | cons p q=>
  cases ps with
  | nil=>rw[hp] at hl; cases hl
  | cons p' q'=>simp only[zA,D.tagW,D.upd,beq_self_eq_true,cond_true]
theorem qq{k:U}:FC Z 49 [.sc (.sl []),.sc (.int .i64 k)] [.sc (.v (.int .i64 k))]:=by
 refine A5 A2 h0 [4] 50 ?_;intro S hS;refine ev hS ?_;try simp only[A,B,C,E,F,J,A9]
 refine AR ?_;try simp only[List.length_nil,Int.ofNat_zero,Int.lt_irrefl,decide_false,A,B,C,E,F,J,A9]
 exact t0
theorem fJ{P:Program}{k:N Fr}{Q:Xg→St→Prop}{its:N AItem}{d f sz b j:W}{args:N Opd}{x r:D}{ps ps':N (N D)}{σ τ:St}(H:FCx P f [.sc (.r 0),.sc (.d x)] [(sz,ps)] [(sz,ps')] r)(hl:ps'.length=ps.length)(hfl:∀r∈ps,∀d∈r,d.flat=T)(hfl':∀r∈ps',∀d∈r,d.flat=T)(hx:x.flat=T)
  (ha:args.map σ.val= [.v (.sc (.dat (.slb b (L sz) ps))),.v (.sc (.dat x))]) (hnw:σ.get j= .ev .nw) (hok:∀c,σ.Uses c→∀d,c= .dat d→EC b sz ps d) (hrows:∀id s es,A1 σ.rows id=L (s,es)→∀r∈es,∀d∈r,EC b sz ps d) (hτ:σ.updT b ps'=τ)
  (h:go P (.ops its::k) Q .normal (L (τ.set d (.v (.sc (.dat r)))))):go P (.ops ((none,.call d f args)::its)::k) Q .normal (L σ):=It (by rw[ha,← hτ]; exact H.callT hl hfl hfl' hx hnw hok hrows) h
abbrev hM:Hw:=([(6,[0,1,5,77777],[],[99999999999])],[(27,6,(none,.keep [0,1,5,37,38,77777] [] [99999999999]))])
theorem uT{ts:N XT}:∀{done:N XT} {k:U} {r:U × N X5},DY (ts.map XT.o) k=L r→LU (done++ts)→(done++ts).length≤maxLen→Kh Z 16 hM 6 [0,1,5,77777] [] [99999999999]
  ⟨[pW 0 99999999999,pI 1 k,pI 5 (done.length:U),(77777,.ev .nw)],[],[(99999999999,4,Y (XT.row (L 5)) (done++ts))]⟩ (Ch [4] (.int .i64 r.1) [(4,Y (XT.row (L 5)) (done++CI r.2 ts))] [(0,0)]):=by
 induction ts with
 | nil=>
  intro done k r h hap hlen σ hσ S hS;refine ev hS ?_;cases h;refine AR (AJ ?_);try simp only[hσ,zH,Int.lt_irrefl,decide_false,A,B,C,E,F,J,A9]
  refine⟨⟨X,⟨⟩⟩,⟨⟨⟨_,X,X⟩,?_⟩,⟨⟩⟩⟩;simp[CI,A1]
 | cons t ts ih=>
  intro done k r h hap hlen σ hσ S hS;refine ev hS ?_;rw[zA,DY] at h;obtain⟨r1,hr1,h⟩:=ob h;obtain⟨q,hq,h⟩:=ob h;cases h;have hlt:decide ((done.length:U)<((done++t::ts).length:U))=T:=decide_eq_true (by simp only[List.length_append,List.length_cons]; omega);refine AR (AJ ?_);try simp only[hσ,hlt,Eh,NM,A,B,C,E,F,J,A9]
  refine B1 (row:=XT.row (L 5)) (y:=⟨⟨k,t.o.Arrival,t.o.Cost,t.o.Passages⟩,t.b⟩) X X (Ay Eh) X X (by rfl) ?_;try simp only[Eh,NM,A,B,C,E,F,J,A9]
  refine B1 (row:=XT.row (L 5)) (y:=⟨⟨k,zK .i64 (k+1),t.o.Cost,t.o.Passages⟩,t.b⟩) X X (Ay Eh) X X (by rfl) ?_;try simp only[Eh,NM,A,B,C,E,F,J,A9]
  refine B1 (row:=XT.row (L 5)) (y:=⟨⟨k,zK .i64 (k+1),zK .i64 (zK .i64 (k+1)+1),t.o.Passages⟩,t.b⟩) X X (Ay Eh) X X (by rfl) ?_;try simp only[Eh,NM,A,B,C,E,F,J,A9]
  try simp only[eg,XT.row_eq,Eh,A,B,C,E,F,J,A9]
  have hw:zK .i64 ((done.length:U)+1)=((done.length+1:W):U):=VS (n:=(done++t::ts).length) (by simp) hlen;have hu:=zE.1 hap;have hd1:∀s∈done,∀b,s.tg b→¬t.tg b:=fun s hs b=>hu.2.2 s hs t List.mem_cons_self b
  have hd2:∀s∈ts,∀b,s.tg b→¬t.tg b:=fun s hs b h1 h2=>(zF.1 hu.2.1).1 s hs b h2 h1
  have hfin:∀{σ':St},σ'.kept [0,1,5,77777] [] [99999999999]=⟨[pW 0 99999999999,pI 1 r1.1,pI 5 ((done.length+1:W):U),(77777,.ev .nw)],[],[(99999999999,4,Y (XT.row (L 5)) (done++⟨⟨k,zK .i64 (k+1),zK .i64 (zK .i64 (k+1)+1),r1.2⟩,t.b⟩::ts))]⟩→
    ∀{S:N Fr},S=sk Z 16 hM 6→go Z S (Ch [4] (.int .i64 q.1) [(4,Y (XT.row (L 5)) (done++CI (⟨k,zK .i64 (k+1),zK .i64 (zK .i64 (k+1)+1),r1.2⟩::q.2) (t::ts)))] [(0,0)]) .normal (L σ'):=fun{σ'} hs {S} hS=>by
   have:=ih (done:=done++ [⟨⟨k,zK .i64 (k+1),zK .i64 (zK .i64 (k+1)+1),r1.2⟩,t.b⟩]) hq ?_ ?_ (σ:=σ') ?_ hS
   ·simpa[CI] using this
   ·have hl:=Pl _ _ _ hr1;have hb:∀b,XT.tg ⟨⟨k,zK .i64 (k+1),zK .i64 (zK .i64 (k+1)+1),r1.2⟩,t.b⟩ b→t.tg b:=fun b h=>⟨fun e=>h.1 (List.length_eq_zero_iff.1 (by rw[hl,e]; rfl)),h.2⟩
    rw[List.append_assoc]
    exact zE.2 ⟨hu.1,zF.2 ⟨fun s hs b h1 h2=>hd2 s hs b h2 (hb b h1),(zF.1 hu.2.1).2⟩,fun s hs s' hs' b h1 h2=>by
     rcases zB.1 hs' with rfl|hs'
     ·exact hd1 s hs b h1 (hb b h2)
     ·exact hu.2.2 s hs s' (List.mem_cons_of_mem _ hs') b h1 h2⟩
   ·simpa using hlen
   ·simpa using hs
  cases hp:t.o.Passages with
  | nil=>
   rw[hp] at hr1
   have e1:∀x,EY [] x=L (x,[]):=fun x=>by kernel_rfl
   rw[e1] at hr1
   cases hr1;refine Bm qq X (Bg X) X (uf X) ?_;try simp only[A,B,C,E,F,J,A9]
   refine hfin ?_ (by kernel_rfl);try simp only[hw,A,B,C,E,F,J,A9,pL,aM,I]
  | cons p ps=>
   rw[hp] at hr1
   have hl:=Pl _ _ _ hr1;have htb:t.tg t.b:=⟨by rw[hp]; simp,rfl⟩;refine fJ (j:=77777) (b:=t.b) (qi _ _ _ hr1) (by simpa using hl) Iq Iq X X X (fun c hu d e=> ?_) (fun id s es hf r hr d hd=> ?_) (τ:=⟨[(0,vc (.own 99999999999)),(1,vc (aI (zK .i64 (zK .i64 (zK .i64 (k+1)+1)+1)))),(5,vc (aI (done.length:U))),(37,vc (.dat (.slb t.b (L 5) (Y X3.row r1.2)))),(38,vc (aI (zK .i64 (zK .i64 (zK .i64 (k+1)+1)+1)))),(77777,.ev .nw)],[],[(99999999999,4,Y (XT.row (L 5)) (done++⟨⟨k,zK .i64 (k+1),zK .i64 (zK .i64 (k+1)+1),r1.2⟩,t.b⟩::ts))]⟩) ?_ ?_
   ·subst e;have:=Vz hu;simp only[List.flatMap_cons,List.flatMap_nil,AV.cells,V1.cells,zH,List.cons_append,zI,zB,zC,or_false,reduceCtorEq,false_or,AC.dat.injEq] at this
    rcases this with rfl|rfl|rfl|rfl
    ·exact⟨.flat X,fun k es e=>by cases e⟩
    ·exact⟨.flat X,fun k es e=>by cases e⟩
    ·exact⟨.slb (Iq (ps:=p::ps)),fun k es e=>by cases e; exact⟨X,X⟩⟩
    ·exact⟨.flat X,fun k es e=>by cases e⟩
   ·simp only[A1] at hf
    by_cases hid:99999999999=id
    ·subst hid;simp only[beq_self_eq_true,cond_true,Option.some.injEq,Prod.mk.injEq] at hf
     obtain⟨rfl,rfl⟩:=hf;obtain⟨s,hs,rfl⟩:=zD.1 hr;refine lz (fun hsb=> ?_) d hd;rcases List.mem_append.1 hs with hs|hs
     ·exact absurd htb (hd1 s hs _ hsb)
     ·rcases zB.1 hs with rfl|hs
      ·rfl
      ·exact absurd htb (hd2 s hs _ hsb)
    ·have:(99999999999==id)=G:=by simpa using hid
     rw[this] at hf
     cases hf
   ·have e2:=pw (o:=⟨k,zK .i64 (k+1),zK .i64 (zK .i64 (k+1)+1),p::ps⟩) (ps:=r1.2) (b:=t.b) (by simp) hl;simp only[St.updT,St.map,zA,I,AV.map,V1.map,AC.mapD,D.upd,D.tagW,beq_self_eq_true,cond_true,List.map_append,Vy fun s hs h=>hd1 s hs _ h htb,Vy fun s hs h=>hd2 s hs _ h htb,e2]
   ·try simp only[A,B,C,E,F,J,A9]
    refine hfin ?_ (by kernel_rfl);try simp only[hw,A,B,C,E,F,J,A9,pL,aM,I]
theorem cb:AB Z 16=L ((By Z 16 hM).strip,[4],41):=by kernel_rfl
theorem Px:∀{ts:N XT} {k:U} {r:U × N X5},DY (ts.map XT.o) k=L r→r.2.length=ts.length∧∀t∈CI r.2 ts,∀b,t.tg b→∃s∈ts,s.tg b
 | [],k,r,h=>by cases h; exact⟨rfl,fun t ht=>by simp[CI] at ht⟩
 | s::ts,k,r,h=>by
  rw[zA,DY] at h;obtain⟨r1,hr1,h⟩:=ob h;obtain⟨q,hq,h⟩:=ob h;cases h;obtain⟨h1,h2⟩:=Px hq;have hl:=Pl _ _ _ hr1;refine⟨by simp[h1],fun t ht b hb=> ?_⟩;rcases zB.1 ht with rfl|ht
  ·exact⟨s,List.mem_cons_self,fun e=>hb.1 (List.length_eq_zero_iff.1 (by rw[hl,e]; rfl)),hb.2⟩
  ·obtain⟨s',hs',h3⟩:=h2 t ht b hb;exact⟨s',List.mem_cons_of_mem _ hs',h3⟩
theorem Ul:∀{os:N X5} {ts:N XT},os.length=ts.length→(CI os ts).map XT.o=os
 | [],[],_=>rfl
 | o::os,t::ts,h=>by simpa[CI] using Ul (os:=os) (ts:=ts) (by simpa using h)
theorem nB{os:N X5}{ts:N XT}(h:os.length=ts.length):(CI os ts).length=ts.length:=by simp[CI,h]
theorem ra{ts:N XT}{k:U}{r:U × N X5}(h:DY (ts.map XT.o) k=L r)(hap:LU ts)(hlen:ts.length≤maxLen):FCm Z 16 (.int .i64 k) 4 (Y (XT.row (L 5)) ts) (Y (XT.row (L 5)) (CI r.2 ts)) (.int .i64 r.1):=by
 refine Wx (p:=(0,0)) A2 cb X X X LP (fun b hb=> ?_) X ?_
 ·obtain⟨t,ht,hb⟩:=EA.1 hb;obtain⟨s,hs,h3⟩:=(Px h).2 t ht b hb;exact EA.2 ⟨s,hs,h3⟩
 refine BE hM ?_;intro S hS;refine ev hS ?_;unfold St.initM;try simp only[A,B,C,E,F,J,A9]
 refine uT (done:= []) h (by simpa using hap) (by simpa using hlen) ?_ (by kernel_rfl);try simp only[A,B,C,E,F,J,A9,pL,aM,I,List.length_nil,zI]
 try rfl
theorem Vb:∀{bs:N W} {os:N X5},bs.length=os.length→∃us:N XT,us.map XT.o=os∧FE none bs (Y X5.row os)=Y (XT.row none) us
 | [],[],_=>⟨[],rfl,rfl⟩
 | b::bs,o::os,h=>by
  obtain⟨us,h1,h2⟩:=Vb (bs:=bs) (os:=os) (by simpa using h);refine⟨⟨o,b⟩::us,by simp[h1],?_⟩;simp only[FE,zA,List.zipWith_cons_cons] at h2 ⊢
  rw[h2];rfl
theorem mG{os:N X5}:∀r∈Y X5.row os,Hu r:=fun r hr=>by
 obtain⟨o,_,rfl⟩:=zD.1 hr;refine⟨[.int .i64 o.Start,.int .i64 o.Arrival,.int .i64 o.Cost],_,[],X,fun d hd=> ?_,fun d hd=>by cases hd⟩;simp only[zB,zC,or_false] at hd
 rcases hd with rfl|rfl|rfl<;>rfl
def HD(h:X9)(c:Xe)(l:N X7)(r:N X5):Prop:=∀r5,FY h.Chart l=L T→D5 h c=L r5→∃p:X5→V,r=r5.filter (fun o=> !p o)∧∀ts:N XT,ts.map XT.o=r5→HP ts (fun t=>HU t.o l)=L (ts.filter fun t=> !p t.o)
def Mr(a0:X9)(a1:Xe)(a2:N X7):O V:=
 (Gx a0 1048576).bind fun s1=>if decide (s1<0) then L T else
 (Gw a2 s1).bind fun s2=>if decide (s2<0) then L T else
 (Ds a0).bind fun h1=>(F1 a1).bind fun c1=>(Dr a2).bind fun l1=>
 (GN h1 c1 l1).bind fun w0=>
 (Ds a0).bind fun x0=>(Dr a2).bind fun x2=>(F1 a1).bind fun c2=>
 (Dm x0 c2 x2).bind fun g0=>
 (EX g0 w0).bind fun b1=>if b1 then
  (Ds a0).bind fun h2=>(JU x0 h2).bind fun b2=>if b2 then
   (Dr a2).bind fun l2=>(I0 x2 l2).bind fun b3=>if b3 then
    (Gu x0 1).bind fun k1=>(I3 x2 k1.1).bind fun k2=>
    if decide (k2.1<0) then L G else
    (EX g0 w0).bind fun b4=>if b4 then
     (DY g0 1).bind fun m=>(I1 m.2 1).bind fun q1=>
     if decide (q1<0) then L G else if q1 !=m.1 then L G else
     (Ds a0).bind fun h3=>(F1 a1).bind fun c3=>(Dr a2).bind fun l3=>
     (Dm h3 c3 l3).bind fun g1=>
     (EX g1 w0).bind fun b5=>if b5 then
      (I1 m.2 1).bind fun q2=>if decide (q2<0) then L G else if q2 !=m.1 then L G else L T
     else L G
    else L G
   else L G
  else L G
 else L G
theorem fK{P:Program}{k:N Fr}{Q:Xg→St→Prop}{σ σ':St}{its:N AItem}{d f:W}{args:N Opd}{l:N AV}{r:AV}(hf:CallC P f l σ σ' r)(ha:args.map σ.val=l)(h:go P (.ops its::k) Q .normal (L (σ'.set d r))):go P (.ops ((none,.call d f args)::its)::k) Q .normal (L σ):=It (by rw[ha]; exact hf) h
abbrev S3:Hw:=([],[(73,2,(none,.keep [2,3,4,8,11,13,70,71] [3,4] [2048,2624]))])
theorem cZ:AB Z 3=L ((By Z 3 S3).strip,[6],100):=by kernel_rfl
theorem w_laws_FnExactOpenOptions(a0:X9)(a1:Xe)(a2:N X7)(r:V)(h:Mr a0 a1 a2=L r∧∀s1 s2,Gx a0 1048576=L s1→decide (s1<0)=G→Gw a2 s1=L s2→decide (s2<0)=G→∀h c l,Ds a0=L h→F1 a1=L c→Dr a2=L l→∀g,Dm h c l=L g→HD h c l g∧g.length≤maxLen) :
  FC Z 3 [.ag (X9.row a0),.ag (zG a1),.sc (.sl (Y X7.row a2))] [.sc (.v (.bool r))]:=by
 obtain⟨h,hd⟩:=h;unfold Mr at h;refine FCf.fc (Wu (σ:=⟨[(0,va [aI a0.Forecast.Tide.Mean,.old (.sl (Y Xc.row a0.Forecast.Tide.Parts)),.old (.sl (Y Xa.row a0.Forecast.Surges)),.old (.sl (Y X8.row a0.Chart.Points)),.old (.sl (Y X1.row a0.Chart.Segments)),.old (.sl (Y X6.row a0.Fleet)),aI a0.Regime.Gap,aB a0.Regime.NoMeet,aI a0.Crew.Tugs,aI a0.Crew.Pilots,aI a0.Crew.Rest,.old (.sl (Y rI a0.Crew.Moves))]),(1,va [aI a1.Ship,aI a1.From,aI a1.To,aI a1.Ready,aI a1.Due]),(2,vc (.old (.sl (Y X7.row a2))))],[],[]⟩) A2 cZ X X ?_);refine BE S3 ?_;intro S hS;refine ev hS ?_;try simp only[A,B,C,E,F,J,A9]
 refine Bd ?_;try simp only[A,B,C,E,F,J,A9]
 refine Bd ?_;obtain⟨s1,hs1,h⟩:=ob h;try simp only[A,B,C,E,F,J,A9]
 refine Bm (Ag qp hs1) X (Bg X) X (uf X) ?_;obtain⟨hb1,h⟩|⟨hb1,h⟩:=ic h
 ·try simp only[hb1,A,B,C,E,F,J,A9]
  cases h;exact t0
 obtain⟨s2,hs2,h⟩:=ob h;try simp only[hb1,A,B,C,E,F,J,A9]
 refine Bm (Ag qo hs2) X (Bg X) X (uf X) ?_;obtain⟨hb2,h⟩|⟨hb2,h⟩:=ic h
 ·try simp only[hb2,A,B,C,E,F,J,A9]
  cases h;exact t0
 have hd:=hd s1 s2 hs1 hb1 hs2 hb2;obtain⟨h1,hh1,h⟩:=ob h;obtain⟨c1,hc1,h⟩:=ob h;obtain⟨l1,hl1,h⟩:=ob h;obtain⟨w0,hw0,h⟩:=ob h;try simp only[hb2,A,B,C,E,F,J,A9]
 refine Ap ?_;try simp only[A,B,C,E,F,J,A9]
 refine fR (FCf.asV (rs':= [.ag ((X9.row h1).map .v)]) ((Ag NX hh1).newf (BL X ⟨X,AM,AM,AM,AM,AM,X,X,X,X,X,AM,⟨⟩⟩)) X) (by first | rfl | kernel_rfl) X (uf X) ?_;try simp only[zA,I,A,B,C,E,F,J,A9]
 refine Iu (Ag Qc hc1) (by first | rfl | kernel_rfl) (Bg X) X (uf X) ?_;try simp only[zA,I,A,B,C,E,F,J,A9]
 refine fL (FCf.asV (rs':= [.sc (.v (.sl (Y X7.row l1)))]) ((Ag NW hl1).newf (BL X ⟨AM,⟨⟩⟩)) X) X X (uf X) ?_;try simp only[A,B,C,E,F,J,A9]
 refine Ap ?_;try simp only[A,B,C,E,F,J,A9]
 refine fM (ds:= [.ag (X9.row h1),.ag (zG c1),.sc (.sl (Y X7.row l1))]) (FC.stamp (Ag qz hw0) mG) rfl rfl (fun rs ⟨_,_,e⟩=>by subst e; exact uf rfl) ?_;rintro rs ⟨bs,hbl,rfl⟩
 obtain⟨us,rfl,eus⟩:=Vb (by simpa using hbl);rw[eus];obtain⟨x0,hx0,h⟩:=ob h;try simp only[A,B,C,E,F,J,A9]
 refine Ap ?_;try simp only[A,B,C,E,F,J,A9]
 refine Bm (Ag NX hx0) X (BL X ⟨X,AM,AM,AM,AM,AM,X,X,X,X,X,AM,⟨⟩⟩) X (uf X) ?_;try simp only[A,B,C,E,F,J,A9]
 refine BS ?_;obtain⟨x2,hx2,h⟩:=ob h;try simp only[A,B,C,E,F,J,A9]
 refine Bm (Ag NW hx2) X (BL X ⟨AM,⟨⟩⟩) X (uf X) ?_;obtain⟨c2,hc2,h⟩:=ob h;try simp only[A,B,C,E,F,J,A9]
 refine Ap ?_;try simp only[A,B,C,E,F,J,A9]
 refine Iu (Ag Qc hc2) (by first | rfl | kernel_rfl) (Bg X) X (uf X) ?_;try simp only[zA,I,A,B,C,E,F,J,A9]
 obtain⟨g0,hg0,h⟩:=ob h;have hdg:=hd _ _ _ hx0 hc2 hx2 _ hg0;refine N1 (VT hg0 hdg.1) (ds':= [.ag (X9.row x0),.ag (zG c2),.sc (.sl (Y X7.row x2))]) (by first | rfl | kernel_rfl) .refl rfl (fun rs ⟨_,e,_⟩=>by subst e; exact uf rfl) ?_;rintro rs ⟨ts,rfl,rfl,hap⟩ hN
 have hsep:∀b,(∃u∈us,u.tg b)→¬∃t∈ts,t.tg b:=fun b h1 h2=>Nat.lt_irrefl b (hN b b (St.tg_own (k:=8) rfl rfl (EA.2 h1)) ⟨.o 4 (Y (XT.row (L 5)) ts),by simp[R1.cells],EA.2 h2⟩)
 clear hN
 try simp only[A,B,C,E,F,J,A9]
 refine Ap ?_;obtain⟨b1,hq1,h⟩:=ob h;try simp only[A,B,C,E,F,J,A9]
 refine Bm ((Ag Qb hq1).un (.cons (.sc (.sl XT.uns)) (.cons (.sc (.sl XT.uns)) .nil))) X (Bg X) X (uf X) ?_;obtain⟨f1,h⟩|⟨f1,h⟩:=ic h
 rotate_left
 ·try simp only[f1,A,B,C,E,F,J,A9]
  cases h;exact t0
 obtain⟨h2,Dx,h⟩:=ob h;try simp only[f1,A,B,C,E,F,J,A9]
 refine Ap ?_;try simp only[A,B,C,E,F,J,A9]
 refine Iu (Ag NX Dx) (by first | rfl | kernel_rfl) (BL X ⟨X,AM,AM,AM,AM,AM,X,X,X,X,X,AM,⟨⟩⟩) X (uf X) ?_;obtain⟨b2,hq2,h⟩:=ob h;try simp only[A,B,C,E,F,J,A9]
 refine Bm (Ag qa hq2) X (Bg X) X (uf X) ?_;try simp only[A,B,C,E,F,J,A9]
 refine Ap ?_;obtain⟨f2,h⟩|⟨f2,h⟩:=ic h
 rotate_left
 ·try simp only[f2,A,B,C,E,F,J,A9]
  cases h;exact t0
 obtain⟨l2,hl2,h⟩:=ob h;try simp only[f2,A,B,C,E,F,J,A9]
 refine Bm (Ag NW hl2) X (BL X ⟨AM,⟨⟩⟩) X (uf X) ?_;obtain⟨b3,hq3,h⟩:=ob h;try simp only[A,B,C,E,F,J,A9]
 refine Bm (Ag qZ hq3) X (Bg X) X (uf X) ?_;obtain⟨f3,h⟩|⟨f3,h⟩:=ic h
 rotate_left
 ·try simp only[f3,A,B,C,E,F,J,A9]
  cases h;exact t0
 obtain⟨k1,hk1,h⟩:=ob h;try simp only[f3,A,B,C,E,F,J,A9]
 refine CN (ids:= [2177,2178,2179,2180,2181,2187]) (qf hk1) X X X (AL (AL (AL (AL (AL (AL Bp)))))) (BO (ID hk1).1 (BO (ID hk1).2.1 (BO (ID hk1).2.2.1 (BO (ID hk1).2.2.2.1 (BO (ID hk1).2.2.2.2.1 (BO (ID hk1).2.2.2.2.2 CY)))))) ?_;obtain⟨k2,hk2,h⟩:=ob h;try simp only[A,B,C,E,F,J,A9]
 refine CN (ids:= [2304]) (qc _ _ _ hk2) X X X (AL Bp) (BO (ji _ _ _ hk2) CY) ?_;obtain⟨f4,h⟩|⟨f4,h⟩:=ic h
 ·try simp only[f4,A,B,C,E,F,J,A9]
  cases h;exact t0
 obtain⟨b4,hq4,h⟩:=ob h;try simp only[f4,A,B,C,E,F,J,A9]
 refine Bm ((Ag Qb hq4).un (.cons (.sc (.sl XT.uns)) (.cons (.sc (.sl XT.uns)) .nil))) X (Bg X) X (uf X) ?_;obtain⟨f5,h⟩|⟨f5,h⟩:=ic h
 rotate_left
 ·try simp only[f5,A,B,C,E,F,J,A9]
  cases h;exact t0
 obtain⟨m,hm,h⟩:=ob h;try simp only[f4,f5,A,B,C,E,F,J,A9]
 have hml:=(Px hm).1;have hun:UnRows (Y (XT.row (L 5)) (CI m.2 ts)) (Y X5.row m.2):=by have:=XT.uns (k:=some 5) (ts:=CI m.2 ts); rwa [Ul hml] at this
 refine fK (FCm.callC (ra hm hap (by simpa using hdg.2)) (by simp[nB hml]) X LP X (fun R=>R.isNewB (id:=3) X X) (fun c hu=> ?_)) X ?_
 ·have:=Vz hu;simp only[List.flatMap_cons,List.flatMap_nil,AV.cells,V1.cells,zH,List.cons_append,zI,zB,zC,or_false] at this
  repeat' (rcases this with rfl | this)
  all_goals first | exact trivial | exact .inl rfl | exact⟨.flat rfl,fun b hb=>by cases hb⟩ | exact .inr fun s es hf=>by cases hf; exact⟨LP,fun b h1 h2=>hsep b (EA.1 h1) (EA.1 h2)⟩ | (subst this; exact⟨.flat rfl,fun b hb=>by cases hb⟩)
 obtain⟨q1,hh1',h⟩:=ob h;try simp only[A,B,C,E,F,J,A9]
 refine Bm ((VJ _ _ _ hh1').un (.cons (.sc (.sl hun)) (.cons (.sc .same) .nil))) X (Bg X) X (uf X) ?_;obtain⟨f6,h⟩|⟨f6,h⟩:=ic h
 ·try simp only[f6,A,B,C,E,F,J,A9]
  cases h;exact t0
 try simp only[f6,A,B,C,E,F,J,A9]
 obtain⟨f7,h⟩|⟨f7,h⟩:=ic h
 ·try simp only[f7,A,B,C,E,F,J,A9]
  cases h;exact t0
 obtain⟨h3,hh3,h⟩:=ob h;obtain⟨c3,hc3,h⟩:=ob h;obtain⟨l3,hl3,h⟩:=ob h;obtain⟨g1,hg1,h⟩:=ob h;try simp only[f7,A,B,C,E,F,J,A9]
 refine Ap ?_;try simp only[A,B,C,E,F,J,A9]
 refine Iu (Ag NX hh3) (by first | rfl | kernel_rfl) (BL X ⟨X,AM,AM,AM,AM,AM,X,X,X,X,X,AM,⟨⟩⟩) X (uf X) ?_;try simp only[zA,I,A,B,C,E,F,J,A9]
 refine Iu (Ag Qc hc3) (by first | rfl | kernel_rfl) (Bg X) X (uf X) ?_;try simp only[zA,I,A,B,C,E,F,J,A9]
 refine Bm (Ag NW hl3) X (BL X ⟨AM,⟨⟩⟩) X (uf X) ?_;try simp only[A,B,C,E,F,J,A9]
 refine Ap ?_;try simp only[A,B,C,E,F,J,A9]
 refine N1 (VT hg1 (hd _ _ _ hh3 hc3 hl3 _ hg1).1) (ds':= [.ag (X9.row h3),.ag (zG c3),.sc (.sl (Y X7.row l3))]) (by first | rfl | kernel_rfl) .refl rfl (fun rs ⟨_,e,_⟩=>by subst e; exact uf rfl) ?_;rintro rs ⟨ts',rfl,rfl,_⟩ _
 try simp only[A,B,C,E,F,J,A9]
 refine Ap ?_;obtain⟨b5,hq5,h⟩:=ob h;try simp only[A,B,C,E,F,J,A9]
 refine Bm ((Ag Qb hq5).un (.cons (.sc (.sl XT.uns)) (.cons (.sc (.sl XT.uns)) .nil))) X (Bg X) X (uf X) ?_;obtain⟨f8,h⟩|⟨f8,h⟩:=ic h
 rotate_left
 ·try simp only[f8,A,B,C,E,F,J,A9]
  cases h;exact t0
 obtain⟨q2,hh2',h⟩:=ob h;try simp only[f8,A,B,C,E,F,J,A9]
 refine Bm ((VJ _ _ _ hh2').un (.cons (.sc (.sl hun)) (.cons (.sc .same) .nil))) X (Bg X) X (uf X) ?_;obtain⟨f9,h⟩|⟨f9,h⟩:=ic h
 ·try simp only[f9,A,B,C,E,F,J,A9]
  cases h;exact t0
 try simp only[f9,A,B,C,E,F,J,A9]
 obtain⟨f10,h⟩|⟨f10,h⟩:=ic h
 ·try simp only[f10,A,B,C,E,F,J,A9]
  cases h;exact t0
 ·try simp only[f10,A,B,C,E,F,J,A9]
  cases h;exact t0
end Go.Vi
