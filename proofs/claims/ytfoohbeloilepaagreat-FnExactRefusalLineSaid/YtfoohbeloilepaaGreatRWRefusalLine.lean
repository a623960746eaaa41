/-
Walks. No condition.
-/
import Derived.Test.YtfoohbeloilepaaGreatRNf
import Derived.Test.YtfoohbeloilepaaGreatChecked
import Derived.Test.YtfoohbeloilepaaGreatRSh
import Derived.Test.YtfoohbeloilepaaGreatRVi41
import Derived.KernelRfl
import Derived.Test.YtfoohbeloilepaaGreatRWRefusalLinec
namespace Go.Vi
open Go.Proofs
set_option linter.all false
set_option maxRecDepth 4000
set_option maxHeartbeats 2000000
open Nat renaming reduceBEq → A, reduceMul → B, reduceAdd → C, reduceDiv → E, le_of_ble_eq_true → uf
open Int renaming reduceBEq → F
attribute [local irreducible] go Bd IR
open List renaming map → W, map_nil → zB, all_eq_true → zC, all_cons → zD, all_nil → zE, cons_append → zF, nil_append → zG
open Tryz renaming prog → X
open Xc renaming row → Y
open Xa renaming row → Z
open Int renaming reduceNegSucc → I, reduceOfNat → zA
open Xb renaming row → zH
open Bool renaming true → T, false → G
open Option renaming some → H, none → L
open _root_ renaming List → N, Option → O, Int → P, Bool → Q, Nat → U, rfl → V
/- 275:impl_coverer_cover -/
def NA:Hw:=([(16,[0,3,4],[99999999999],[90000,90001]),(31,[0,3,4],[99999999999],[90000,90001]),(51,[0,3,4],[99999999999],[90000,90001])],[(48,7,(L,.cut 95)),(55,7,(L,.cut 123))])
def cM:=fun(a0:Xg) v2 (k_:(N P)→P→(N P)→(N P)→O (Q × Xg))=>∀{v22 v23 v24 v25} {zr},k_ v22 v23 v24 v25=H zr→Kh X 275 NA 51 [0,3,4] [99999999999] [90000,90001] ⟨[(0,vc (.pb 99999999999 0)),pI 3 (a0.who.length:P),pI 4 v2],[(99999999999,[aM rU v22,aI v23,.own 90000,.own 90001])],[(90000,1,W rU v24),(90001,1,W rI v25)]⟩ (D2 [2] [.sc (.v (.bool zr.1))] (Cu zr.2) (Cv zr.2))
def cL:=fun(a0:Xg) v2 v3 v4 v6 (k_:(N P)→O (Q × Xg))=>∀{v11} {zr},k_ v11=H zr→Kh X 275 NA 31 [0,3,4] [99999999999] [90000,90001] ⟨[(0,vc (.pb 99999999999 0)),pI 3 (a0.who.length:P),pI 4 v2],[(99999999999,[aM rU v3,aI v4,.own 90000,.own 90001])],[(90000,1,W rU v11),(90001,1,W rI v6)]⟩ (D2 [2] [.sc (.v (.bool zr.1))] (Cu zr.2) (Cv zr.2))
def R5:=fun(a0:Xg) (k_:P→(N P)→P→(N P)→(N P)→O (Q × Xg))=>∀{v2 v3 v4 v5 v6} {zr},k_ v2 v3 v4 v5 v6=H zr→Kh X 275 NA 16 [0,3,4] [99999999999] [90000,90001] ⟨[(0,vc (.pb 99999999999 0)),pI 3 (a0.who.length:P),pI 4 v2],[(99999999999,[aM rU v3,aI v4,.own 90000,.own 90001])],[(90000,1,W rU v5),(90001,1,W rI v6)]⟩ (D2 [2] [.sc (.v (.bool zr.1))] (Cu zr.2) (Cv zr.2))
theorem aV{rec_:Xg→O (Q × Xg)}(h_rec:∀(a0:Xg) zr,rec_ a0=H zr→FCz X 275 [.p] (Cu a0) (Cv a0) (Cu zr.2) (Cv zr.2) [.sc (.v (.bool zr.1))]){a0 v2}{Ep}(Qc:R5 a0 Ep):cM a0 v2 (HG rec_ a0 v2 Ep):=by
 intro v22 v23 v24 v25 r h σ hσ S hS
 conv at hS=>rhs; reduce
 try simp only[zA,I,Au,UInt8.reduceOfNat] at hS
 subst hS;refine AF ?_;unfold HG at h;obtain⟨x26,h26,h⟩:=ob h;have h26n:=B7 h26;obtain⟨h27,h⟩|⟨h27,h⟩:=ic h
 ·obtain⟨p28,h28,h⟩:=ob h;try simp only[hσ,h26,h26n,h27,A,B,C,E,F,J]
  refine IK V V h28 (by rfl) ?_;try simp only[h26,h26n,h27,A,B,C,E,F,J]
  cases h;exact⟨⟨V,⟨⟩⟩,[90000,90001],by decide,by decide,V,V⟩
 ·try simp only[hσ,h26,h26n,h27,A,B,C,E,F,J]
  refine Qc h ?_ (by kernel_rfl);try simp only[h26,h26n,h27,A,B,C,E,F,J,pL,aM,zB]
theorem aW{rec_:Xg→O (Q × Xg)}(h_rec:∀(a0:Xg) zr,rec_ a0=H zr→FCz X 275 [.p] (Cu a0) (Cv a0) (Cu zr.2) (Cv zr.2) [.sc (.v (.bool zr.1))]){a0 v2 v3 v4 v6}{Ep}(Qc:R5 a0 Ep):cL a0 v2 v3 v4 v6 (JK rec_ a0 v2 v3 v4 v6 Ep):=by
 intro v11 r h σ hσ S hS
 conv at hS=>rhs; reduce
 try simp only[zA,I,Au,UInt8.reduceOfNat] at hS
 subst hS;refine AF ?_;unfold JK at h;try simp only[hσ,A,B,C,E,F,J]
 refine At ?_;obtain⟨x12,h12,h⟩:=ob h;have h12n:=B7 h12;obtain⟨x13,h13,h⟩:=ob h;obtain⟨h14,h⟩|⟨h14,h⟩:=ic h
 ·try simp only[h12,h12n,h13,h14,A,B,C,E,F,J]
  refine At ?_;obtain⟨h15,h⟩:=GL h;try simp only[h12,h12n,h13,h14,h15,A,B,C,E,F,J]
  refine Fj (row:=rU) (y:=(B4 .or .u64 x12 (B9 .u64 (1:P) (a0.who.length:P)))) V V h12n V V (by rfl) ?_;try simp only[h12,h12n,h13,h14,h15,A,B,C,E,F,J]
  refine At ?_;try simp only[h12,h12n,h13,h14,h15,A,B,C,E,F,J]
  refine Bn (es:=W rI ([v2]:N P)) ?_;obtain⟨h16,h⟩:=B5 h;obtain⟨r17,h17,h⟩:=ob h;try simp only[h12,h12n,h13,h14,h15,h16,A,B,C,E,F,J]
  refine Gx (h_rec _ _ h17) 99999999999 [90000,90001] rfl V V V (by decide) V V V ?_;obtain⟨h18,h⟩|⟨h18,h⟩:=ic h
  ·try simp only[h12,h12n,h13,h14,h15,h16,h18,A,B,C,E,F,J]
   cases h;exact⟨⟨V,⟨⟩⟩,[90000,90001],by decide,by decide,V,V⟩
  ·obtain⟨p19,h19,h⟩:=ob h;try simp only[h12,h12n,h13,h14,h15,h16,h18,A,B,C,E,F,J]
   refine IK V V h19 (by rfl) ?_;try simp only[h12,h12n,h13,h14,h15,h16,h18,A,B,C,E,F,J]
   refine At ?_;obtain⟨x20,h20,h⟩:=ob h;have h20n:=B7 h20;obtain⟨h21,h⟩:=GL h;try simp only[h12,h12n,h13,h14,h15,h16,h18,h20,h20n,h21,A,B,C,E,F,J]
   refine Fj (row:=rU) (y:=(B4 .andNot .u64 x20 (B9 .u64 (1:P) (a0.who.length:P)))) V V h20n V V (by rfl) ?_;try simp only[h12,h12n,h13,h14,h15,h16,h18,h20,h20n,h21,A,B,C,E,F,J]
   refine At ?_;try simp only[h12,h12n,h13,h14,h15,h16,h18,h20,h20n,h21,A,B,C,E,F,J]
   refine aV h_rec Qc h ?_ (by kernel_rfl);try simp only[h12,h12n,h13,h14,h15,h16,h18,h20,h20n,h21,A,B,C,E,F,J,pL,aM,zB]
 ·try simp only[h12,h12n,h13,h14,A,B,C,E,F,J]
  refine aV h_rec Qc h ?_ (by kernel_rfl);try simp only[h12,h12n,h13,h14,A,B,C,E,F,J,pL,aM,zB]
theorem A3w{rec_:Xg→O (Q × Xg)}(h_rec:∀(a0:Xg) zr,rec_ a0=H zr→FCz X 275 [.p] (Cu a0) (Cv a0) (Cu zr.2) (Cv zr.2) [.sc (.v (.bool zr.1))]){a0}{n:U}:R5 a0 (EY rec_ a0 n):=by
 induction n with
 | zero=>intro _ _ _ _ _ r h; cases h
 | succ n ih=>
  intro v2 v3 v4 v5 v6 r h σ hσ S hS
  conv at hS=>rhs; reduce
  try simp only[zA,I,Au,UInt8.reduceOfNat] at hS
  subst hS;rw[EY] at h;refine AZ (AF ?_);obtain⟨h7,h⟩|⟨h7,h⟩:=ic h
  ·obtain⟨h8,h⟩|⟨h8,h⟩:=ic h
   ·obtain⟨h9,h⟩|⟨h9,h⟩:=ic h
    ·try simp only[hσ,h7,h8,h9,A,B,C,E,F,J]
     refine Bn (es:=W rU ([(0:P)]:N P)) ?_;obtain⟨h10,h⟩:=B5 h;try simp only[h7,h8,h9,h10,A,B,C,E,F,J]
     refine aW h_rec ih h ?_ (by kernel_rfl);try simp only[h7,h8,h9,h10,A,B,C,E,F,J,pL,aM,zB]
    ·try simp only[hσ,h7,h8,h9,A,B,C,E,F,J]
     refine aW h_rec ih h ?_ (by kernel_rfl);try simp only[h7,h8,h9,A,B,C,E,F,J,pL,aM,zB]
   ·try simp only[hσ,h7,h8,A,B,C,E,F,J]
    cases h;exact⟨⟨V,⟨⟩⟩,[90000,90001],by decide,by decide,V,V⟩
  ·try simp only[hσ,h7,A,B,C,E,F,J]
   cases h;exact⟨⟨V,⟨⟩⟩,[90000,90001],by decide,by decide,V,V⟩
theorem kp:Ch X 275=H ((H2 X 275 NA).strip,[2],126):=by kernel_rfl
theorem xd(rec_:Xg→O (Q × Xg))(a0:Xg)(r:Q × Xg)(h_rec:∀(a0:Xg) zr,rec_ a0=H zr→FCz X 275 [.p] (Cu a0) (Cv a0) (Cu zr.2) (Cv zr.2) [.sc (.v (.bool zr.1))])(h:LP rec_ a0=H r):FCz X 275 [.p] (Cu a0) (Cv a0) (Cu r.2) (Cv r.2) [.sc (.v (.bool r.1))]:=by
 unfold LP at h;refine OJ (σ:=⟨[(0,vc (.pb 99999999999 0))],[(99999999999,[aL (W rU a0.sets),aI a0.most,.own 90000,.own 90001])],[(90000,1,W rU a0.groups),(90001,1,W rI a0.who)]⟩) mixed kp V V V V ?_;refine Jk NA ?_;intro S hS
 conv at hS=>rhs; reduce
 try simp only[zA,I,Au,UInt8.reduceOfNat] at hS
 subst hS;obtain⟨h1,h⟩|⟨h1,h⟩:=ic h
 ·try simp only[h1,A,B,C,E,F,J]
  cases h;exact⟨⟨V,⟨⟩⟩,[90000,90001],by decide,by decide,V,V⟩
 ·try simp only[h1,A,B,C,E,F,J]
  refine A3w h_rec h ?_ (by kernel_rfl);try simp only[h1,A,B,C,E,F,J,pL,aM,zB]
theorem xe:∀(n:U) (a0:Xg) (r:Q × Xg),DL n a0=H r→FCz X 275 [.p] (Cu a0) (Cv a0) (Cu r.2) (Cv r.2) [.sc (.v (.bool r.1))]:=by
 intro n
 induction n with
 | zero=>intro _ r h; cases h
 | succ n ih=>intro a0 r h; rw[DL] at h; exact xd (DL n) a0 r ih h
theorem xc{a0}{r}(h:RN a0=H r):FCz X 275 [.p] (Cu a0) (Cv a0) (Cu r.2) (Cv r.2) [.sc (.v (.bool r.1))]:=xe bigN a0 r h
/- 260:impl_LeastCover -/
def oX:Hw:=([],[(13,5,(L,.ownb 24 2 152704 1)),(13,6,(L,.ownb 24 3 152768 1)),(15,1,(L,.frz 1216))])
instance A7i:Ct 260 (∀{a0} {a1} {a2} {r},Lp a0 a1 a2=H r→FC X 260 [.sc (.int .i64 a0),.sc (.sl (W rI a1)),.sc (.sl (W X9.row a2))] [.sc (.o 1 (W rI r.1)),.sc (.v (.int .i64 r.2.1)),.sc (.v (.bool r.2.2))]):=by
 refine⟨fun{a0} {a1} {a2} {r} h=> ?_⟩;unfold Lp at h;refine A4 mixed oX [6,7,8] 35 ?_;intro S hS
 conv at hS=>rhs; reduce
 try simp only[zA,I,Au,UInt8.reduceOfNat] at hS
 subst hS;simp only[A,B,C,E,F,J];obtain⟨r1,h1,h⟩:=ob h;try simp only[A,B,C,E,F,J]
 refine AY (Aq xb h1) ?_;obtain⟨h2,h⟩|⟨h2,h⟩:=ic h
 ·obtain⟨r3,h3,h⟩:=ob h;try simp only[h2,A,B,C,E,F,J]
  refine AY (Aq xl h3) ?_;obtain⟨r4,h4,h⟩:=ob h;try simp only[h2,A,B,C,E,F,J]
  refine Fh (Aq xi h4) V (Fg V) V (uf V) ?_;try simp only[h2,A,B,C,E,F,J]
  refine C5 ?_;try simp only[h2,A,B,C,E,F,J]
  refine Fi (cs':= [.own 1216,aI r4,.own 152704,.nil]) V V V V ?_;try simp only[h2,A,B,C,E,F,J]
  refine Fi (cs':= [.own 1216,aI r4,.own 152704,.own 152768]) V V V V ?_;try simp only[h2,A,B,C,E,F,J]
  refine CF ?_;obtain⟨r5,h5,h⟩:=ob h;try simp only[h2,A,B,C,E,F,J]
  refine Gx (xc h5) 24 [152704,152768] rfl V V V (by decide) V V V ?_;try simp only[h2,A,B,C,E,F,J]
  refine At ?_;try simp only[h2,A,B,C,E,F,J]
  cases h;trivial
 ·try simp only[h2,A,B,C,E,F,J]
  cases h;trivial
/- 237:impl_coverFits -/
instance A8c:Ct 237 (∀{a0} {a1} {a2} {a3} {r},FZ a0 a1 a2 a3=H r→FC X 237 [.sc (.int .i64 a0),.sc (.sl (W rI a1)),.sc (.sl (W X9.row a2)),.sc (.int .i64 a3)] [.sc (.v (.bool r))]):=by
 refine⟨fun h=> ?_⟩;unfold FZ at h;refine A4 mixed h0 [8] 27 ?_;exact gc
/- 214:impl_crewFits -/
def Wf:Hw:=([(8,[2,5,6,13,14,15],[2],[704,768])],[])
def cN:=fun a1 (a0:X4) (k_:P→(N X3)→(N X9)→O Q)=>∀{v1 v2 v3} {zr},k_ v1 v2 v3=H zr→Kh X 214 Wf 8 [2,5,6,13,14,15] [2] [704,768] ⟨[pB 2,pW 5 704,pW 6 768,pL 13 X0.row a1,pI 14 (a1.length:P),pI 15 v1],[(2,([aI a0.Forecast.Tide.Mean,aM Y a0.Forecast.Tide.Parts,aM Z a0.Forecast.Surges,aM X7.row a0.Chart.Points,aM X2.row a0.Chart.Segments,aM X6.row a0.Fleet,aI a0.Regime.Gap,aB a0.Regime.NoMeet]++dm a0.Crew.row))],[(704,5,W X3.row v2),(768,4,W X9.row v3)]⟩ (A7 [4] [.sc (.v (.bool zr))])
theorem A3x{a1 a0}{n:U}:cN a1 a0 (G0 a1 a0 n):=by
 induction n with
 | zero=>intro _ _ _ r h; cases h
 | succ n ih=>
  intro v1 v2 v3 r h σ hσ;rw[G0] at h;have s0:=fun(r10:X9)=> @Ai (W X9.row ([r10]:N X9))
  exact gc
instance xf:Ct 214 (∀{a0} {a1} {r},Dn a0 a1=H r→FC X 214 [.ag (X4.row a0),.sc (.sl (W X0.row a1))] [.sc (.v (.bool r))]):=by
 refine⟨fun h=> ?_⟩;unfold Dn at h;refine A4 mixed Wf [4] 79 ?_;have s0:= @Ai (W X3.row ([]:N X3));have s1:= @Ai (W X9.row ([]:N X9));have k0:= @A3x;exact gc
/- 184:impl_fitsTo -/
def OD:N (N U × AItem):= [([],(L,.load 25 (S 3) T 12)),([],(L,.mv 26 (S 1))),([1],(L,.call 27 215 [(S 26)])),([],(L,.load 28 (S 5) T 4)),([3],(L,.bslice 29 4 [.int .i64 0,.int .i64 0,.int .i64 0,.sl []] 1 [(0,(S 28))])),([2,4,2],(L,.app 30 4 48 (S 27) (S 29))),([0,5,5],(L,.call 31 214 [(S 25),(S 30)])),([6,6,0,1,2,3,4,5,6],(L,.mv 6 (S 31)))]
def Wg:Hw:=([(6,[1,3,5,9,10,11],[3,5],[])],[])
abbrev Cl(a1:N X0)(a0:X4)(a2:X0)(r9:Q)(wo2_:AV)(c0_ c1_:Q)(c2_ c3_:Q)(c4_ c5_:Q)(c6_ c7_:Q)(bx_:N (U × N AC))(rs_:Rows):St:=⟨[(1,vc (aL (W X0.row a1))),(3,vc (.pb 3 0)),(5,vc (.pb 5 0)),(25,bif c0_ then va ([aI a0.Forecast.Tide.Mean,aL (W Y a0.Forecast.Tide.Parts),aL (W Z a0.Forecast.Surges),aL (W X7.row a0.Chart.Points),aL (W X2.row a0.Chart.Segments),aL (W X6.row a0.Fleet),aI a0.Regime.Gap,aB a0.Regime.NoMeet]++dm a0.Crew.row) else .undef),(26,bif c1_ then vc (aL (W X0.row a1)) else .undef),(27,bif c2_ then wo2_ else .undef),(28,bif c3_ then va (dm a2.row) else .undef),(29,bif c4_ then vc (.own 1856) else .undef),(30,bif c5_ then vc (.own 1728) else .undef),(31,bif c6_ then vc (aB r9) else .undef),(6,bif c7_ then vc (aB r9) else .undef)],bx_,rs_⟩
abbrev J8(a1:N X0)(a0:X4)(a2:X0)(r6:(N X0))(r9:Q):St:=(Cl a1 a0 a2 r9 (vc (.undef)) T T T T T T T T [(3,([aI a0.Forecast.Tide.Mean,aL (W Y a0.Forecast.Tide.Parts),aL (W Z a0.Forecast.Surges),aL (W X7.row a0.Chart.Points),aL (W X2.row a0.Chart.Segments),aL (W X6.row a0.Fleet),aI a0.Regime.Gap,aB a0.Regime.NoMeet]++dm a0.Crew.row)),(5,(dm a2.row))] [(1728,4,W X0.row (r6++([a2]:N X0))),(1856,4,W X0.row ([a2]:N X0))])
theorem A3z(a1 a0 a2 r6 r9)(h6:Ee a1=H r6)(h7:(A3 r6.length ([a2]:N X0).length 48)=T)(h9:Dn a0 (r6++([a2]:N X0))=H r9):∀(f:U) (b0 b6 b7:Q),Ab X OD (J8 a1 a0 a2 r6 r9) f [b0,T,T,T,T,T,b6,b7] (Cl a1 a0 a2 r9 (vc (.undef)) b0 T T T T T b6 b7 [(3,([aI a0.Forecast.Tide.Mean,aL (W Y a0.Forecast.Tide.Parts),aL (W Z a0.Forecast.Surges),aL (W X7.row a0.Chart.Points),aL (W X2.row a0.Chart.Segments),aL (W X6.row a0.Fleet),aI a0.Regime.Gap,aB a0.Regime.NoMeet]++dm a0.Crew.row)),(5,(dm a2.row))] [(1728,4,W X0.row (r6++([a2]:N X0))),(1856,4,W X0.row ([a2]:N X0))]):=by
 intro f
 induction f with
 | zero=>
  intro b0 b6 b7 h;obtain rfl:b0=T:=zC.1 h b0 (by simp);obtain rfl:b6=T:=zC.1 h b6 (by simp);obtain rfl:b7=T:=zC.1 h b7 (by simp);rfl
 | succ f ih=>
  intro b0 b6 b7;refine Ad ⟨?_,?_,?_,?_,?_,?_,?_,?_,⟨⟩⟩<;>try first | (intro h; cases h; done) | (intro h0 hw; obtain rfl:=hz h0 rfl; (try obtain rfl:=hq hw 0 rfl rfl); (try obtain rfl:=hq hw 6 rfl rfl); refine np ?_; simp only[Cl,A5,A6,A1,A,B,C,E,F,J]; exact ih _ _ _)
  ·intro h0 hw;obtain rfl:=hz h0 rfl;obtain rfl:=hq hw 0 rfl rfl;refine np ?_;try simp only[Cl,A5,A6,A1,A,B,C,E,F,J]
   refine Fh (Aq xf h9) V (Fg V) (by simp only[St.fresh,zD,zE,Ah]; simp[AV.cells,V1.cells,AC.uses]) (uf V) ?_;try simp only[A1,A,B,C,E,F,J]
   exact ih T T b7
theorem aX(a1 a0 a2 r6 r9)(h6:Ee a1=H r6)(h7:(A3 r6.length ([a2]:N X0).length 48)=T)(h9:Dn a0 (r6++([a2]:N X0))=H r9):∀(f:U) (b0:Q),Ab X OD (J8 a1 a0 a2 r6 r9) f [b0,T,T,T,T,G,G,G] (Cl a1 a0 a2 r9 (vc (.own 1728)) b0 T T T T G G G [(3,([aI a0.Forecast.Tide.Mean,aL (W Y a0.Forecast.Tide.Parts),aL (W Z a0.Forecast.Surges),aL (W X7.row a0.Chart.Points),aL (W X2.row a0.Chart.Segments),aL (W X6.row a0.Fleet),aI a0.Regime.Gap,aB a0.Regime.NoMeet]++dm a0.Crew.row)),(5,(dm a2.row))] [(1728,4,W X0.row r6),(1856,4,W X0.row ([a2]:N X0))]):=by
 intro f
 induction f with
 | zero=>intro b0 h; simp at h
 | succ f ih=>
  intro b0;refine Ad ⟨?_,?_,?_,?_,?_,?_,?_,?_,⟨⟩⟩<;>try first | (intro h; cases h; done) | (intro _ hw; simp at hw; done) | (intro h0 hw; obtain rfl:=hz h0 rfl; refine np ?_; simp only[Cl,A5,A6,A1,A,B,C,E,F,J]; exact ih _)
  ·intro h0 hw;refine np ?_;try simp only[h7,Cl,A5,A6,A1,A,B,C,E,F,J]
   exact A3z a1 a0 a2 r6 r9 h6 h7 h9 _ b0 G G
theorem A30(a1 a0 a2 r6 r9)(h6:Ee a1=H r6)(h7:(A3 r6.length ([a2]:N X0).length 48)=T)(h9:Dn a0 (r6++([a2]:N X0))=H r9):∀(f:U) (b0 b3:Q),Ab X OD (J8 a1 a0 a2 r6 r9) f [b0,T,T,b3,G,G,G,G] (Cl a1 a0 a2 r9 (vc (.own 1728)) b0 T T b3 G G G G [(3,([aI a0.Forecast.Tide.Mean,aL (W Y a0.Forecast.Tide.Parts),aL (W Z a0.Forecast.Surges),aL (W X7.row a0.Chart.Points),aL (W X2.row a0.Chart.Segments),aL (W X6.row a0.Fleet),aI a0.Regime.Gap,aB a0.Regime.NoMeet]++dm a0.Crew.row)),(5,(dm a2.row))] [(1728,4,W X0.row r6)]):=by
 intro f
 induction f with
 | zero=>intro b0 b3 h; simp at h
 | succ f ih=>
  intro b0 b3;refine Ad ⟨?_,?_,?_,?_,?_,?_,?_,?_,⟨⟩⟩<;>try first | (intro h; cases h; done) | (intro _ hw; simp at hw; done) | (intro h0 hw; obtain rfl:=hz h0 rfl; refine np ?_; simp only[Cl,A5,A6,A1,A,B,C,E,F,J]; exact ih _ _)
  ·intro h0 hw;obtain rfl:=hq hw 3 rfl rfl;refine np ?_;try simp only[Cl,A5,A6,A1,A,B,C,E,F,J]
   refine Am (es:=W X0.row ([a2]:N X0)) V (by simp only[St.fresh,zD,zE,Ah]; simp[AV.cells,V1.cells,AC.uses]) ?_;try simp only[A1,A,B,C,E,F,J]
   exact aX a1 a0 a2 r6 r9 h6 h7 h9 _ b0
theorem A31(a1 a0 a2 r6 r9)(h6:Ee a1=H r6)(h7:(A3 r6.length ([a2]:N X0).length 48)=T)(h9:Dn a0 (r6++([a2]:N X0))=H r9):∀(f:U) (b0 b1:Q),Ab X OD (J8 a1 a0 a2 r6 r9) f [b0,b1,G,T,T,G,G,G] (Cl a1 a0 a2 r9 (vc (.own 1728)) b0 b1 G T T G G G [(3,([aI a0.Forecast.Tide.Mean,aL (W Y a0.Forecast.Tide.Parts),aL (W Z a0.Forecast.Surges),aL (W X7.row a0.Chart.Points),aL (W X2.row a0.Chart.Segments),aL (W X6.row a0.Fleet),aI a0.Regime.Gap,aB a0.Regime.NoMeet]++dm a0.Crew.row)),(5,(dm a2.row))] [(1856,4,W X0.row ([a2]:N X0))]):=by
 intro f
 induction f with
 | zero=>intro b0 b1 h; simp at h
 | succ f ih=>
  intro b0 b1;refine Ad ⟨?_,?_,?_,?_,?_,?_,?_,?_,⟨⟩⟩<;>try first | (intro h; cases h; done) | (intro _ hw; simp at hw; done) | (intro h0 hw; obtain rfl:=hz h0 rfl; refine np ?_; simp only[Cl,A5,A6,A1,A,B,C,E,F,J]; exact ih _ _)
  ·intro h0 hw;obtain rfl:=hq hw 1 rfl rfl;refine⟨[],[(L,.keep [1,3,5,25,26,27,28,29,30,31,6] [3,5] [1728,1856])],V,V,?_⟩;try simp only[Cl,A5,A6,zG,zF,A1,A,B,C,E,F,J]
   refine Ks (Aq ZT h6) V (by simp only[St.fresh,zD,zE,Ah]; simp[AV.cells,V1.cells,AC.uses]) (uf V) ?_;try simp only[A1,A,B,C,E,F,J]
   exact aX a1 a0 a2 r6 r9 h6 h7 h9 _ b0
theorem A32(a1 a0 a2 r6 r9)(h6:Ee a1=H r6)(h7:(A3 r6.length ([a2]:N X0).length 48)=T)(h9:Dn a0 (r6++([a2]:N X0))=H r9):∀(f:U) (b0 b1 b3:Q),Ab X OD (J8 a1 a0 a2 r6 r9) f [b0,b1,G,b3,G,G,G,G] (Cl a1 a0 a2 r9 (vc (.own 1728)) b0 b1 G b3 G G G G [(3,([aI a0.Forecast.Tide.Mean,aL (W Y a0.Forecast.Tide.Parts),aL (W Z a0.Forecast.Surges),aL (W X7.row a0.Chart.Points),aL (W X2.row a0.Chart.Segments),aL (W X6.row a0.Fleet),aI a0.Regime.Gap,aB a0.Regime.NoMeet]++dm a0.Crew.row)),(5,(dm a2.row))] []):=by
 intro f
 induction f with
 | zero=>intro b0 b1 b3 h; simp at h
 | succ f ih=>
  intro b0 b1 b3;refine Ad ⟨?_,?_,?_,?_,?_,?_,?_,?_,⟨⟩⟩<;>try first | (intro _ hw; simp at hw; done) | (intro h0 hw; obtain rfl:=hz h0 rfl; refine np ?_; simp only[Cl,A5,A6,A1,A,B,C,E,F,J]; exact ih _ _ _)
  ·intro h0 hw;obtain rfl:=hq hw 1 rfl rfl;refine np ?_;try simp only[Cl,A5,A6,A1,A,B,C,E,F,J]
   refine Ks (Aq ZT h6) V (by simp only[St.fresh,zD,zE,Ah]; simp[AV.cells,V1.cells,AC.uses]) (uf V) ?_;try simp only[A1,A,B,C,E,F,J]
   exact A30 a1 a0 a2 r6 r9 h6 h7 h9 _ b0 b3
  ·intro h0 hw;obtain rfl:=hq hw 3 rfl rfl;refine np ?_;try simp only[Cl,A5,A6,A1,A,B,C,E,F,J]
   refine Am (es:=W X0.row ([a2]:N X0)) V (by simp only[St.fresh,zD,zE,Ah]; simp[AV.cells,V1.cells,AC.uses]) ?_;try simp only[A1,A,B,C,E,F,J]
   exact A31 a1 a0 a2 r6 r9 h6 h7 h9 _ b0 b1
def cO:=fun a1 (a0:X4) (a2:X0) (k_:P→O Q)=>∀{v1} {zr},k_ v1=H zr→Kh X 184 Wg 6 [1,3,5,9,10,11] [3,5] [] ⟨[pL 1 X0.row a1,pB 3,pB 5,pL 9 X0.row a1,pI 10 (a1.length:P),pI 11 v1],[(3,([aI a0.Forecast.Tide.Mean,aM Y a0.Forecast.Tide.Parts,aM Z a0.Forecast.Surges,aM X7.row a0.Chart.Points,aM X2.row a0.Chart.Segments,aM X6.row a0.Fleet,aI a0.Regime.Gap,aB a0.Regime.NoMeet]++dm a0.Crew.row)),(5,(dm a2.row))],[]⟩ (A7 [6] [.sc (.v (.bool zr))])
theorem A33{a1 a0 a2}{n:U}:cO a1 a0 a2 (HH a1 a0 a2 n):=by
 induction n with
 | zero=>intro _ r h; cases h
 | succ n ih=>
  intro v1 r h σ hσ S hS
  conv at hS=>rhs; reduce
  try simp only[zA,I,Au,UInt8.reduceOfNat] at hS
  subst hS;rw[HH] at h;refine AZ (AF ?_);obtain⟨h2,h⟩|⟨h2,h⟩:=ic h
  ·obtain⟨x3,h3,h⟩:=ob h;try simp only[hσ,h2,h3,A,B,C,E,F,J]
   refine Cd ?_;obtain⟨r4,h4,h⟩:=ob h;try simp only[h2,h3,A,B,C,E,F,J]
   refine AY (Aq xa h4) ?_;obtain⟨h5,h⟩|⟨h5,h⟩:=ic h
   ·try simp only[h2,h3,h5,A,B,C,E,F,J]
    cases h;exact t0
   ·try simp only[h2,h3,h5,A,B,C,E,F,J]
    refine ih h ?_ (by kernel_rfl);try simp only[h2,h3,h5,A,B,C,E,F,J,pL,aM,zB]
  ·try simp only[hσ,h2,A,B,C,E,F,J]
   obtain⟨r6,h6,h⟩:=ob h;obtain⟨h7,h⟩:=B5 h;obtain⟨r9,h9,h⟩:=ob h;refine DS (ks:= [1,3,5]) (bs:= [3,5]) (rs:= []) (τ:=(J8 a1 a0 a2 r6 r9)) V (A32 a1 a0 a2 r6 r9 h6 h7 h9 _ G G G) ?_;simp only[J8,Cl,A5];try simp only[h2,h7,A,B,C,E,F,J]
   cases h;exact t0
instance xg:Ct 184 (∀{a0} {a1} {a2} {r},LQ a0 a1 a2=H r→FC X 184 [.ag (X4.row a0),.sc (.sl (W X0.row a1)),.ag (X0.row a2)] [.sc (.v (.bool r))]):=by
 refine⟨fun h=> ?_⟩;unfold LQ at h;refine A4 mixed Wg [6] 32 ?_;have k0:= @A33;exact gc
/- 148:impl_planner_search -/
def OE:N (N U × AItem):= [([],(L,.mv 40 (S 0))),([],(L,.mv 41 (S 0))),([],(L,.mv 42 (S 0))),([],(L,.mv 43 (S 0))),([3],(L,.nilc 44 (S 43))),([4],(L,.faddr 45 (S 44) 15)),([5],(L,.load 46 (S 45) G 1)),([6],(L,.call 47 183 [(S 46)])),([],(L,.load 48 (S 2) T 2)),([0,0,3,4,5,6,7],(L,.nilc 49 (S 40))),([9,0,3,4,5,6,7],(L,.faddr 50 (S 49) 16)),([10,7,7,0,3,4,5,6,7],(L,.store (S 50) (S 47) 1)),([1,0,1,3,4,5,6,7,8,9,10,11],(L,.nilc 51 (S 41))),([12,0,1,3,4,5,6,7,8,9,10,11],(L,.faddr 52 (S 51) 17)),([13,8,11,0,1,3,4,5,6,7,8,9,10,11],(L,.store (S 52) (S 48) 2)),([2,0,1,2,3,4,5,6,7,8,9,10,11,12,13,14],(L,.nilc 53 (S 42))),([15,0,1,2,3,4,5,6,7,8,9,10,11,12,13,14],(L,.faddr 54 (S 53) 19)),([16,14,0,1,2,3,4,5,6,7,8,9,10,11,12,13,14],(L,.store (S 54) (KB T) 1))]
def FH:N (N U × AItem):= [([],(L,.mv 79 (S 0))),([],(L,.mv 80 (S 0))),([],(L,.mv 81 (S 0))),([2],(L,.nilc 82 (S 81))),([3],(L,.faddr 83 (S 82) 14)),([4],(L,.load 84 (S 83) G 1)),([],(L,.load 85 (S 5) T 4)),([6],(L,.bslice 86 4 [.int .i64 0,.int .i64 0,.int .i64 0,.sl []] 1 [(0,(S 85))])),([5,7],(L,.app 87 4 48 (S 84) (S 86))),([],(L,.mv 88 (S 0))),([9],(L,.nilc 89 (S 88))),([10],(L,.faddr 90 (S 89) 15)),([11],(L,.load 91 (S 90) G 1)),([],(L,.mv 92 (S 4))),([13],(L,.bslice 93 1 [.int .i64 0] 1 [(0,(S 92))])),([12,14,8],(L,.app 94 1 8 (S 91) (S 93))),([0,0,2,3,4,5,6,7,8,12,15],(L,.nilc 95 (S 79))),([16,0,2,3,4,5,6,7,8,12,15],(L,.faddr 96 (S 95) 14)),([17,8,15,0,2,3,4,5,6,7,8,12,15],(L,.store (S 96) (S 87) 1)),([1,0,1,2,3,4,5,6,7,8,9,10,11,12,13,14,15,16,17,18],(L,.nilc 97 (S 80))),([19,0,1,2,3,4,5,6,7,8,9,10,11,12,13,14,15,16,17,18],(L,.faddr 98 (S 97) 15)),([20,15,18,0,1,2,3,4,5,6,7,8,9,10,11,12,13,14,15,16,17,18],(L,.store (S 98) (S 94) 1))]
def Jc:N (N U × AItem):= [([],(L,.mv 101 (S 0))),([],(L,.mv 102 (S 0))),([],(L,.mv 103 (S 0))),([2],(L,.nilc 104 (S 103))),([3],(L,.faddr 105 (S 104) 14)),([4],(L,.load 106 (S 105) G 1)),([],(L,.mv 107 (S 3))),([5,6],(L,.slc 108 4 (S 106) L (H (S 107)) L)),([],(L,.mv 109 (S 0))),([8],(L,.nilc 110 (S 109))),([9],(L,.faddr 111 (S 110) 15)),([10],(L,.load 112 (S 111) G 1)),([],(L,.mv 113 (S 3))),([11,12],(L,.slc 114 1 (S 112) L (H (S 113)) L)),([0,0,2,3,4,5,6,7,11],(L,.nilc 115 (S 101))),([14,0,2,3,4,5,6,7,11],(L,.faddr 116 (S 115) 14)),([15,7,0,2,3,4,5,6,7,11],(L,.store (S 116) (S 108) 1)),([1,0,1,2,3,4,5,6,7,8,9,10,11,12,13,14,15,16],(L,.nilc 117 (S 102))),([17,0,1,2,3,4,5,6,7,8,9,10,11,12,13,14,15,16],(L,.faddr 118 (S 117) 15)),([18,13,16,0,1,2,3,4,5,6,7,8,9,10,11,12,13,14,15,16],(L,.store (S 118) (S 114) 1))]
def Qa:Hw:=([(8,[0,2],[99999999999,2],[90000,90001,90002]),(21,[0,3,61,62,63],[99999999999],[90000,90001,90002])],[])
abbrev CK(r1:Xj)(c0_ c1_:Q)(c2_ c3_:Q)(c4_ c5_:Q)(c6_ c7_:Q)(c8_ c9_:Q)(c10_ c12_:Q)(c13_ c15_ c16_:Q)(bx_:N (U × N AC))(rs_:Rows):St:=⟨[(0,vc (.pb 99999999999 0)),(2,vc (.pb 2 0)),(40,bif c0_ then vc (.pb 99999999999 0) else .undef),(41,bif c1_ then vc (.pb 99999999999 0) else .undef),(42,bif c2_ then vc (.pb 99999999999 0) else .undef),(43,bif c3_ then vc (.pb 99999999999 0) else .undef),(44,bif c4_ then vc (.pb 99999999999 0) else .undef),(45,bif c5_ then vc (.pb 99999999999 15) else .undef),(46,bif c6_ then vc (.own 90001) else .undef),(47,bif c7_ then vc (.own 3008) else .undef),(48,bif c8_ then va [aI r1.i0,aI r1.i1] else .undef),(49,bif c9_ then vc (.pb 99999999999 0) else .undef),(50,bif c10_ then vc (.pb 99999999999 16) else .undef),(51,bif c12_ then vc (.pb 99999999999 0) else .undef),(52,bif c13_ then vc (.pb 99999999999 17) else .undef),(53,bif c15_ then vc (.pb 99999999999 0) else .undef),(54,bif c16_ then vc (.pb 99999999999 19) else .undef)],bx_,rs_⟩
abbrev J9(F_w0:FuncId)(caps_w0:N D)(a0:Xf)(r1:Xj)(r7:(N P)):St:=(CK r1 T T T T T T T T T T T T T T T [(99999999999,([aI a0.h.Forecast.Tide.Mean,aL (W Y a0.h.Forecast.Tide.Parts),aL (W Z a0.h.Forecast.Surges),aL (W X7.row a0.h.Chart.Points),aL (W X2.row a0.h.Chart.Segments),aL (W X6.row a0.h.Fleet),aI a0.h.Regime.Gap,aB a0.h.Regime.NoMeet]++dm a0.h.Crew.row++ [aL (W (rL X0.row) a0.choices),.dat (.clo F_w0 caps_w0),.own 90000,.own 90001,.own 3008,aI r1.i0,aI r1.i1,aB T])),(2,[aI r1.i0,aI r1.i1])] [(90000,4,W X0.row a0.plan),(90001,1,W rI a0.choice),(90002,1,W rI a0.best),(3008,1,W rI r7)])
theorem A34(F_w0:FuncId)(caps_w0:N D)(a0:Xf)(r1:Xj)(v5:Q)(r7)(h7:Bx a0.choice=H r7):∀(f:U) (b15:Q),Ab X OE (J9 F_w0 caps_w0 a0 r1 r7) f [T,T,T,T,T,T,T,T,T,T,T,T,T,T,T,b15,T,T] (CK r1 T T T T T T T T T T T T T b15 T [(99999999999,([aI a0.h.Forecast.Tide.Mean,aL (W Y a0.h.Forecast.Tide.Parts),aL (W Z a0.h.Forecast.Surges),aL (W X7.row a0.h.Chart.Points),aL (W X2.row a0.h.Chart.Segments),aL (W X6.row a0.h.Fleet),aI a0.h.Regime.Gap,aB a0.h.Regime.NoMeet]++dm a0.h.Crew.row++ [aL (W (rL X0.row) a0.choices),.dat (.clo F_w0 caps_w0),.own 90000,.own 90001,.own 3008,aI r1.i0,aI r1.i1,aB T])),(2,[aI r1.i0,aI r1.i1])] [(90000,4,W X0.row a0.plan),(90001,1,W rI a0.choice),(90002,1,W rI a0.best),(3008,1,W rI r7)]):=by
 intro f
 induction f with
 | zero=>
  intro b15 h;obtain rfl:b15=T:=zC.1 h b15 (by simp);rfl
 | succ f ih=>
  intro b15;refine Ad ⟨?_,?_,?_,?_,?_,?_,?_,?_,?_,?_,?_,?_,?_,?_,?_,?_,?_,?_,⟨⟩⟩<;>try first | (intro h; cases h; done) | (intro h0 hw; obtain rfl:=hz h0 rfl; refine np ?_; simp only[CK,A5,A6,A1,A,B,C,E,F,J]; exact ih _)
theorem A35(F_w0:FuncId)(caps_w0:N D)(a0:Xf)(r1:Xj)(v5:Q)(r7)(h7:Bx a0.choice=H r7):∀(f:U) (b2 b12:Q) (b15 b16:Q),Ab X OE (J9 F_w0 caps_w0 a0 r1 r7) f [T,T,b2,T,T,T,T,T,T,T,T,T,b12,T,T,b15,b16,G] (CK r1 T T b2 T T T T T T T T b12 T b15 b16 [(99999999999,([aI a0.h.Forecast.Tide.Mean,aL (W Y a0.h.Forecast.Tide.Parts),aL (W Z a0.h.Forecast.Surges),aL (W X7.row a0.h.Chart.Points),aL (W X2.row a0.h.Chart.Segments),aL (W X6.row a0.h.Fleet),aI a0.h.Regime.Gap,aB a0.h.Regime.NoMeet]++dm a0.h.Crew.row++ [aL (W (rL X0.row) a0.choices),.dat (.clo F_w0 caps_w0),.own 90000,.own 90001,.own 3008,aI r1.i0,aI r1.i1,aB v5])),(2,[aI r1.i0,aI r1.i1])] [(90000,4,W X0.row a0.plan),(90001,1,W rI a0.choice),(90002,1,W rI a0.best),(3008,1,W rI r7)]):=by
 intro f
 induction f with
 | zero=>intro b2 b12 b15 b16 h; simp at h
 | succ f ih=>
  intro b2 b12 b15 b16;refine Ad ⟨?_,?_,?_,?_,?_,?_,?_,?_,?_,?_,?_,?_,?_,?_,?_,?_,?_,?_,⟨⟩⟩<;>try first | (intro h; cases h; done) | (intro h0 hw; obtain rfl:=hz h0 rfl; (try obtain rfl:=hq hw 2 rfl rfl); (try obtain rfl:=hq hw 12 rfl rfl); (try obtain rfl:=hq hw 15 rfl rfl); refine np ?_; simp only[CK,A5,A6,A1,A,B,C,E,F,J]; exact ih _ _ _ _)
  ·intro h0 hw;obtain rfl:=hq hw 2 rfl rfl;obtain rfl:=hq hw 12 rfl rfl;obtain rfl:=hq hw 16 rfl rfl;refine np ?_;try simp only[CK,A5,A6,A1,A,B,C,E,F,J]
   exact A34 F_w0 caps_w0 a0 r1 v5 r7 h7 _ b15
theorem A36(F_w0:FuncId)(caps_w0:N D)(a0:Xf)(r1:Xj)(v5:Q)(r7)(h7:Bx a0.choice=H r7):∀(f:U) (b1 b2:Q) (b8 b9:Q) (b12 b13:Q),Ab X OE (J9 F_w0 caps_w0 a0 r1 r7) f [T,b1,b2,T,T,T,T,T,b8,b9,T,T,b12,b13,G,G,G,G] (CK r1 T b1 b2 T T T T T b8 b9 T b12 b13 G G [(99999999999,([aI a0.h.Forecast.Tide.Mean,aL (W Y a0.h.Forecast.Tide.Parts),aL (W Z a0.h.Forecast.Surges),aL (W X7.row a0.h.Chart.Points),aL (W X2.row a0.h.Chart.Segments),aL (W X6.row a0.h.Fleet),aI a0.h.Regime.Gap,aB a0.h.Regime.NoMeet]++dm a0.h.Crew.row++ [aL (W (rL X0.row) a0.choices),.dat (.clo F_w0 caps_w0),.own 90000,.own 90001,.own 3008,aI a0.least.i0,aI a0.least.i1,aB v5])),(2,[aI r1.i0,aI r1.i1])] [(90000,4,W X0.row a0.plan),(90001,1,W rI a0.choice),(90002,1,W rI a0.best),(3008,1,W rI r7)]):=by
 intro f
 induction f with
 | zero=>intro b1 b2 b8 b9 b12 b13 h; simp at h
 | succ f ih=>
  intro b1 b2 b8 b9 b12 b13;refine Ad ⟨?_,?_,?_,?_,?_,?_,?_,?_,?_,?_,?_,?_,?_,?_,?_,?_,?_,?_,⟨⟩⟩<;>try first | (intro h; cases h; done) | (intro _ hw; simp at hw; done) | (intro h0 hw; obtain rfl:=hz h0 rfl; (try obtain rfl:=hq hw 1 rfl rfl); (try obtain rfl:=hq hw 8 rfl rfl); (try obtain rfl:=hq hw 9 rfl rfl); (try obtain rfl:=hq hw 12 rfl rfl); refine np ?_; simp only[CK,A5,A6,A1,A,B,C,E,F,J]; exact ih _ _ _ _ _ _)
  ·intro h0 hw;obtain rfl:=hq hw 1 rfl rfl;obtain rfl:=hq hw 8 rfl rfl;obtain rfl:=hq hw 9 rfl rfl;obtain rfl:=hq hw 13 rfl rfl;refine np ?_;try simp only[CK,A5,A6,A1,A,B,C,E,F,J]
   exact A35 F_w0 caps_w0 a0 r1 v5 r7 h7 _ b2 b12 G G
theorem A37(F_w0:FuncId)(caps_w0:N D)(a0:Xf)(r1:Xj)(v5:Q)(r7)(h7:Bx a0.choice=H r7):∀(f:U) (b0 b1:Q) (b2 b3:Q) (b4 b5:Q) (b8 b9 b10:Q),Ab X OE (J9 F_w0 caps_w0 a0 r1 r7) f [b0,b1,b2,b3,b4,b5,T,T,b8,b9,b10,G,G,G,G,G,G,G] (CK r1 b0 b1 b2 b3 b4 b5 T T b8 b9 b10 G G G G [(99999999999,([aI a0.h.Forecast.Tide.Mean,aL (W Y a0.h.Forecast.Tide.Parts),aL (W Z a0.h.Forecast.Surges),aL (W X7.row a0.h.Chart.Points),aL (W X2.row a0.h.Chart.Segments),aL (W X6.row a0.h.Fleet),aI a0.h.Regime.Gap,aB a0.h.Regime.NoMeet]++dm a0.h.Crew.row++ [aL (W (rL X0.row) a0.choices),.dat (.clo F_w0 caps_w0),.own 90000,.own 90001,.own 90002,aI a0.least.i0,aI a0.least.i1,aB v5])),(2,[aI r1.i0,aI r1.i1])] [(90000,4,W X0.row a0.plan),(90001,1,W rI a0.choice),(90002,1,W rI a0.best),(3008,1,W rI r7)]):=by
 intro f
 induction f with
 | zero=>intro b0 b1 b2 b3 b4 b5 b8 b9 b10 h; simp at h
 | succ f ih=>
  intro b0 b1 b2 b3 b4 b5 b8 b9 b10;refine Ad ⟨?_,?_,?_,?_,?_,?_,?_,?_,?_,?_,?_,?_,?_,?_,?_,?_,?_,?_,⟨⟩⟩<;>try first | (intro h; cases h; done) | (intro _ hw; simp at hw; done) | (intro h0 hw; obtain rfl:=hz h0 rfl; (try obtain rfl:=hq hw 0 rfl rfl); (try obtain rfl:=hq hw 3 rfl rfl); (try obtain rfl:=hq hw 4 rfl rfl); (try obtain rfl:=hq hw 5 rfl rfl); (try obtain rfl:=hq hw 9 rfl rfl); refine np ?_; simp only[CK,A5,A6,A1,A,B,C,E,F,J]; exact ih _ _ _ _ _ _ _ _ _)
  ·intro h0 hw;obtain rfl:=hq hw 0 rfl rfl;obtain rfl:=hq hw 3 rfl rfl;obtain rfl:=hq hw 4 rfl rfl;obtain rfl:=hq hw 5 rfl rfl;obtain rfl:=hq hw 10 rfl rfl;refine np ?_;try simp only[CK,A5,A6,A1,A,B,C,E,F,J]
   exact A36 F_w0 caps_w0 a0 r1 v5 r7 h7 _ b1 b2 b8 b9 G G
theorem A38(F_w0:FuncId)(caps_w0:N D)(a0:Xf)(r1:Xj)(v5:Q)(r7)(h7:Bx a0.choice=H r7):∀(f:U) (b0 b1:Q) (b2 b3:Q) (b4 b5:Q) (b6 b8:Q),Ab X OE (J9 F_w0 caps_w0 a0 r1 r7) f [b0,b1,b2,b3,b4,b5,b6,G,b8,G,G,G,G,G,G,G,G,G] (CK r1 b0 b1 b2 b3 b4 b5 b6 G b8 G G G G G G [(99999999999,([aI a0.h.Forecast.Tide.Mean,aL (W Y a0.h.Forecast.Tide.Parts),aL (W Z a0.h.Forecast.Surges),aL (W X7.row a0.h.Chart.Points),aL (W X2.row a0.h.Chart.Segments),aL (W X6.row a0.h.Fleet),aI a0.h.Regime.Gap,aB a0.h.Regime.NoMeet]++dm a0.h.Crew.row++ [aL (W (rL X0.row) a0.choices),.dat (.clo F_w0 caps_w0),.own 90000,.own 90001,.own 90002,aI a0.least.i0,aI a0.least.i1,aB v5])),(2,[aI r1.i0,aI r1.i1])] [(90000,4,W X0.row a0.plan),(90001,1,W rI a0.choice),(90002,1,W rI a0.best)]):=by
 intro f
 induction f with
 | zero=>intro b0 b1 b2 b3 b4 b5 b6 b8 h; simp at h
 | succ f ih=>
  intro b0 b1 b2 b3 b4 b5 b6 b8;refine Ad ⟨?_,?_,?_,?_,?_,?_,?_,?_,?_,?_,?_,?_,?_,?_,?_,?_,?_,?_,⟨⟩⟩<;>try first | (intro _ hw; simp at hw; done) | (intro h0 hw; obtain rfl:=hz h0 rfl; (try obtain rfl:=hq hw 3 rfl rfl); (try obtain rfl:=hq hw 4 rfl rfl); (try obtain rfl:=hq hw 5 rfl rfl); refine np ?_; simp only[CK,A5,A6,A1,A,B,C,E,F,J]; exact ih _ _ _ _ _ _ _ _)
  ·intro h0 hw;obtain rfl:=hq hw 6 rfl rfl;refine np ?_;try simp only[CK,A5,A6,A1,A,B,C,E,F,J]
   refine Fh (Aq QT h7) V (Dr V ⟨Ds,⟨⟩⟩) (by simp only[St.fresh,zD,zE,Ah]; simp[AV.cells,V1.cells,AC.uses]) (uf V) ?_;try simp only[A1,A,B,C,E,F,J]
   exact A37 F_w0 caps_w0 a0 r1 v5 r7 h7 _ b0 b1 b2 b3 b4 b5 b8 G G
abbrev Ba(a0:Xf)(x8:N X0)(v9:P)(x19:X0)(wo5_ wo12_:AV)(c0_ c1_:Q)(c2_ c3_:Q)(c4_ c5_:Q)(c6_ c7_:Q)(c8_ c9_:Q)(c10_ c11_:Q)(c12_ c13_:Q)(c14_ c15_:Q)(c16_ c17_:Q)(c19_ c20_:Q)(bx_:N (U × N AC))(rs_:Rows):St:=⟨[(0,vc (.pb 99999999999 0)),(3,vc (aI (a0.plan.length:P))),(4,vc (aI v9)),(5,vc (.pb 5 0)),(61,vc (aL (W X0.row x8))),(62,vc (aI (x8.length:P))),(63,vc (aI v9)),(79,bif c0_ then vc (.pb 99999999999 0) else .undef),(80,bif c1_ then vc (.pb 99999999999 0) else .undef),(81,bif c2_ then vc (.pb 99999999999 0) else .undef),(82,bif c3_ then vc (.pb 99999999999 0) else .undef),(83,bif c4_ then vc (.pb 99999999999 14) else .undef),(84,bif c5_ then wo5_ else .undef),(85,bif c6_ then va (dm x19.row) else .undef),(86,bif c7_ then vc (.own 5504) else .undef),(87,bif c8_ then vc (.own 90000) else .undef),(88,bif c9_ then vc (.pb 99999999999 0) else .undef),(89,bif c10_ then vc (.pb 99999999999 0) else .undef),(90,bif c11_ then vc (.pb 99999999999 15) else .undef),(91,bif c12_ then wo12_ else .undef),(92,bif c13_ then vc (aI v9) else .undef),(93,bif c14_ then vc (.own 5952) else .undef),(94,bif c15_ then vc (.own 90001) else .undef),(95,bif c16_ then vc (.pb 99999999999 0) else .undef),(96,bif c17_ then vc (.pb 99999999999 14) else .undef),(97,bif c19_ then vc (.pb 99999999999 0) else .undef),(98,bif c20_ then vc (.pb 99999999999 15) else .undef)],bx_,rs_⟩
abbrev E3(F_w0:FuncId)(caps_w0:N D)(a0:Xf)(x8:N X0)(v9:P)(v10:X4)(v11:N (N X0))(v12 v13:P)(v14:Q)(v15:N X0)(v16 v17:N P)(x19:X0):St:=(Ba a0 x8 v9 x19 (vc (.undef)) (vc (.undef)) T T T T T T T T T T T T T T T T T T T T [(99999999999,([aI v10.Forecast.Tide.Mean,aL (W Y v10.Forecast.Tide.Parts),aL (W Z v10.Forecast.Surges),aL (W X7.row v10.Chart.Points),aL (W X2.row v10.Chart.Segments),aL (W X6.row v10.Fleet),aI v10.Regime.Gap,aB v10.Regime.NoMeet]++dm v10.Crew.row++ [aL (W (rL X0.row) v11),.dat (.clo F_w0 caps_w0),.own 90000,.own 90001,.own 90002,aI v12,aI v13,aB v14])),(5,(dm x19.row))] [(90000,4,W X0.row (v15++([x19]:N X0))),(90001,1,W rI (v16++([v9]:N P))),(90002,1,W rI v17),(5504,4,W X0.row ([x19]:N X0)),(5952,1,W rI ([v9]:N P))])
theorem A39(F_w0:FuncId)(caps_w0:N D)(a0:Xf)(x8:N X0)(v9)(v10:X4)(v11)(v12)(v13)(v14)(v15:N X0)(v16:N P)(v17)(x19)(h22:(A3 v15.length ([x19]:N X0).length 48)=T)(h23:(A3 v16.length ([v9]:N P).length 8)=T):∀(f:U) (b19:Q),Ab X FH (E3 F_w0 caps_w0 a0 x8 v9 v10 v11 v12 v13 v14 v15 v16 v17 x19) f [T,T,T,T,T,T,T,T,T,T,T,T,T,T,T,T,T,T,T,b19,T,T] (Ba a0 x8 v9 x19 (vc (.undef)) (vc (.undef)) T T T T T T T T T T T T T T T T T T b19 T [(99999999999,([aI v10.Forecast.Tide.Mean,aL (W Y v10.Forecast.Tide.Parts),aL (W Z v10.Forecast.Surges),aL (W X7.row v10.Chart.Points),aL (W X2.row v10.Chart.Segments),aL (W X6.row v10.Fleet),aI v10.Regime.Gap,aB v10.Regime.NoMeet]++dm v10.Crew.row++ [aL (W (rL X0.row) v11),.dat (.clo F_w0 caps_w0),.own 90000,.own 90001,.own 90002,aI v12,aI v13,aB v14])),(5,(dm x19.row))] [(90000,4,W X0.row (v15++([x19]:N X0))),(90001,1,W rI (v16++([v9]:N P))),(90002,1,W rI v17),(5504,4,W X0.row ([x19]:N X0)),(5952,1,W rI ([v9]:N P))]):=by
 intro f
 induction f with
 | zero=>
  intro b19 h;obtain rfl:b19=T:=zC.1 h b19 (by simp);rfl
 | succ f ih=>
  intro b19;refine Ad ⟨?_,?_,?_,?_,?_,?_,?_,?_,?_,?_,?_,?_,?_,?_,?_,?_,?_,?_,?_,?_,?_,?_,⟨⟩⟩<;>try first | (intro h; cases h; done) | (intro h0 hw; obtain rfl:=hz h0 rfl; refine np ?_; simp only[Ba,A5,A6,A1,A,B,C,E,F,J]; exact ih _)
theorem A4a(F_w0:FuncId)(caps_w0:N D)(a0:Xf)(x8:N X0)(v9)(v10:X4)(v11)(v12)(v13)(v14)(v15:N X0)(v16:N P)(v17)(x19)(h22:(A3 v15.length ([x19]:N X0).length 48)=T)(h23:(A3 v16.length ([v9]:N P).length 8)=T):∀(f:U) (b1 b9:Q) (b10 b11:Q) (b16 b19 b20:Q),Ab X FH (E3 F_w0 caps_w0 a0 x8 v9 v10 v11 v12 v13 v14 v15 v16 v17 x19) f [T,b1,T,T,T,T,T,T,T,b9,b10,b11,T,T,T,T,b16,T,T,b19,b20,G] (Ba a0 x8 v9 x19 (vc (.undef)) (vc (.undef)) T b1 T T T T T T T b9 b10 b11 T T T T b16 T b19 b20 [(99999999999,([aI v10.Forecast.Tide.Mean,aL (W Y v10.Forecast.Tide.Parts),aL (W Z v10.Forecast.Surges),aL (W X7.row v10.Chart.Points),aL (W X2.row v10.Chart.Segments),aL (W X6.row v10.Fleet),aI v10.Regime.Gap,aB v10.Regime.NoMeet]++dm v10.Crew.row++ [aL (W (rL X0.row) v11),.dat (.clo F_w0 caps_w0),.own 90000,.undef,.own 90002,aI v12,aI v13,aB v14])),(5,(dm x19.row))] [(90000,4,W X0.row (v15++([x19]:N X0))),(90001,1,W rI (v16++([v9]:N P))),(90002,1,W rI v17),(5504,4,W X0.row ([x19]:N X0)),(5952,1,W rI ([v9]:N P))]):=by
 intro f
 induction f with
 | zero=>intro b1 b9 b10 b11 b16 b19 b20 h; simp at h
 | succ f ih=>
  intro b1 b9 b10 b11 b16 b19 b20;refine Ad ⟨?_,?_,?_,?_,?_,?_,?_,?_,?_,?_,?_,?_,?_,?_,?_,?_,?_,?_,?_,?_,?_,?_,⟨⟩⟩<;>try first | (intro h; cases h; done) | (intro h0 hw; obtain rfl:=hz h0 rfl; (try obtain rfl:=hq hw 1 rfl rfl); (try obtain rfl:=hq hw 9 rfl rfl); (try obtain rfl:=hq hw 10 rfl rfl); (try obtain rfl:=hq hw 11 rfl rfl); (try obtain rfl:=hq hw 16 rfl rfl); (try obtain rfl:=hq hw 19 rfl rfl); refine np ?_; simp only[Ba,A5,A6,A1,A,B,C,E,F,J]; exact ih _ _ _ _ _ _ _)
  ·intro h0 hw;obtain rfl:=hq hw 1 rfl rfl;obtain rfl:=hq hw 9 rfl rfl;obtain rfl:=hq hw 10 rfl rfl;obtain rfl:=hq hw 11 rfl rfl;obtain rfl:=hq hw 16 rfl rfl;obtain rfl:=hq hw 20 rfl rfl;refine np ?_;try simp only[Ba,A5,A6,A1,A,B,C,E,F,J]
   exact A39 F_w0 caps_w0 a0 x8 v9 v10 v11 v12 v13 v14 v15 v16 v17 x19 h22 h23 _ b19
theorem A4b(F_w0:FuncId)(caps_w0:N D)(a0:Xf)(x8:N X0)(v9)(v10:X4)(v11)(v12)(v13)(v14)(v15:N X0)(v16:N P)(v17)(x19)(h22:(A3 v15.length ([x19]:N X0).length 48)=T)(h23:(A3 v16.length ([v9]:N P).length 8)=T):∀(f:U) (b0 b1:Q) (b2 b3:Q) (b4 b9:Q) (b10 b11:Q) (b16 b17:Q),Ab X FH (E3 F_w0 caps_w0 a0 x8 v9 v10 v11 v12 v13 v14 v15 v16 v17 x19) f [b0,b1,b2,b3,b4,T,T,T,T,b9,b10,b11,T,T,T,T,b16,b17,G,G,G,G] (Ba a0 x8 v9 x19 (vc (.undef)) (vc (.undef)) b0 b1 b2 b3 b4 T T T T b9 b10 b11 T T T T b16 b17 G G [(99999999999,([aI v10.Forecast.Tide.Mean,aL (W Y v10.Forecast.Tide.Parts),aL (W Z v10.Forecast.Surges),aL (W X7.row v10.Chart.Points),aL (W X2.row v10.Chart.Segments),aL (W X6.row v10.Fleet),aI v10.Regime.Gap,aB v10.Regime.NoMeet]++dm v10.Crew.row++ [aL (W (rL X0.row) v11),.dat (.clo F_w0 caps_w0),.undef,.undef,.own 90002,aI v12,aI v13,aB v14])),(5,(dm x19.row))] [(90000,4,W X0.row (v15++([x19]:N X0))),(90001,1,W rI (v16++([v9]:N P))),(90002,1,W rI v17),(5504,4,W X0.row ([x19]:N X0)),(5952,1,W rI ([v9]:N P))]):=by
 intro f
 induction f with
 | zero=>intro b0 b1 b2 b3 b4 b9 b10 b11 b16 b17 h; simp at h
 | succ f ih=>
  intro b0 b1 b2 b3 b4 b9 b10 b11 b16 b17;refine Ad ⟨?_,?_,?_,?_,?_,?_,?_,?_,?_,?_,?_,?_,?_,?_,?_,?_,?_,?_,?_,?_,?_,?_,⟨⟩⟩<;>try first | (intro h; cases h; done) | (intro _ hw; simp at hw; done) | (intro h0 hw; obtain rfl:=hz h0 rfl; (try obtain rfl:=hq hw 0 rfl rfl); (try obtain rfl:=hq hw 2 rfl rfl); (try obtain rfl:=hq hw 3 rfl rfl); (try obtain rfl:=hq hw 4 rfl rfl); (try obtain rfl:=hq hw 9 rfl rfl); (try obtain rfl:=hq hw 10 rfl rfl); (try obtain rfl:=hq hw 16 rfl rfl); refine np ?_; simp only[Ba,A5,A6,A1,A,B,C,E,F,J]; exact ih _ _ _ _ _ _ _ _ _ _)
  ·intro h0 hw;obtain rfl:=hq hw 0 rfl rfl;obtain rfl:=hq hw 2 rfl rfl;obtain rfl:=hq hw 3 rfl rfl;obtain rfl:=hq hw 4 rfl rfl;obtain rfl:=hq hw 17 rfl rfl;refine np ?_;try simp only[Ba,A5,A6,A1,A,B,C,E,F,J]
   exact A4a F_w0 caps_w0 a0 x8 v9 v10 v11 v12 v13 v14 v15 v16 v17 x19 h22 h23 _ b1 b9 b10 b11 b16 G G
theorem aY(F_w0:FuncId)(caps_w0:N D)(a0:Xf)(x8:N X0)(v9)(v10:X4)(v11)(v12)(v13)(v14)(v15:N X0)(v16:N P)(v17)(x19)(h22:(A3 v15.length ([x19]:N X0).length 48)=T)(h23:(A3 v16.length ([v9]:N P).length 8)=T):∀(f:U) (b0 b1:Q) (b2 b3:Q) (b4 b9:Q) (b10 b11 b12:Q),Ab X FH (E3 F_w0 caps_w0 a0 x8 v9 v10 v11 v12 v13 v14 v15 v16 v17 x19) f [b0,b1,b2,b3,b4,T,T,T,T,b9,b10,b11,b12,T,T,G,G,G,G,G,G,G] (Ba a0 x8 v9 x19 (vc (.undef)) (vc (.own 90001)) b0 b1 b2 b3 b4 T T T T b9 b10 b11 b12 T T G G G G G [(99999999999,([aI v10.Forecast.Tide.Mean,aL (W Y v10.Forecast.Tide.Parts),aL (W Z v10.Forecast.Surges),aL (W X7.row v10.Chart.Points),aL (W X2.row v10.Chart.Segments),aL (W X6.row v10.Fleet),aI v10.Regime.Gap,aB v10.Regime.NoMeet]++dm v10.Crew.row++ [aL (W (rL X0.row) v11),.dat (.clo F_w0 caps_w0),.undef,.own 90001,.own 90002,aI v12,aI v13,aB v14])),(5,(dm x19.row))] [(90000,4,W X0.row (v15++([x19]:N X0))),(90001,1,W rI v16),(90002,1,W rI v17),(5504,4,W X0.row ([x19]:N X0)),(5952,1,W rI ([v9]:N P))]):=by
 intro f
 induction f with
 | zero=>intro b0 b1 b2 b3 b4 b9 b10 b11 b12 h; simp at h
 | succ f ih=>
  intro b0 b1 b2 b3 b4 b9 b10 b11 b12;refine Ad ⟨?_,?_,?_,?_,?_,?_,?_,?_,?_,?_,?_,?_,?_,?_,?_,?_,?_,?_,?_,?_,?_,?_,⟨⟩⟩<;>try first | (intro h; cases h; done) | (intro _ hw; simp at hw; done) | (intro h0 hw; obtain rfl:=hz h0 rfl; (try obtain rfl:=hq hw 2 rfl rfl); (try obtain rfl:=hq hw 3 rfl rfl); (try obtain rfl:=hq hw 9 rfl rfl); (try obtain rfl:=hq hw 10 rfl rfl); (try obtain rfl:=hq hw 11 rfl rfl); refine np ?_; simp only[Ba,A5,A6,A1,A,B,C,E,F,J]; exact ih _ _ _ _ _ _ _ _ _)
  ·intro h0 hw;obtain rfl:=hq hw 12 rfl rfl;refine np ?_;try simp only[h23,Ba,A5,A6,A1,A,B,C,E,F,J]
   exact A4b F_w0 caps_w0 a0 x8 v9 v10 v11 v12 v13 v14 v15 v16 v17 x19 h22 h23 _ b0 b1 b2 b3 b4 b9 b10 b11 G G
theorem A4c(F_w0:FuncId)(caps_w0:N D)(a0:Xf)(x8:N X0)(v9)(v10:X4)(v11)(v12)(v13)(v14)(v15:N X0)(v16:N P)(v17)(x19)(h22:(A3 v15.length ([x19]:N X0).length 48)=T)(h23:(A3 v16.length ([v9]:N P).length 8)=T):∀(f:U) (b0 b1:Q) (b2 b3:Q) (b4 b9:Q) (b10 b11:Q) (b12 b13:Q),Ab X FH (E3 F_w0 caps_w0 a0 x8 v9 v10 v11 v12 v13 v14 v15 v16 v17 x19) f [b0,b1,b2,b3,b4,T,T,T,T,b9,b10,b11,b12,b13,G,G,G,G,G,G,G,G] (Ba a0 x8 v9 x19 (vc (.undef)) (vc (.own 90001)) b0 b1 b2 b3 b4 T T T T b9 b10 b11 b12 b13 G G G G G G [(99999999999,([aI v10.Forecast.Tide.Mean,aL (W Y v10.Forecast.Tide.Parts),aL (W Z v10.Forecast.Surges),aL (W X7.row v10.Chart.Points),aL (W X2.row v10.Chart.Segments),aL (W X6.row v10.Fleet),aI v10.Regime.Gap,aB v10.Regime.NoMeet]++dm v10.Crew.row++ [aL (W (rL X0.row) v11),.dat (.clo F_w0 caps_w0),.undef,.own 90001,.own 90002,aI v12,aI v13,aB v14])),(5,(dm x19.row))] [(90000,4,W X0.row (v15++([x19]:N X0))),(90001,1,W rI v16),(90002,1,W rI v17),(5504,4,W X0.row ([x19]:N X0))]):=by
 intro f
 induction f with
 | zero=>intro b0 b1 b2 b3 b4 b9 b10 b11 b12 b13 h; simp at h
 | succ f ih=>
  intro b0 b1 b2 b3 b4 b9 b10 b11 b12 b13;refine Ad ⟨?_,?_,?_,?_,?_,?_,?_,?_,?_,?_,?_,?_,?_,?_,?_,?_,?_,?_,?_,?_,?_,?_,⟨⟩⟩<;>try first | (intro h; cases h; done) | (intro _ hw; simp at hw; done) | (intro h0 hw; obtain rfl:=hz h0 rfl; (try obtain rfl:=hq hw 2 rfl rfl); (try obtain rfl:=hq hw 3 rfl rfl); (try obtain rfl:=hq hw 9 rfl rfl); (try obtain rfl:=hq hw 10 rfl rfl); (try obtain rfl:=hq hw 11 rfl rfl); refine np ?_; simp only[Ba,A5,A6,A1,A,B,C,E,F,J]; exact ih _ _ _ _ _ _ _ _ _ _)
  ·intro h0 hw;obtain rfl:=hq hw 13 rfl rfl;refine np ?_;try simp only[Ba,A5,A6,A1,A,B,C,E,F,J]
   refine Am (es:=W rI ([v9]:N P)) V (by simp only[St.fresh,zD,zE,Ah]; simp[AV.cells,V1.cells,AC.uses]) ?_;try simp only[A1,A,B,C,E,F,J]
   exact aY F_w0 caps_w0 a0 x8 v9 v10 v11 v12 v13 v14 v15 v16 v17 x19 h22 h23 _ b0 b1 b2 b3 b4 b9 b10 b11 b12
theorem aZ(F_w0:FuncId)(caps_w0:N D)(a0:Xf)(x8:N X0)(v9)(v10:X4)(v11)(v12)(v13)(v14)(v15:N X0)(v16:N P)(v17)(x19)(h22:(A3 v15.length ([x19]:N X0).length 48)=T)(h23:(A3 v16.length ([v9]:N P).length 8)=T):∀(f:U) (b0 b1:Q) (b2 b3:Q) (b4 b5:Q) (b9 b10:Q) (b11 b12:Q),Ab X FH (E3 F_w0 caps_w0 a0 x8 v9 v10 v11 v12 v13 v14 v15 v16 v17 x19) f [b0,b1,b2,b3,b4,b5,T,T,G,b9,b10,b11,b12,T,T,G,G,G,G,G,G,G] (Ba a0 x8 v9 x19 (vc (.own 90000)) (vc (.own 90001)) b0 b1 b2 b3 b4 b5 T T G b9 b10 b11 b12 T T G G G G G [(99999999999,([aI v10.Forecast.Tide.Mean,aL (W Y v10.Forecast.Tide.Parts),aL (W Z v10.Forecast.Surges),aL (W X7.row v10.Chart.Points),aL (W X2.row v10.Chart.Segments),aL (W X6.row v10.Fleet),aI v10.Regime.Gap,aB v10.Regime.NoMeet]++dm v10.Crew.row++ [aL (W (rL X0.row) v11),.dat (.clo F_w0 caps_w0),.own 90000,.own 90001,.own 90002,aI v12,aI v13,aB v14])),(5,(dm x19.row))] [(90000,4,W X0.row v15),(90001,1,W rI v16),(90002,1,W rI v17),(5504,4,W X0.row ([x19]:N X0)),(5952,1,W rI ([v9]:N P))]):=by
 intro f
 induction f with
 | zero=>intro b0 b1 b2 b3 b4 b5 b9 b10 b11 b12 h; simp at h
 | succ f ih=>
  intro b0 b1 b2 b3 b4 b5 b9 b10 b11 b12;refine Ad ⟨?_,?_,?_,?_,?_,?_,?_,?_,?_,?_,?_,?_,?_,?_,?_,?_,?_,?_,?_,?_,?_,?_,⟨⟩⟩<;>try first | (intro h; cases h; done) | (intro _ hw; simp at hw; done) | (intro h0 hw; obtain rfl:=hz h0 rfl; (try obtain rfl:=hq hw 2 rfl rfl); (try obtain rfl:=hq hw 3 rfl rfl); (try obtain rfl:=hq hw 4 rfl rfl); (try obtain rfl:=hq hw 9 rfl rfl); (try obtain rfl:=hq hw 10 rfl rfl); (try obtain rfl:=hq hw 11 rfl rfl); refine np ?_; simp only[Ba,A5,A6,A1,A,B,C,E,F,J]; exact ih _ _ _ _ _ _ _ _ _ _)
  ·intro h0 hw;obtain rfl:=hq hw 5 rfl rfl;refine np ?_;try simp only[h22,Ba,A5,A6,A1,A,B,C,E,F,J]
   exact aY F_w0 caps_w0 a0 x8 v9 v10 v11 v12 v13 v14 v15 v16 v17 x19 h22 h23 _ b0 b1 b2 b3 b4 b9 b10 b11 b12
theorem A4d(F_w0:FuncId)(caps_w0:N D)(a0:Xf)(x8:N X0)(v9)(v10:X4)(v11)(v12)(v13)(v14)(v15:N X0)(v16:N P)(v17)(x19)(h22:(A3 v15.length ([x19]:N X0).length 48)=T)(h23:(A3 v16.length ([v9]:N P).length 8)=T):∀(f:U) (b0 b1:Q) (b2 b3:Q) (b4 b5:Q) (b9 b10:Q) (b11 b12 b13:Q),Ab X FH (E3 F_w0 caps_w0 a0 x8 v9 v10 v11 v12 v13 v14 v15 v16 v17 x19) f [b0,b1,b2,b3,b4,b5,T,T,G,b9,b10,b11,b12,b13,G,G,G,G,G,G,G,G] (Ba a0 x8 v9 x19 (vc (.own 90000)) (vc (.own 90001)) b0 b1 b2 b3 b4 b5 T T G b9 b10 b11 b12 b13 G G G G G G [(99999999999,([aI v10.Forecast.Tide.Mean,aL (W Y v10.Forecast.Tide.Parts),aL (W Z v10.Forecast.Surges),aL (W X7.row v10.Chart.Points),aL (W X2.row v10.Chart.Segments),aL (W X6.row v10.Fleet),aI v10.Regime.Gap,aB v10.Regime.NoMeet]++dm v10.Crew.row++ [aL (W (rL X0.row) v11),.dat (.clo F_w0 caps_w0),.own 90000,.own 90001,.own 90002,aI v12,aI v13,aB v14])),(5,(dm x19.row))] [(90000,4,W X0.row v15),(90001,1,W rI v16),(90002,1,W rI v17),(5504,4,W X0.row ([x19]:N X0))]):=by
 intro f
 induction f with
 | zero=>intro b0 b1 b2 b3 b4 b5 b9 b10 b11 b12 b13 h; simp at h
 | succ f ih=>
  intro b0 b1 b2 b3 b4 b5 b9 b10 b11 b12 b13;refine Ad ⟨?_,?_,?_,?_,?_,?_,?_,?_,?_,?_,?_,?_,?_,?_,?_,?_,?_,?_,?_,?_,?_,?_,⟨⟩⟩<;>try first | (intro h; cases h; done) | (intro _ hw; simp at hw; done) | (intro h0 hw; obtain rfl:=hz h0 rfl; (try obtain rfl:=hq hw 2 rfl rfl); (try obtain rfl:=hq hw 3 rfl rfl); (try obtain rfl:=hq hw 4 rfl rfl); (try obtain rfl:=hq hw 9 rfl rfl); (try obtain rfl:=hq hw 10 rfl rfl); (try obtain rfl:=hq hw 11 rfl rfl); refine np ?_; simp only[Ba,A5,A6,A1,A,B,C,E,F,J]; exact ih _ _ _ _ _ _ _ _ _ _ _)
  ·intro h0 hw;obtain rfl:=hq hw 5 rfl rfl;refine np ?_;try simp only[h22,Ba,A5,A6,A1,A,B,C,E,F,J]
   exact A4c F_w0 caps_w0 a0 x8 v9 v10 v11 v12 v13 v14 v15 v16 v17 x19 h22 h23 _ b0 b1 b2 b3 b4 b9 b10 b11 b12 b13
  ·intro h0 hw;obtain rfl:=hq hw 13 rfl rfl;refine np ?_;try simp only[Ba,A5,A6,A1,A,B,C,E,F,J]
   refine Am (es:=W rI ([v9]:N P)) V (by simp only[St.fresh,zD,zE,Ah]; simp[AV.cells,V1.cells,AC.uses]) ?_;try simp only[A1,A,B,C,E,F,J]
   exact aZ F_w0 caps_w0 a0 x8 v9 v10 v11 v12 v13 v14 v15 v16 v17 x19 h22 h23 _ b0 b1 b2 b3 b4 b5 b9 b10 b11 b12
theorem A4f(F_w0:FuncId)(caps_w0:N D)(a0:Xf)(x8:N X0)(v9)(v10:X4)(v11)(v12)(v13)(v14)(v15:N X0)(v16:N P)(v17)(x19)(h22:(A3 v15.length ([x19]:N X0).length 48)=T)(h23:(A3 v16.length ([v9]:N P).length 8)=T):∀(f:U) (b0 b1:Q) (b2 b3:Q) (b4 b5:Q) (b6 b9:Q) (b10 b11 b12:Q),Ab X FH (E3 F_w0 caps_w0 a0 x8 v9 v10 v11 v12 v13 v14 v15 v16 v17 x19) f [b0,b1,b2,b3,b4,b5,b6,G,G,b9,b10,b11,b12,T,T,G,G,G,G,G,G,G] (Ba a0 x8 v9 x19 (vc (.own 90000)) (vc (.own 90001)) b0 b1 b2 b3 b4 b5 b6 G G b9 b10 b11 b12 T T G G G G G [(99999999999,([aI v10.Forecast.Tide.Mean,aL (W Y v10.Forecast.Tide.Parts),aL (W Z v10.Forecast.Surges),aL (W X7.row v10.Chart.Points),aL (W X2.row v10.Chart.Segments),aL (W X6.row v10.Fleet),aI v10.Regime.Gap,aB v10.Regime.NoMeet]++dm v10.Crew.row++ [aL (W (rL X0.row) v11),.dat (.clo F_w0 caps_w0),.own 90000,.own 90001,.own 90002,aI v12,aI v13,aB v14])),(5,(dm x19.row))] [(90000,4,W X0.row v15),(90001,1,W rI v16),(90002,1,W rI v17),(5952,1,W rI ([v9]:N P))]):=by
 intro f
 induction f with
 | zero=>intro b0 b1 b2 b3 b4 b5 b6 b9 b10 b11 b12 h; simp at h
 | succ f ih=>
  intro b0 b1 b2 b3 b4 b5 b6 b9 b10 b11 b12;refine Ad ⟨?_,?_,?_,?_,?_,?_,?_,?_,?_,?_,?_,?_,?_,?_,?_,?_,?_,?_,?_,?_,?_,?_,⟨⟩⟩<;>try first | (intro h; cases h; done) | (intro _ hw; simp at hw; done) | (intro h0 hw; obtain rfl:=hz h0 rfl; (try obtain rfl:=hq hw 2 rfl rfl); (try obtain rfl:=hq hw 3 rfl rfl); (try obtain rfl:=hq hw 4 rfl rfl); (try obtain rfl:=hq hw 9 rfl rfl); (try obtain rfl:=hq hw 10 rfl rfl); (try obtain rfl:=hq hw 11 rfl rfl); refine np ?_; simp only[Ba,A5,A6,A1,A,B,C,E,F,J]; exact ih _ _ _ _ _ _ _ _ _ _ _)
  ·intro h0 hw;obtain rfl:=hq hw 6 rfl rfl;refine⟨[],[(L,.keep [0,3,4,5,61,62,63,79,80,81,82,83,84,85,86,87,88,89,90,91,92,93,94,95,96,97,98] [99999999999,5] [90000,90001,90002,5504,5952])],V,V,?_⟩;try simp only[Ba,A5,A6,zG,zF,A1,A,B,C,E,F,J]
   refine Am (es:=W X0.row ([x19]:N X0)) V (by simp only[St.fresh,zD,zE,Ah]; simp[AV.cells,V1.cells,AC.uses]) ?_;try simp only[A1,A,B,C,E,F,J]
   exact aZ F_w0 caps_w0 a0 x8 v9 v10 v11 v12 v13 v14 v15 v16 v17 x19 h22 h23 _ b0 b1 b2 b3 b4 b5 b9 b10 b11 b12
theorem A4g(F_w0:FuncId)(caps_w0:N D)(a0:Xf)(x8:N X0)(v9)(v10:X4)(v11)(v12)(v13)(v14)(v15:N X0)(v16:N P)(v17)(x19)(h22:(A3 v15.length ([x19]:N X0).length 48)=T)(h23:(A3 v16.length ([v9]:N P).length 8)=T):∀(f:U) (b0 b1:Q) (b2 b3:Q) (b4 b5:Q) (b6 b9:Q) (b10 b11:Q) (b12 b13:Q),Ab X FH (E3 F_w0 caps_w0 a0 x8 v9 v10 v11 v12 v13 v14 v15 v16 v17 x19) f [b0,b1,b2,b3,b4,b5,b6,G,G,b9,b10,b11,b12,b13,G,G,G,G,G,G,G,G] (Ba a0 x8 v9 x19 (vc (.own 90000)) (vc (.own 90001)) b0 b1 b2 b3 b4 b5 b6 G G b9 b10 b11 b12 b13 G G G G G G [(99999999999,([aI v10.Forecast.Tide.Mean,aL (W Y v10.Forecast.Tide.Parts),aL (W Z v10.Forecast.Surges),aL (W X7.row v10.Chart.Points),aL (W X2.row v10.Chart.Segments),aL (W X6.row v10.Fleet),aI v10.Regime.Gap,aB v10.Regime.NoMeet]++dm v10.Crew.row++ [aL (W (rL X0.row) v11),.dat (.clo F_w0 caps_w0),.own 90000,.own 90001,.own 90002,aI v12,aI v13,aB v14])),(5,(dm x19.row))] [(90000,4,W X0.row v15),(90001,1,W rI v16),(90002,1,W rI v17)]):=by
 intro f
 induction f with
 | zero=>intro b0 b1 b2 b3 b4 b5 b6 b9 b10 b11 b12 b13 h; simp at h
 | succ f ih=>
  intro b0 b1 b2 b3 b4 b5 b6 b9 b10 b11 b12 b13;refine Ad ⟨?_,?_,?_,?_,?_,?_,?_,?_,?_,?_,?_,?_,?_,?_,?_,?_,?_,?_,?_,?_,?_,?_,⟨⟩⟩<;>try first | (intro _ hw; simp at hw; done) | (intro h0 hw; obtain rfl:=hz h0 rfl; (try obtain rfl:=hq hw 2 rfl rfl); (try obtain rfl:=hq hw 3 rfl rfl); (try obtain rfl:=hq hw 4 rfl rfl); (try obtain rfl:=hq hw 9 rfl rfl); (try obtain rfl:=hq hw 10 rfl rfl); (try obtain rfl:=hq hw 11 rfl rfl); refine np ?_; simp only[Ba,A5,A6,A1,A,B,C,E,F,J]; exact ih _ _ _ _ _ _ _ _ _ _ _ _)
  ·intro h0 hw;obtain rfl:=hq hw 6 rfl rfl;refine np ?_;try simp only[Ba,A5,A6,A1,A,B,C,E,F,J]
   refine Am (es:=W X0.row ([x19]:N X0)) V (by simp only[St.fresh,zD,zE,Ah]; simp[AV.cells,V1.cells,AC.uses]) ?_;try simp only[A1,A,B,C,E,F,J]
   exact A4d F_w0 caps_w0 a0 x8 v9 v10 v11 v12 v13 v14 v15 v16 v17 x19 h22 h23 _ b0 b1 b2 b3 b4 b5 b9 b10 b11 b12 b13
  ·intro h0 hw;obtain rfl:=hq hw 13 rfl rfl;refine np ?_;try simp only[Ba,A5,A6,A1,A,B,C,E,F,J]
   refine Am (es:=W rI ([v9]:N P)) V (by simp only[St.fresh,zD,zE,Ah]; simp[AV.cells,V1.cells,AC.uses]) ?_;try simp only[A1,A,B,C,E,F,J]
   exact A4f F_w0 caps_w0 a0 x8 v9 v10 v11 v12 v13 v14 v15 v16 v17 x19 h22 h23 _ b0 b1 b2 b3 b4 b5 b6 b9 b10 b11 b12
abbrev BC(a0:Xf)(x8:N X0)(v9:P)(wo5_ wo11_:AV)(c0_ c1_:Q)(c2_ c3_:Q)(c4_ c5_:Q)(c6_ c7_:Q)(c8_ c9_:Q)(c10_ c11_:Q)(c12_ c13_:Q)(c14_ c15_:Q)(c17_ c18_:Q)(bx_:N (U × N AC))(rs_:Rows):St:=⟨[(0,vc (.pb 99999999999 0)),(3,vc (aI (a0.plan.length:P))),(61,vc (aL (W X0.row x8))),(62,vc (aI (x8.length:P))),(63,vc (aI v9)),(101,bif c0_ then vc (.pb 99999999999 0) else .undef),(102,bif c1_ then vc (.pb 99999999999 0) else .undef),(103,bif c2_ then vc (.pb 99999999999 0) else .undef),(104,bif c3_ then vc (.pb 99999999999 0) else .undef),(105,bif c4_ then vc (.pb 99999999999 14) else .undef),(106,bif c5_ then wo5_ else .undef),(107,bif c6_ then vc (aI (a0.plan.length:P)) else .undef),(108,bif c7_ then vc (.own 90000) else .undef),(109,bif c8_ then vc (.pb 99999999999 0) else .undef),(110,bif c9_ then vc (.pb 99999999999 0) else .undef),(111,bif c10_ then vc (.pb 99999999999 15) else .undef),(112,bif c11_ then wo11_ else .undef),(113,bif c12_ then vc (aI (a0.plan.length:P)) else .undef),(114,bif c13_ then vc (.own 90001) else .undef),(115,bif c14_ then vc (.pb 99999999999 0) else .undef),(116,bif c15_ then vc (.pb 99999999999 14) else .undef),(117,bif c17_ then vc (.pb 99999999999 0) else .undef),(118,bif c18_ then vc (.pb 99999999999 15) else .undef)],bx_,rs_⟩
abbrev FF(F_w0:FuncId)(caps_w0:N D)(a0:Xf)(x8:N X0)(v9:P)(r24:Xf)(p25 p26:U × U):St:=(BC a0 x8 v9 (vc (.undef)) (vc (.undef)) T T T T T T T T T T T T T T T T T T [(99999999999,([aI r24.h.Forecast.Tide.Mean,aL (W Y r24.h.Forecast.Tide.Parts),aL (W Z r24.h.Forecast.Surges),aL (W X7.row r24.h.Chart.Points),aL (W X2.row r24.h.Chart.Segments),aL (W X6.row r24.h.Fleet),aI r24.h.Regime.Gap,aB r24.h.Regime.NoMeet]++dm r24.h.Crew.row++ [aL (W (rL X0.row) r24.choices),.dat (.clo F_w0 caps_w0),.own 90000,.own 90001,.own 90002,aI r24.least.i0,aI r24.least.i1,aB r24.found]))] [(90000,4,W X0.row (r24.plan.take p25.2)),(90001,1,W rI (r24.choice.take p26.2)),(90002,1,W rI r24.best)])
theorem A4h(F_w0:FuncId)(caps_w0:N D)(a0:Xf)(x8:N X0)(v9:P)(r24:Xf)(p25)(p26)(h25:bnd (r24.plan.length:P) (a0.plan.length:P) 0 r24.plan.length=H p25)(h26:bnd (r24.choice.length:P) (a0.plan.length:P) 0 r24.choice.length=H p26):∀(f:U) (b17:Q),Ab X Jc (FF F_w0 caps_w0 a0 x8 v9 r24 p25 p26) f [T,T,T,T,T,T,T,T,T,T,T,T,T,T,T,T,T,b17,T,T] (BC a0 x8 v9 (vc (.undef)) (vc (.undef)) T T T T T T T T T T T T T T T T b17 T [(99999999999,([aI r24.h.Forecast.Tide.Mean,aL (W Y r24.h.Forecast.Tide.Parts),aL (W Z r24.h.Forecast.Surges),aL (W X7.row r24.h.Chart.Points),aL (W X2.row r24.h.Chart.Segments),aL (W X6.row r24.h.Fleet),aI r24.h.Regime.Gap,aB r24.h.Regime.NoMeet]++dm r24.h.Crew.row++ [aL (W (rL X0.row) r24.choices),.dat (.clo F_w0 caps_w0),.own 90000,.own 90001,.own 90002,aI r24.least.i0,aI r24.least.i1,aB r24.found]))] [(90000,4,W X0.row (r24.plan.take p25.2)),(90001,1,W rI (r24.choice.take p26.2)),(90002,1,W rI r24.best)]):=by
 intro f
 induction f with
 | zero=>
  intro b17 h;obtain rfl:b17=T:=zC.1 h b17 (by simp);rfl
 | succ f ih=>
  intro b17;refine Ad ⟨?_,?_,?_,?_,?_,?_,?_,?_,?_,?_,?_,?_,?_,?_,?_,?_,?_,?_,?_,?_,⟨⟩⟩<;>try first | (intro h; cases h; done) | (intro h0 hw; obtain rfl:=hz h0 rfl; refine np ?_; simp only[BC,A5,A6,A1,A,B,C,E,F,J]; exact ih _)
theorem aa(F_w0:FuncId)(caps_w0:N D)(a0:Xf)(x8:N X0)(v9:P)(r24:Xf)(p25)(p26)(h25:bnd (r24.plan.length:P) (a0.plan.length:P) 0 r24.plan.length=H p25)(h26:bnd (r24.choice.length:P) (a0.plan.length:P) 0 r24.choice.length=H p26):∀(f:U) (b1 b8:Q) (b9 b10:Q) (b14 b17 b18:Q),Ab X Jc (FF F_w0 caps_w0 a0 x8 v9 r24 p25 p26) f [T,b1,T,T,T,T,T,T,b8,b9,b10,T,T,T,b14,T,T,b17,b18,G] (BC a0 x8 v9 (vc (.undef)) (vc (.undef)) T b1 T T T T T T b8 b9 b10 T T T b14 T b17 b18 [(99999999999,([aI r24.h.Forecast.Tide.Mean,aL (W Y r24.h.Forecast.Tide.Parts),aL (W Z r24.h.Forecast.Surges),aL (W X7.row r24.h.Chart.Points),aL (W X2.row r24.h.Chart.Segments),aL (W X6.row r24.h.Fleet),aI r24.h.Regime.Gap,aB r24.h.Regime.NoMeet]++dm r24.h.Crew.row++ [aL (W (rL X0.row) r24.choices),.dat (.clo F_w0 caps_w0),.own 90000,.undef,.own 90002,aI r24.least.i0,aI r24.least.i1,aB r24.found]))] [(90000,4,W X0.row (r24.plan.take p25.2)),(90001,1,W rI (r24.choice.take p26.2)),(90002,1,W rI r24.best)]):=by
 intro f
 induction f with
 | zero=>intro b1 b8 b9 b10 b14 b17 b18 h; simp at h
 | succ f ih=>
  intro b1 b8 b9 b10 b14 b17 b18;refine Ad ⟨?_,?_,?_,?_,?_,?_,?_,?_,?_,?_,?_,?_,?_,?_,?_,?_,?_,?_,?_,?_,⟨⟩⟩<;>try first | (intro h; cases h; done) | (intro h0 hw; obtain rfl:=hz h0 rfl; (try obtain rfl:=hq hw 1 rfl rfl); (try obtain rfl:=hq hw 8 rfl rfl); (try obtain rfl:=hq hw 9 rfl rfl); (try obtain rfl:=hq hw 10 rfl rfl); (try obtain rfl:=hq hw 14 rfl rfl); (try obtain rfl:=hq hw 17 rfl rfl); refine np ?_; simp only[BC,A5,A6,A1,A,B,C,E,F,J]; exact ih _ _ _ _ _ _ _)
  ·intro h0 hw;obtain rfl:=hq hw 1 rfl rfl;obtain rfl:=hq hw 8 rfl rfl;obtain rfl:=hq hw 9 rfl rfl;obtain rfl:=hq hw 10 rfl rfl;obtain rfl:=hq hw 14 rfl rfl;obtain rfl:=hq hw 18 rfl rfl;refine np ?_;try simp only[BC,A5,A6,A1,A,B,C,E,F,J]
   exact A4h F_w0 caps_w0 a0 x8 v9 r24 p25 p26 h25 h26 _ b17
theorem ab(F_w0:FuncId)(caps_w0:N D)(a0:Xf)(x8:N X0)(v9:P)(r24:Xf)(p25)(p26)(h25:bnd (r24.plan.length:P) (a0.plan.length:P) 0 r24.plan.length=H p25)(h26:bnd (r24.choice.length:P) (a0.plan.length:P) 0 r24.choice.length=H p26):∀(f:U) (b0 b1:Q) (b2 b3:Q) (b4 b8:Q) (b9 b10:Q) (b14 b15:Q),Ab X Jc (FF F_w0 caps_w0 a0 x8 v9 r24 p25 p26) f [b0,b1,b2,b3,b4,T,T,T,b8,b9,b10,T,T,T,b14,b15,G,G,G,G] (BC a0 x8 v9 (vc (.undef)) (vc (.undef)) b0 b1 b2 b3 b4 T T T b8 b9 b10 T T T b14 b15 G G [(99999999999,([aI r24.h.Forecast.Tide.Mean,aL (W Y r24.h.Forecast.Tide.Parts),aL (W Z r24.h.Forecast.Surges),aL (W X7.row r24.h.Chart.Points),aL (W X2.row r24.h.Chart.Segments),aL (W X6.row r24.h.Fleet),aI r24.h.Regime.Gap,aB r24.h.Regime.NoMeet]++dm r24.h.Crew.row++ [aL (W (rL X0.row) r24.choices),.dat (.clo F_w0 caps_w0),.undef,.undef,.own 90002,aI r24.least.i0,aI r24.least.i1,aB r24.found]))] [(90000,4,W X0.row (r24.plan.take p25.2)),(90001,1,W rI (r24.choice.take p26.2)),(90002,1,W rI r24.best)]):=by
 intro f
 induction f with
 | zero=>intro b0 b1 b2 b3 b4 b8 b9 b10 b14 b15 h; simp at h
 | succ f ih=>
  intro b0 b1 b2 b3 b4 b8 b9 b10 b14 b15;refine Ad ⟨?_,?_,?_,?_,?_,?_,?_,?_,?_,?_,?_,?_,?_,?_,?_,?_,?_,?_,?_,?_,⟨⟩⟩<;>try first | (intro h; cases h; done) | (intro _ hw; simp at hw; done) | (intro h0 hw; obtain rfl:=hz h0 rfl; (try obtain rfl:=hq hw 0 rfl rfl); (try obtain rfl:=hq hw 2 rfl rfl); (try obtain rfl:=hq hw 3 rfl rfl); (try obtain rfl:=hq hw 4 rfl rfl); (try obtain rfl:=hq hw 8 rfl rfl); (try obtain rfl:=hq hw 9 rfl rfl); (try obtain rfl:=hq hw 14 rfl rfl); refine np ?_; simp only[BC,A5,A6,A1,A,B,C,E,F,J]; exact ih _ _ _ _ _ _ _ _ _ _)
  ·intro h0 hw;obtain rfl:=hq hw 0 rfl rfl;obtain rfl:=hq hw 2 rfl rfl;obtain rfl:=hq hw 3 rfl rfl;obtain rfl:=hq hw 4 rfl rfl;obtain rfl:=hq hw 15 rfl rfl;refine np ?_;try simp only[BC,A5,A6,A1,A,B,C,E,F,J]
   exact aa F_w0 caps_w0 a0 x8 v9 r24 p25 p26 h25 h26 _ b1 b8 b9 b10 b14 G G
theorem A4i(F_w0:FuncId)(caps_w0:N D)(a0:Xf)(x8:N X0)(v9:P)(r24:Xf)(p25)(p26)(h25:bnd (r24.plan.length:P) (a0.plan.length:P) 0 r24.plan.length=H p25)(h26:bnd (r24.choice.length:P) (a0.plan.length:P) 0 r24.choice.length=H p26):∀(f:U) (b1 b8:Q) (b9 b10:Q) (b12 b14:Q),Ab X Jc (FF F_w0 caps_w0 a0 x8 v9 r24 p25 p26) f [T,b1,T,T,T,T,T,T,b8,b9,b10,T,b12,G,b14,T,T,G,G,G] (BC a0 x8 v9 (vc (.undef)) (vc (.own 90001)) T b1 T T T T T T b8 b9 b10 T b12 G b14 T G G [(99999999999,([aI r24.h.Forecast.Tide.Mean,aL (W Y r24.h.Forecast.Tide.Parts),aL (W Z r24.h.Forecast.Surges),aL (W X7.row r24.h.Chart.Points),aL (W X2.row r24.h.Chart.Segments),aL (W X6.row r24.h.Fleet),aI r24.h.Regime.Gap,aB r24.h.Regime.NoMeet]++dm r24.h.Crew.row++ [aL (W (rL X0.row) r24.choices),.dat (.clo F_w0 caps_w0),.own 90000,.own 90001,.own 90002,aI r24.least.i0,aI r24.least.i1,aB r24.found]))] [(90000,4,W X0.row (r24.plan.take p25.2)),(90001,1,W rI r24.choice),(90002,1,W rI r24.best)]):=by
 intro f
 induction f with
 | zero=>intro b1 b8 b9 b10 b12 b14 h; simp at h
 | succ f ih=>
  intro b1 b8 b9 b10 b12 b14;refine Ad ⟨?_,?_,?_,?_,?_,?_,?_,?_,?_,?_,?_,?_,?_,?_,?_,?_,?_,?_,?_,?_,⟨⟩⟩<;>try first | (intro h; cases h; done) | (intro _ hw; simp at hw; done) | (intro h0 hw; obtain rfl:=hz h0 rfl; (try obtain rfl:=hq hw 8 rfl rfl); (try obtain rfl:=hq hw 9 rfl rfl); refine np ?_; simp only[BC,A5,A6,A1,A,B,C,E,F,J]; exact ih _ _ _ _ _ _)
  ·intro h0 hw;obtain rfl:=hq hw 12 rfl rfl;refine⟨[],[(L,.cut 114)],V,V,?_⟩;try simp only[BC,A5,A6,zG,zF,A1,A,B,C,E,F,J]
   refine IK V V h26 (by rfl) ?_;try simp only[A1,A,B,C,E,F,J]
   exact aa F_w0 caps_w0 a0 x8 v9 r24 p25 p26 h25 h26 _ b1 b8 b9 b10 b14 G G
theorem A4j(F_w0:FuncId)(caps_w0:N D)(a0:Xf)(x8:N X0)(v9:P)(r24:Xf)(p25)(p26)(h25:bnd (r24.plan.length:P) (a0.plan.length:P) 0 r24.plan.length=H p25)(h26:bnd (r24.choice.length:P) (a0.plan.length:P) 0 r24.choice.length=H p26):∀(f:U) (b0 b1:Q) (b2 b3:Q) (b4 b8:Q) (b9 b10:Q) (b11 b12:Q) (b14 b15:Q),Ab X Jc (FF F_w0 caps_w0 a0 x8 v9 r24 p25 p26) f [b0,b1,b2,b3,b4,T,T,T,b8,b9,b10,b11,b12,G,b14,b15,G,G,G,G] (BC a0 x8 v9 (vc (.undef)) (vc (.own 90001)) b0 b1 b2 b3 b4 T T T b8 b9 b10 b11 b12 G b14 b15 G G [(99999999999,([aI r24.h.Forecast.Tide.Mean,aL (W Y r24.h.Forecast.Tide.Parts),aL (W Z r24.h.Forecast.Surges),aL (W X7.row r24.h.Chart.Points),aL (W X2.row r24.h.Chart.Segments),aL (W X6.row r24.h.Fleet),aI r24.h.Regime.Gap,aB r24.h.Regime.NoMeet]++dm r24.h.Crew.row++ [aL (W (rL X0.row) r24.choices),.dat (.clo F_w0 caps_w0),.undef,.own 90001,.own 90002,aI r24.least.i0,aI r24.least.i1,aB r24.found]))] [(90000,4,W X0.row (r24.plan.take p25.2)),(90001,1,W rI r24.choice),(90002,1,W rI r24.best)]):=by
 intro f
 induction f with
 | zero=>intro b0 b1 b2 b3 b4 b8 b9 b10 b11 b12 b14 b15 h; simp at h
 | succ f ih=>
  intro b0 b1 b2 b3 b4 b8 b9 b10 b11 b12 b14 b15;refine Ad ⟨?_,?_,?_,?_,?_,?_,?_,?_,?_,?_,?_,?_,?_,?_,?_,?_,?_,?_,?_,?_,⟨⟩⟩<;>try first | (intro h; cases h; done) | (intro _ hw; simp at hw; done) | (intro h0 hw; obtain rfl:=hz h0 rfl; (try obtain rfl:=hq hw 0 rfl rfl); (try obtain rfl:=hq hw 2 rfl rfl); (try obtain rfl:=hq hw 3 rfl rfl); (try obtain rfl:=hq hw 4 rfl rfl); (try obtain rfl:=hq hw 8 rfl rfl); (try obtain rfl:=hq hw 9 rfl rfl); (try obtain rfl:=hq hw 10 rfl rfl); (try obtain rfl:=hq hw 11 rfl rfl); (try obtain rfl:=hq hw 14 rfl rfl); refine np ?_; simp only[BC,A5,A6,A1,A,B,C,E,F,J]; exact ih _ _ _ _ _ _ _ _ _ _ _ _)
  ·intro h0 hw;obtain rfl:=hq hw 11 rfl rfl;obtain rfl:=hq hw 12 rfl rfl;refine⟨[],[(L,.cut 114)],V,V,?_⟩;try simp only[BC,A5,A6,zG,zF,A1,A,B,C,E,F,J]
   refine IK V V h26 (by rfl) ?_;try simp only[A1,A,B,C,E,F,J]
   exact ab F_w0 caps_w0 a0 x8 v9 r24 p25 p26 h25 h26 _ b0 b1 b2 b3 b4 b8 b9 b10 b14 b15
  ·intro h0 hw;obtain rfl:=hq hw 0 rfl rfl;obtain rfl:=hq hw 2 rfl rfl;obtain rfl:=hq hw 3 rfl rfl;obtain rfl:=hq hw 4 rfl rfl;obtain rfl:=hq hw 11 rfl rfl;obtain rfl:=hq hw 15 rfl rfl;refine np ?_;try simp only[BC,A5,A6,A1,A,B,C,E,F,J]
   exact A4i F_w0 caps_w0 a0 x8 v9 r24 p25 p26 h25 h26 _ b1 b8 b9 b10 b12 b14
theorem A4k(F_w0:FuncId)(caps_w0:N D)(a0:Xf)(x8:N X0)(v9:P)(r24:Xf)(p25)(p26)(h25:bnd (r24.plan.length:P) (a0.plan.length:P) 0 r24.plan.length=H p25)(h26:bnd (r24.choice.length:P) (a0.plan.length:P) 0 r24.choice.length=H p26):∀(f:U) (b0 b1:Q) (b2 b3:Q) (b4 b5:Q) (b6 b8:Q) (b9 b10:Q),Ab X Jc (FF F_w0 caps_w0 a0 x8 v9 r24 p25 p26) f [b0,b1,b2,b3,b4,b5,b6,G,b8,b9,b10,T,T,T,G,G,G,G,G,G] (BC a0 x8 v9 (vc (.own 90000)) (vc (.undef)) b0 b1 b2 b3 b4 b5 b6 G b8 b9 b10 T T T G G G G [(99999999999,([aI r24.h.Forecast.Tide.Mean,aL (W Y r24.h.Forecast.Tide.Parts),aL (W Z r24.h.Forecast.Surges),aL (W X7.row r24.h.Chart.Points),aL (W X2.row r24.h.Chart.Segments),aL (W X6.row r24.h.Fleet),aI r24.h.Regime.Gap,aB r24.h.Regime.NoMeet]++dm r24.h.Crew.row++ [aL (W (rL X0.row) r24.choices),.dat (.clo F_w0 caps_w0),.own 90000,.undef,.own 90002,aI r24.least.i0,aI r24.least.i1,aB r24.found]))] [(90000,4,W X0.row r24.plan),(90001,1,W rI (r24.choice.take p26.2)),(90002,1,W rI r24.best)]):=by
 intro f
 induction f with
 | zero=>intro b0 b1 b2 b3 b4 b5 b6 b8 b9 b10 h; simp at h
 | succ f ih=>
  intro b0 b1 b2 b3 b4 b5 b6 b8 b9 b10;refine Ad ⟨?_,?_,?_,?_,?_,?_,?_,?_,?_,?_,?_,?_,?_,?_,?_,?_,?_,?_,?_,?_,⟨⟩⟩<;>try first | (intro h; cases h; done) | (intro _ hw; simp at hw; done) | (intro h0 hw; obtain rfl:=hz h0 rfl; (try obtain rfl:=hq hw 2 rfl rfl); (try obtain rfl:=hq hw 3 rfl rfl); (try obtain rfl:=hq hw 4 rfl rfl); (try obtain rfl:=hq hw 8 rfl rfl); (try obtain rfl:=hq hw 9 rfl rfl); refine np ?_; simp only[BC,A5,A6,A1,A,B,C,E,F,J]; exact ih _ _ _ _ _ _ _ _ _ _)
  ·intro h0 hw;obtain rfl:=hq hw 5 rfl rfl;obtain rfl:=hq hw 6 rfl rfl;refine⟨[],[(L,.cut 108)],V,V,?_⟩;try simp only[BC,A5,A6,zG,zF,A1,A,B,C,E,F,J]
   refine IK V V h25 (by rfl) ?_;try simp only[A1,A,B,C,E,F,J]
   exact ab F_w0 caps_w0 a0 x8 v9 r24 p25 p26 h25 h26 _ b0 b1 b2 b3 b4 b8 b9 b10 G G
theorem A4l(F_w0:FuncId)(caps_w0:N D)(a0:Xf)(x8:N X0)(v9:P)(r24:Xf)(p25)(p26)(h25:bnd (r24.plan.length:P) (a0.plan.length:P) 0 r24.plan.length=H p25)(h26:bnd (r24.choice.length:P) (a0.plan.length:P) 0 r24.choice.length=H p26):∀(f:U) (b0 b1:Q) (b2 b3:Q) (b4 b5:Q) (b6 b8:Q) (b9 b10:Q) (b11 b12:Q),Ab X Jc (FF F_w0 caps_w0 a0 x8 v9 r24 p25 p26) f [b0,b1,b2,b3,b4,b5,b6,G,b8,b9,b10,b11,b12,G,G,G,G,G,G,G] (BC a0 x8 v9 (vc (.own 90000)) (vc (.own 90001)) b0 b1 b2 b3 b4 b5 b6 G b8 b9 b10 b11 b12 G G G G G [(99999999999,([aI r24.h.Forecast.Tide.Mean,aL (W Y r24.h.Forecast.Tide.Parts),aL (W Z r24.h.Forecast.Surges),aL (W X7.row r24.h.Chart.Points),aL (W X2.row r24.h.Chart.Segments),aL (W X6.row r24.h.Fleet),aI r24.h.Regime.Gap,aB r24.h.Regime.NoMeet]++dm r24.h.Crew.row++ [aL (W (rL X0.row) r24.choices),.dat (.clo F_w0 caps_w0),.own 90000,.own 90001,.own 90002,aI r24.least.i0,aI r24.least.i1,aB r24.found]))] [(90000,4,W X0.row r24.plan),(90001,1,W rI r24.choice),(90002,1,W rI r24.best)]):=by
 intro f
 induction f with
 | zero=>intro b0 b1 b2 b3 b4 b5 b6 b8 b9 b10 b11 b12 h; simp at h
 | succ f ih=>
  intro b0 b1 b2 b3 b4 b5 b6 b8 b9 b10 b11 b12;refine Ad ⟨?_,?_,?_,?_,?_,?_,?_,?_,?_,?_,?_,?_,?_,?_,?_,?_,?_,?_,?_,?_,⟨⟩⟩<;>try first | (intro _ hw; simp at hw; done) | (intro h0 hw; obtain rfl:=hz h0 rfl; (try obtain rfl:=hq hw 2 rfl rfl); (try obtain rfl:=hq hw 3 rfl rfl); (try obtain rfl:=hq hw 4 rfl rfl); (try obtain rfl:=hq hw 8 rfl rfl); (try obtain rfl:=hq hw 9 rfl rfl); (try obtain rfl:=hq hw 10 rfl rfl); refine np ?_; simp only[BC,A5,A6,A1,A,B,C,E,F,J]; exact ih _ _ _ _ _ _ _ _ _ _ _ _)
  ·intro h0 hw;obtain rfl:=hq hw 5 rfl rfl;obtain rfl:=hq hw 6 rfl rfl;refine⟨[],[(L,.cut 108)],V,V,?_⟩;try simp only[BC,A5,A6,zG,zF,A1,A,B,C,E,F,J]
   refine IK V V h25 (by rfl) ?_;try simp only[A1,A,B,C,E,F,J]
   exact A4j F_w0 caps_w0 a0 x8 v9 r24 p25 p26 h25 h26 _ b0 b1 b2 b3 b4 b8 b9 b10 b11 b12 G G
  ·intro h0 hw;obtain rfl:=hq hw 11 rfl rfl;obtain rfl:=hq hw 12 rfl rfl;refine⟨[],[(L,.cut 114)],V,V,?_⟩;try simp only[BC,A5,A6,zG,zF,A1,A,B,C,E,F,J]
   refine IK V V h26 (by rfl) ?_;try simp only[A1,A,B,C,E,F,J]
   exact A4k F_w0 caps_w0 a0 x8 v9 r24 p25 p26 h25 h26 _ b0 b1 b2 b3 b4 b5 b6 b8 b9 b10
def cW:=fun F_w0 caps_w0 (a0:Xf) x8 (k_:P→X4→(N (N X0))→P→P→Q→(N X0)→(N P)→(N P)→O Xf)=>∀{v9 v10 v11 v12 v13 v14 v15 v16 v17} {zr},k_ v9 v10 v11 v12 v13 v14 v15 v16 v17=H zr→Kh X 148 Qa 21 [0,3,61,62,63] [99999999999] [90000,90001,90002] ⟨[(0,vc (.pb 99999999999 0)),pI 3 (a0.plan.length:P),pL 61 X0.row x8,pI 62 (x8.length:P),pI 63 v9],[(99999999999,([aI v10.Forecast.Tide.Mean,aM Y v10.Forecast.Tide.Parts,aM Z v10.Forecast.Surges,aM X7.row v10.Chart.Points,aM X2.row v10.Chart.Segments,aM X6.row v10.Fleet,aI v10.Regime.Gap,aB v10.Regime.NoMeet]++dm v10.Crew.row++ [aM (rL X0.row) v11,.dat (.clo F_w0 caps_w0),.own 90000,.own 90001,.own 90002,aI v12,aI v13,aB v14]))],[(90000,4,W X0.row v15),(90001,1,W rI v16),(90002,1,W rI v17)]⟩ (D2 [] [] (D0 F_w0 caps_w0 zr) (D1 zr))
def cV:=fun F_w0 caps_w0 (a0:Xf) (r1:Xj) (k_:Q→O Xf)=>∀{v5} {zr},k_ v5=H zr→Kh X 148 Qa 8 [0,2] [99999999999,2] [90000,90001,90002] ⟨[(0,vc (.pb 99999999999 0)),pB 2],[(99999999999,([aI a0.h.Forecast.Tide.Mean,aM Y a0.h.Forecast.Tide.Parts,aM Z a0.h.Forecast.Surges,aM X7.row a0.h.Chart.Points,aM X2.row a0.h.Chart.Segments,aM X6.row a0.h.Fleet,aI a0.h.Regime.Gap,aB a0.h.Regime.NoMeet]++dm a0.h.Crew.row++ [aM (rL X0.row) a0.choices,.dat (.clo F_w0 caps_w0),.own 90000,.own 90001,.own 90002,aI a0.least.i0,aI a0.least.i1,aB v5])),(2,[aI r1.i0,aI r1.i1])],[(90000,4,W X0.row a0.plan),(90001,1,W rI a0.choice),(90002,1,W rI a0.best)]⟩ (D2 [] [] (D0 F_w0 caps_w0 zr) (D1 zr))
theorem A4m{w0:(N X0)→O Xj}{rec_:Xf→O Xf}{F_w0 caps_w0}(hF_w0:BS X F_w0=T)(h_w0:∀z0 zr,w0 z0=H zr→FC X F_w0 ([.sc (.sl (W X0.row z0))]++caps_w0.map .sc) [.ag [.v (.int .i64 zr.i0),.v (.int .i64 zr.i1)]])(h_rec:∀(a0:Xf) zr,rec_ a0=H zr→FCz X 148 [.p] (D0 F_w0 caps_w0 a0) (D1 a0) (D0 F_w0 caps_w0 zr) (D1 zr) []){a0 x8}{n:U}:cW F_w0 caps_w0 a0 x8 (DN w0 rec_ a0 x8 n):=by
 induction n with
 | zero=>intro _ _ _ _ _ _ _ _ _ r h; cases h
 | succ n ih=>
  intro v9 v10 v11 v12 v13 v14 v15 v16 v17 r h σ hσ S hS
  conv at hS=>rhs; reduce
  try simp only[zA,I,Au,UInt8.reduceOfNat] at hS
  subst hS;rw[DN] at h;refine AZ (AF ?_);obtain⟨h18,h⟩|⟨h18,h⟩:=ic h
  ·obtain⟨x19,h19,h⟩:=ob h;try simp only[hσ,h18,h19,A,B,C,E,F,J]
   refine Cd ?_;try simp only[h18,h19,A,B,C,E,F,J]
   refine At ?_;obtain⟨r20,h20,h⟩:=ob h;try simp only[h18,h19,A,B,C,E,F,J]
   refine PY (Aq xg h20) (by first | rfl | kernel_rfl) (Fg V) V (uf V) ?_;obtain⟨h21,h⟩|⟨h21,h⟩:=ic h
   ·try simp only[h18,h19,h21,A,B,C,E,F,J]
    obtain⟨h22,h⟩:=B5 h;obtain⟨h23,h⟩:=B5 h;refine DS (ks:= [0,3,4,5,61,62,63]) (bs:= [99999999999,5]) (rs:= [90000,90001,90002]) (τ:=(E3 F_w0 caps_w0 a0 x8 v9 v10 v11 v12 v13 v14 v15 v16 v17 x19)) V (A4g F_w0 caps_w0 a0 x8 v9 v10 v11 v12 v13 v14 v15 v16 v17 x19 h22 h23 _ G G G G G G G G G G G G) ?_;simp only[E3,Ba,A5];try simp only[h18,h19,h21,h22,h23,A,B,C,E,F,J]
    refine PX ?_;obtain⟨r24,h24,h⟩:=ob h;try simp only[h18,h19,h21,h22,h23,A,B,C,E,F,J]
    refine Gx (h_rec _ _ h24) 99999999999 [90000,90001,90002] rfl V V V (by decide) V V V ?_;try simp only[h18,h19,h21,h22,h23,A,B,C,E,F,J]
    obtain⟨p25,h25,h⟩:=ob h;obtain⟨p26,h26,h⟩:=ob h;refine DS (ks:= [0,3,61,62,63]) (bs:= [99999999999]) (rs:= [90000,90001,90002]) (τ:=(FF F_w0 caps_w0 a0 x8 v9 r24 p25 p26)) V (A4l F_w0 caps_w0 a0 x8 v9 r24 p25 p26 h25 h26 _ G G G G G G G G G G G G) ?_;simp only[FF,BC,A5];try simp only[h18,h19,h21,h22,h23,A,B,C,E,F,J]
    refine ih h ?_ (by kernel_rfl);try simp only[h18,h19,h21,h22,h23,A,B,C,E,F,J,pL,aM,zB]
   ·try simp only[h18,h19,h21,A,B,C,E,F,J]
    refine ih h ?_ (by kernel_rfl);try simp only[h18,h19,h21,A,B,C,E,F,J,pL,aM,zB]
  ·try simp only[hσ,h18,A,B,C,E,F,J]
   cases h;exact⟨trivial,[90000,90001,90002],by decide,by decide,V,V⟩
theorem ae{w0:(N X0)→O Xj}{rec_:Xf→O Xf}{F_w0 caps_w0}(hF_w0:BS X F_w0=T)(h_w0:∀z0 zr,w0 z0=H zr→FC X F_w0 ([.sc (.sl (W X0.row z0))]++caps_w0.map .sc) [.ag [.v (.int .i64 zr.i0),.v (.int .i64 zr.i1)]])(h_rec:∀(a0:Xf) zr,rec_ a0=H zr→FCz X 148 [.p] (D0 F_w0 caps_w0 a0) (D1 a0) (D0 F_w0 caps_w0 zr) (D1 zr) []){a0 r1}:cV F_w0 caps_w0 a0 r1 (HL w0 rec_ a0 r1):=by
 intro v5 r h σ hσ S hS
 conv at hS=>rhs; reduce
 try simp only[zA,I,Au,UInt8.reduceOfNat] at hS
 subst hS;refine AF ?_;unfold HL at h;obtain⟨h6,h⟩|⟨h6,h⟩:=ic h
 ·try simp only[hσ,h6,A,B,C,E,F,J]
  obtain⟨r7,h7,h⟩:=ob h;refine DS (ks:= [0,2]) (bs:= [99999999999,2]) (rs:= [90000,90001,90002]) (τ:=(J9 F_w0 caps_w0 a0 r1 r7)) V (A38 F_w0 caps_w0 a0 r1 v5 r7 h7 _ G G G G G G G G) ?_;simp only[J9,CK,A5];try simp only[h6,A,B,C,E,F,J]
  cases h;exact⟨trivial,[90000,90001,3008],by decide,by decide,V,V⟩
 ·obtain⟨x8,h8,h⟩:=ob h;try simp only[hσ,h6,h8,A,B,C,E,F,J]
  refine A4m hF_w0 h_w0 h_rec h ?_ (by kernel_rfl);try simp only[h6,h8,A,B,C,E,F,J,pL,aM,zB]
theorem kq:Ch X 148=H ((H2 X 148 Qa).strip,[],120):=by kernel_rfl
theorem xo(w0:(N X0)→O Xj)(rec_:Xf→O Xf)(a0 r:Xf)(F_w0:FuncId)(caps_w0:N D)(hF_w0:BS X F_w0=T)(h_w0:∀z0 zr,w0 z0=H zr→FC X F_w0 ([.sc (.sl (W X0.row z0))]++caps_w0.map .sc) [.ag [.v (.int .i64 zr.i0),.v (.int .i64 zr.i1)]])(h_rec:∀(a0:Xf) zr,rec_ a0=H zr→FCz X 148 [.p] (D0 F_w0 caps_w0 a0) (D1 a0) (D0 F_w0 caps_w0 zr) (D1 zr) [])(h:LV w0 rec_ a0=H r):FCz X 148 [.p] (D0 F_w0 caps_w0 a0) (D1 a0) (D0 F_w0 caps_w0 r) (D1 r) []:=by
 unfold LV at h;refine OJ (σ:=⟨[(0,vc (.pb 99999999999 0))],[(99999999999,[aI a0.h.Forecast.Tide.Mean,aL (W Y a0.h.Forecast.Tide.Parts),aL (W Z a0.h.Forecast.Surges),aL (W X7.row a0.h.Chart.Points),aL (W X2.row a0.h.Chart.Segments),aL (W X6.row a0.h.Fleet),aI a0.h.Regime.Gap,aB a0.h.Regime.NoMeet,aI a0.h.Crew.Tugs,aI a0.h.Crew.Pilots,aI a0.h.Crew.Rest,aL (W rI a0.h.Crew.Moves),aL (W (rL X0.row) a0.choices),.dat (.clo F_w0 caps_w0),.own 90000,.own 90001,.own 90002,aI a0.least.i0,aI a0.least.i1,aB a0.found])],[(90000,4,W X0.row a0.plan),(90001,1,W rI a0.choice),(90002,1,W rI a0.best)]⟩) mixed kq V V V V ?_;refine Jk Qa ?_;intro S hS
 conv at hS=>rhs; reduce
 try simp only[zA,I,Au,UInt8.reduceOfNat] at hS
 subst hS;try simp only[A,B,C,E,F,J]
 refine At ?_;obtain⟨r1,h1,h⟩:=ob h;try simp only[A,B,C,E,F,J]
 refine nK (h_w0 _ _ h1) hF_w0 (by first | rfl | kernel_rfl) (by first | rfl | kernel_rfl) (Fg V) V (uf V) ?_;try simp only[A,B,C,E,F,J]
 refine Q0 (m:= .box 2 [aI (0:P),aI (0:P)]) V V (O5 V V) ?_;try simp only[A,B,C,E,F,J]
 refine At ?_;try simp only[A,B,C,E,F,J]
 refine At ?_;obtain⟨h2,h⟩|⟨h2,h⟩:=ic h
 ·obtain⟨r3,h3,h⟩:=ob h;try simp only[h2,A,B,C,E,F,J]
  refine Cg (Aq xv h3) ?_;obtain⟨h4,h⟩|⟨h4,h⟩:=ic h
  ·try simp only[h2,h4,A,B,C,E,F,J]
   refine ae hF_w0 h_w0 h_rec h ?_ (by kernel_rfl);try simp only[h2,h4,A,B,C,E,F,J,pL,aM,zB]
  ·try simp only[h2,h4,A,B,C,E,F,J]
   cases h;exact⟨trivial,[90000,90001,90002],by decide,by decide,V,V⟩
 ·try simp only[h2,A,B,C,E,F,J]
  refine ae hF_w0 h_w0 h_rec h ?_ (by kernel_rfl);try simp only[h2,A,B,C,E,F,J,pL,aM,zB]
theorem xp(w0:(N X0)→O Xj)(F_w0:FuncId)(caps_w0:N D)(hF_w0:BS X F_w0=T)(h_w0:∀z0 zr,w0 z0=H zr→FC X F_w0 ([.sc (.sl (W X0.row z0))]++caps_w0.map .sc) [.ag [.v (.int .i64 zr.i0),.v (.int .i64 zr.i1)]]):∀(n:U) (a0 r:Xf),Do w0 n a0=H r→FCz X 148 [.p] (D0 F_w0 caps_w0 a0) (D1 a0) (D0 F_w0 caps_w0 r) (D1 r) []:=by
 intro n
 induction n with
 | zero=>intro _ r h; cases h
 | succ n ih=>intro a0 r h; rw[Do] at h; exact xo w0 (Do w0 n) a0 r F_w0 caps_w0 hF_w0 h_w0 ih h
theorem xn{w0}{a0}{r}(F_w0:FuncId)(caps_w0:N D)(hF_w0:BS X F_w0=T)(h_w0:∀z0 zr,w0 z0=H zr→FC X F_w0 ([.sc (.sl (W X0.row z0))]++caps_w0.map .sc) [.ag [.v (.int .i64 zr.i0),.v (.int .i64 zr.i1)]])(h:RO w0 a0=H r):FCz X 148 [.p] (D0 F_w0 caps_w0 a0) (D1 a0) (D0 F_w0 caps_w0 r) (D1 r) []:=xp w0 F_w0 caps_w0 hF_w0 h_w0 bigN a0 r h
/- 97:impl_leastPlan -/
def bD:N (N U × AItem):= [([],(L,.mv 17 (S 9))),([0],(L,.nilc 18 (S 17))),([1],(L,.faddr 19 (S 18) 16)),([2],(L,.load 20 (S 19) G 1)),([],(L,.mv 21 (S 9))),([4],(L,.nilc 22 (S 21))),([5],(L,.faddr 23 (S 22) 17)),([6],(L,.load 24 (S 23) T 2)),([],(L,.mv 25 (S 9))),([8],(L,.nilc 26 (S 25))),([9],(L,.faddr 27 (S 26) 19)),([10],(L,.load 28 (S 27) G 1)),([3,0,1,2,3],(L,.mv 6 (S 20))),([7,12,0,1,2,3,4,5,6,7,12],(L,.store (S 7) (S 24) 2)),([11,13,0,1,2,3,4,5,6,7,8,9,10,11,12,13],(L,.mv 8 (S 28)))]
def oY:Hw:=([],[(3,5,(L,.ownb 14 14 143232 4)),(3,6,(L,.ownb 14 15 143296 1)),(3,7,(L,.ownb 14 16 143360 1))])
abbrev J3(r1:Xf)(c0_ c1_:Q)(c2_ c3_:Q)(c4_ c5_:Q)(c6_ c7_:Q)(c8_ c9_:Q)(c10_ c11_:Q)(c12_ c14_:Q)(bx_:N (U × N AC))(rs_:Rows):St:=⟨[(7,vc (.pb 7 0)),(9,vc (.pb 14 0)),(17,bif c0_ then vc (.pb 14 0) else .undef),(18,bif c1_ then vc (.pb 14 0) else .undef),(19,bif c2_ then vc (.pb 14 16) else .undef),(20,bif c3_ then vc (.own 143360) else .undef),(21,bif c4_ then vc (.pb 14 0) else .undef),(22,bif c5_ then vc (.pb 14 0) else .undef),(23,bif c6_ then vc (.pb 14 17) else .undef),(24,bif c7_ then va [aI r1.least.i0,aI r1.least.i1] else .undef),(25,bif c8_ then vc (.pb 14 0) else .undef),(26,bif c9_ then vc (.pb 14 0) else .undef),(27,bif c10_ then vc (.pb 14 19) else .undef),(28,bif c11_ then vc (aB r1.found) else .undef),(6,bif c12_ then vc (.own 143360) else .undef),(8,bif c14_ then vc (aB r1.found) else .undef)],bx_,rs_⟩
abbrev QQ(F_a2:FuncId)(caps_a2:N D)(r1:Xf):St:=(J3 r1 T T T T T T T T T T T T T T [(7,[aI r1.least.i0,aI r1.least.i1]),(14,([aI r1.h.Forecast.Tide.Mean,aL (W Y r1.h.Forecast.Tide.Parts),aL (W Z r1.h.Forecast.Surges),aL (W X7.row r1.h.Chart.Points),aL (W X2.row r1.h.Chart.Segments),aL (W X6.row r1.h.Fleet),aI r1.h.Regime.Gap,aB r1.h.Regime.NoMeet]++dm r1.h.Crew.row++ [aL (W (rL X0.row) r1.choices),.dat (.clo F_a2 caps_a2),.own 143232,.own 143296,.own 143360,aI r1.least.i0,aI r1.least.i1,aB r1.found]))] [(143232,4,W X0.row r1.plan),(143296,1,W rI r1.choice),(143360,1,W rI r1.best)])
theorem A4n(F_a2:FuncId)(caps_a2:N D)(r1:Xf):∀(f:U) (b8 b9:Q) (b10 b11 b14:Q),Ab X bD (QQ F_a2 caps_a2 r1) f [T,T,T,T,T,T,T,T,b8,b9,b10,b11,T,T,b14] (J3 r1 T T T T T T T T b8 b9 b10 b11 T b14 [(7,[aI r1.least.i0,aI r1.least.i1]),(14,([aI r1.h.Forecast.Tide.Mean,aL (W Y r1.h.Forecast.Tide.Parts),aL (W Z r1.h.Forecast.Surges),aL (W X7.row r1.h.Chart.Points),aL (W X2.row r1.h.Chart.Segments),aL (W X6.row r1.h.Fleet),aI r1.h.Regime.Gap,aB r1.h.Regime.NoMeet]++dm r1.h.Crew.row++ [aL (W (rL X0.row) r1.choices),.dat (.clo F_a2 caps_a2),.own 143232,.own 143296,.own 143360,aI r1.least.i0,aI r1.least.i1,aB r1.found]))] [(143232,4,W X0.row r1.plan),(143296,1,W rI r1.choice),(143360,1,W rI r1.best)]):=by
 intro f
 induction f with
 | zero=>
  intro b8 b9 b10 b11 b14 h;obtain rfl:b8=T:=zC.1 h b8 (by simp);obtain rfl:b9=T:=zC.1 h b9 (by simp);obtain rfl:b10=T:=zC.1 h b10 (by simp);obtain rfl:b11=T:=zC.1 h b11 (by simp);obtain rfl:b14=T:=zC.1 h b14 (by simp);rfl
 | succ f ih=>
  intro b8 b9 b10 b11 b14;refine Ad ⟨?_,?_,?_,?_,?_,?_,?_,?_,?_,?_,?_,?_,?_,?_,?_,⟨⟩⟩<;>try first | (intro h; cases h; done) | (intro h0 hw; obtain rfl:=hz h0 rfl; (try obtain rfl:=hq hw 8 rfl rfl); (try obtain rfl:=hq hw 9 rfl rfl); (try obtain rfl:=hq hw 10 rfl rfl); (try obtain rfl:=hq hw 11 rfl rfl); refine np ?_; simp only[J3,A5,A6,A1,A,B,C,E,F,J]; exact ih _ _ _ _ _)
theorem A4o(F_a2:FuncId)(caps_a2:N D)(r1:Xf):∀(f:U) (b0 b1:Q) (b2 b3:Q) (b4 b5:Q) (b6 b7:Q) (b8 b9:Q) (b10 b11 b12:Q),Ab X bD (QQ F_a2 caps_a2 r1) f [b0,b1,b2,b3,b4,b5,b6,b7,b8,b9,b10,b11,b12,G,G] (J3 r1 b0 b1 b2 b3 b4 b5 b6 b7 b8 b9 b10 b11 b12 G [(7,[aI (0:P),aI (0:P)]),(14,([aI r1.h.Forecast.Tide.Mean,aL (W Y r1.h.Forecast.Tide.Parts),aL (W Z r1.h.Forecast.Surges),aL (W X7.row r1.h.Chart.Points),aL (W X2.row r1.h.Chart.Segments),aL (W X6.row r1.h.Fleet),aI r1.h.Regime.Gap,aB r1.h.Regime.NoMeet]++dm r1.h.Crew.row++ [aL (W (rL X0.row) r1.choices),.dat (.clo F_a2 caps_a2),.own 143232,.own 143296,.own 143360,aI r1.least.i0,aI r1.least.i1,aB r1.found]))] [(143232,4,W X0.row r1.plan),(143296,1,W rI r1.choice),(143360,1,W rI r1.best)]):=by
 intro f
 induction f with
 | zero=>intro b0 b1 b2 b3 b4 b5 b6 b7 b8 b9 b10 b11 b12 h; simp at h
 | succ f ih=>
  intro b0 b1 b2 b3 b4 b5 b6 b7 b8 b9 b10 b11 b12;refine Ad ⟨?_,?_,?_,?_,?_,?_,?_,?_,?_,?_,?_,?_,?_,?_,?_,⟨⟩⟩<;>try first | (intro _ hw; simp at hw; done) | (intro h0 hw; obtain rfl:=hz h0 rfl; (try obtain rfl:=hq hw 0 rfl rfl); (try obtain rfl:=hq hw 1 rfl rfl); (try obtain rfl:=hq hw 2 rfl rfl); (try obtain rfl:=hq hw 3 rfl rfl); (try obtain rfl:=hq hw 4 rfl rfl); (try obtain rfl:=hq hw 5 rfl rfl); (try obtain rfl:=hq hw 6 rfl rfl); (try obtain rfl:=hq hw 8 rfl rfl); (try obtain rfl:=hq hw 9 rfl rfl); (try obtain rfl:=hq hw 10 rfl rfl); refine np ?_; simp only[J3,A5,A6,A1,A,B,C,E,F,J]; exact ih _ _ _ _ _ _ _ _ _ _ _ _ _)
  ·intro h0 hw;obtain rfl:=hq hw 0 rfl rfl;obtain rfl:=hq hw 1 rfl rfl;obtain rfl:=hq hw 2 rfl rfl;obtain rfl:=hq hw 3 rfl rfl;obtain rfl:=hq hw 4 rfl rfl;obtain rfl:=hq hw 5 rfl rfl;obtain rfl:=hq hw 6 rfl rfl;obtain rfl:=hq hw 7 rfl rfl;obtain rfl:=hq hw 12 rfl rfl;refine np ?_;try simp only[J3,A5,A6,A1,A,B,C,E,F,J]
   exact A4n F_a2 caps_a2 r1 _ b8 b9 b10 b11 G
theorem xj{a0}{a1}{a2}{r}(F_a2:FuncId)(caps_a2:N D)(hF_a2:BS X F_a2=T)(h_a2:∀z0 zr,a2 z0=H zr→FC X F_a2 ([.sc (.sl (W X0.row z0))]++caps_a2.map .sc) [.ag [.v (.int .i64 zr.i0),.v (.int .i64 zr.i1)]])(h:Ph a0 a1 a2=H r):FC X 97 [.ag (X4.row a0),.sc (.sl (W (rL X0.row) a1)),.sc (.clo F_a2 caps_a2)] [.sc (.o 1 (W rI r.1)),.ag [.v (.int .i64 r.2.1.i0),.v (.int .i64 r.2.1.i1)],.sc (.v (.bool r.2.2))]:=by
 unfold Ph at h;refine A4 mixed oY [6,.c 7 T 2,8] 29 ?_;intro S hS
 conv at hS=>rhs; reduce
 try simp only[zA,I,Au,UInt8.reduceOfNat] at hS
 subst hS;simp only[A,B,C,E,F,J];try simp only[A,B,C,E,F,J]
 refine C5 ?_;try simp only[A,B,C,E,F,J]
 refine Cd ?_;try simp only[A,B,C,E,F,J]
 refine C5 ?_;try simp only[A,B,C,E,F,J]
 refine Fi (cs':= [aI a0.Forecast.Tide.Mean,aL (W Y a0.Forecast.Tide.Parts),aL (W Z a0.Forecast.Surges),aL (W X7.row a0.Chart.Points),aL (W X2.row a0.Chart.Segments),aL (W X6.row a0.Fleet),aI a0.Regime.Gap,aB a0.Regime.NoMeet,aI a0.Crew.Tugs,aI a0.Crew.Pilots,aI a0.Crew.Rest,aL (W rI a0.Crew.Moves),aL (W (rL X0.row) a1),.dat (.clo F_a2 caps_a2),.own 143232,.nil,.nil,aI (0:P),aI (0:P),aB G]) V V V V ?_;try simp only[A,B,C,E,F,J]
 refine Fi (cs':= [aI a0.Forecast.Tide.Mean,aL (W Y a0.Forecast.Tide.Parts),aL (W Z a0.Forecast.Surges),aL (W X7.row a0.Chart.Points),aL (W X2.row a0.Chart.Segments),aL (W X6.row a0.Fleet),aI a0.Regime.Gap,aB a0.Regime.NoMeet,aI a0.Crew.Tugs,aI a0.Crew.Pilots,aI a0.Crew.Rest,aL (W rI a0.Crew.Moves),aL (W (rL X0.row) a1),.dat (.clo F_a2 caps_a2),.own 143232,.own 143296,.nil,aI (0:P),aI (0:P),aB G]) V V V V ?_;try simp only[A,B,C,E,F,J]
 refine Fi (cs':= [aI a0.Forecast.Tide.Mean,aL (W Y a0.Forecast.Tide.Parts),aL (W Z a0.Forecast.Surges),aL (W X7.row a0.Chart.Points),aL (W X2.row a0.Chart.Segments),aL (W X6.row a0.Fleet),aI a0.Regime.Gap,aB a0.Regime.NoMeet,aI a0.Crew.Tugs,aI a0.Crew.Pilots,aI a0.Crew.Rest,aL (W rI a0.Crew.Moves),aL (W (rL X0.row) a1),.dat (.clo F_a2 caps_a2),.own 143232,.own 143296,.own 143360,aI (0:P),aI (0:P),aB G]) V V V V ?_;try simp only[A,B,C,E,F,J]
 refine PX ?_;obtain⟨r1,h1,h⟩:=ob h;try simp only[A,B,C,E,F,J]
 refine Gx (xn F_a2 caps_a2 hF_a2 h_a2 h1) 14 [143232,143296,143360] rfl V V V (by decide) V V V ?_;try simp only[A,B,C,E,F,J]
 refine DS (ks:= [7,9]) (bs:= [7,14]) (rs:= [143232,143296,143360]) (τ:=(QQ F_a2 caps_a2 r1)) V (A4o F_a2 caps_a2 r1 _ G G G G G G G G G G G G G) ?_;simp only[QQ,J3,A5];try simp only[A,B,C,E,F,J]
 cases h;try simp only[Ol,A,B,C,E,F,J]
 trivial
/- 149:impl_CostOf -/
def Wj:Hw:=([(8,[3,6,7,8],[],[])],[])
def bY:=fun a0 (k_:P→P→O P)=>∀{v1 v2} {zr},k_ v1 v2=H zr→Kh X 149 Wj 8 [3,6,7,8] [] [] ⟨[pI 3 v1,pL 6 X0.row a0,pI 7 (a0.length:P),pI 8 v2],[],[]⟩ (A7 [2] [.sc (.v (.int .i64 zr))])
theorem A4p{a0}{n:U}:bY a0 (Hh a0 n):=by
 induction n with
 | zero=>intro _ _ r h; cases h
 | succ n ih=>
  intro v1 v2 r h σ hσ;rw[Hh] at h;exact gc
instance A67:Ct 149 (∀{a0} {r},Lh a0=H r→FC X 149 [.sc (.sl (W X0.row a0))] [.sc (.v (.int .i64 r))]):=by
 refine⟨fun h=> ?_⟩;unfold Lh at h;refine A4 mixed Wj [2] 18 ?_;have k0:= @A4p;exact gc
/- 98:impl_byCost -/
theorem xZ{a0}{r}(h:LJ a0=H r):FC X 98 [.sc (.sl (W X0.row a0))] [.ag [.v (.int .i64 r.i0),.v (.int .i64 r.i1)]]:=by
 unfold LJ at h;refine A4 mixed h0 [.c 2 T 2] 6 ?_;exact gc
/- 162:impl_BestPlan -/
instance A62:Ct 162 (∀{a0} {a1} {r},P6 a0 a1=H r→FC X 162 [.ag (X4.row a0),.sc (.sl (W zH a1))] [.sc (.o 1 (W rI r.1)),.sc (.v (.int .i64 r.2.1)),.sc (.v (.bool r.2.2))]):=by
 refine⟨fun{a0} {a1} {r} h=> ?_⟩;unfold P6 at h;refine A4 mixed h0 [4,5,6] 27 ?_;intro S hS
 conv at hS=>rhs; reduce
 try simp only[zA,I,Au,UInt8.reduceOfNat] at hS
 subst hS;simp only[A,B,C,E,F,J];try simp only[A,B,C,E,F,J]
 refine C5 ?_;obtain⟨r1,h1,h⟩:=ob h;try simp only[A,B,C,E,F,J]
 refine AY (Aq xO h1) ?_;obtain⟨h2,h⟩|⟨h2,h⟩:=ic h
 ·try simp only[h2,A,B,C,E,F,J]
  refine At ?_;obtain⟨r3,h3,h⟩:=ob h;try simp only[h2,A,B,C,E,F,J]
  refine Cg (Aq xY h3) ?_;obtain⟨r4,h4,h⟩:=ob h;try simp only[h2,A,B,C,E,F,J]
  refine PY (xj 98 [] (by kernel_rfl) (fun z0 zr zh=>xZ zh) h4) (by first | rfl | kernel_rfl) (Dr V ⟨Ds,V,V,V,⟨⟩⟩) V (uf V) ?_;try simp only[h2,A,B,C,E,F,J]
  refine Q0 (m:= .box 8 [aI (0:P),aI (0:P)]) V V (O5 V V) ?_;try simp only[h2,A,B,C,E,F,J]
  refine At ?_;try simp only[h2,A,B,C,E,F,J]
  refine At ?_;try simp only[h2,A,B,C,E,F,J]
  cases h;trivial
 ·try simp only[h2,A,B,C,E,F,J]
  cases h;trivial
/- 124:impl_CanServe -/
instance A65:Ct 124 (∀{a0} {a1} {r},Lg a0 a1=H r→FC X 124 [.ag (X4.row a0),.sc (.sl (W zH a1))] [.sc (.v (.bool r))]):=by
 refine⟨fun h=> ?_⟩;unfold Lg at h;refine A4 mixed h0 [4] 16 ?_;exact gc
/- 82:impl_Servable -/
instance xW:Ct 82 (∀{a0} {a1} {a2} {r},JG a0 a1 a2=H r→FC X 82 [.ag (X4.row a0),.sc (.sl (W zH a1)),.sc (.sl (W rI a2))] [.sc (.v (.bool r))]):=by
 refine⟨fun h=> ?_⟩;unfold JG at h;refine A4 mixed h0 [6] 22 ?_;exact gc
/- 38:impl_RefusalOf -/
def Sl:Hw:=([(14,[1,2,14,15],[2],[]),(28,[1,2,14,15,21,22,23],[2],[1344])],[])
def bt:=fun a1 y3 v4 r6 (a0:X4) (k_:P→O (N P))=>∀{v7} {zr},k_ v7=H zr→Kh X 38 Sl 28 [1,2,14,15,21,22,23] [2] [1344] ⟨[pL 1 zH a1,pB 2,pI 14 y3,pI 15 v4,pW 21 1344,pI 22 (r6.length:P),pI 23 v7],[(2,([aI a0.Forecast.Tide.Mean,aM Y a0.Forecast.Tide.Parts,aM Z a0.Forecast.Surges,aM X7.row a0.Chart.Points,aM X2.row a0.Chart.Segments,aM X6.row a0.Fleet,aI a0.Regime.Gap,aB a0.Regime.NoMeet]++dm a0.Crew.row))],[(1344,1,W (rL rI) r6)]⟩ (A7 [4] [.sc (.v (.sl (W rI zr)))])
def TD:=fun a1 (a0:X4) y3 (k_:P→O (N P))=>∀{v4} {zr},k_ v4=H zr→Kh X 38 Sl 14 [1,2,14,15] [2] [] ⟨[pL 1 zH a1,pB 2,pI 14 y3,pI 15 v4],[(2,([aI a0.Forecast.Tide.Mean,aM Y a0.Forecast.Tide.Parts,aM Z a0.Forecast.Surges,aM X7.row a0.Chart.Points,aM X2.row a0.Chart.Segments,aM X6.row a0.Fleet,aI a0.Regime.Gap,aB a0.Regime.NoMeet]++dm a0.Crew.row))],[]⟩ (A7 [4] [.sc (.v (.sl (W rI zr)))])
theorem A4q{a1 y3 v4 r6 a0}{NK}(oi:TD a1 a0 y3 NK){n:U}:bt a1 y3 v4 r6 a0 (FX a1 y3 v4 r6 a0 NK n):=by
 induction n with
 | zero=>intro _ r h; cases h
 | succ n ih=>
  intro v7 r h σ hσ S hS
  conv at hS=>rhs; reduce
  try simp only[zA,I,Au,UInt8.reduceOfNat] at hS
  subst hS;rw[FX] at h;refine AZ (AF ?_);obtain⟨h8,h⟩|⟨h8,h⟩:=ic h
  ·obtain⟨x9,h9,h⟩:=ob h;have h9n:=B7 h9;obtain⟨r10,h10,h⟩:=ob h;try simp only[hσ,h8,h9,h9n,A,B,C,E,F,J]
   refine AY (Aq xW h10) ?_;obtain⟨h11,h⟩|⟨h11,h⟩:=ic h
   ·try simp only[h8,h9,h9n,h11,A,B,C,E,F,J]
    refine ih h ?_ (by kernel_rfl);try simp only[h8,h9,h9n,h11,A,B,C,E,F,J,pL,aM,zB]
   ·try simp only[h8,h9,h9n,h11,A,B,C,E,F,J]
    cases h;exact t0
  ·try simp only[hσ,h8,A,B,C,E,F,J]
   refine oi h ?_ (by kernel_rfl);try simp only[h8,A,B,C,E,F,J,pL,aM,zB]
theorem A4r{a1 a0 y3}{n:U}:TD a1 a0 y3 (FW a1 a0 y3 n):=by
 induction n with
 | zero=>intro _ r h; cases h
 | succ n ih=>
  intro v4 r h σ hσ S hS
  conv at hS=>rhs; reduce
  try simp only[zA,I,Au,UInt8.reduceOfNat] at hS
  subst hS;rw[FW] at h;refine AZ (AF ?_);obtain⟨h5,h⟩|⟨h5,h⟩:=ic h
  ·obtain⟨r6,h6,h⟩:=ob h;try simp only[hσ,h5,A,B,C,E,F,J]
   refine AY (xq h6) ?_;try simp only[h5,A,B,C,E,F,J]
   refine A4q ih h ?_ (by kernel_rfl);try simp only[h5,A,B,C,E,F,J,pL,aM,zB]
  ·try simp only[hσ,h5,A,B,C,E,F,J]
   cases h;exact t0
instance A7u:Ct 38 (∀{a0} {a1} {r},Lz a0 a1=H r→FC X 38 [.ag (X4.row a0),.sc (.sl (W zH a1))] [.sc (.v (.sl (W rI r)))]):=by
 refine⟨fun h=> ?_⟩;unfold Lz at h;refine A4 mixed Sl [4] 35 ?_;have k0:= @A4r;exact gc
/- 39:impl_Join -/
instance A7h:Ct 39 (∀{a0} {a1} {r},Lo a0 a1=H r→FC X 39 [.sc (.sl (W rS a0)),.sc (.str a1)] [.sc (.v (.str r))]):=by
 refine⟨fun{a0} {a1} {r} h=> ?_⟩;unfold Lo at h;refine A4 mixed h0 [4] 8 ?_;intro S hS
 conv at hS=>rhs; reduce
 try simp only[zA,I,Au,UInt8.reduceOfNat] at hS
 subst hS;simp only[A,B,C,E,F,J];obtain⟨r1,h1,h⟩:=ob h;try simp only[A,B,C,E,F,J]
 refine AY (yr _ _ _ h1) ?_;try simp only[A,B,C,E,F,J]
 cases h;exact t0
/- 10:impl_RefusalLine -/
def Wk:Hw:=([(16,[1,2,5,15,16,17],[2],[768])],[])
def br:=fun a1 r3 (a0:X4) (k_:P→(N (N UInt8))→O (N UInt8))=>∀{v4 v5} {zr},k_ v4 v5=H zr→Kh X 10 Wk 16 [1,2,5,15,16,17] [2] [768] ⟨[pL 1 zH a1,pB 2,pW 5 768,pL 15 rI r3,pI 16 (r3.length:P),pI 17 v4],[(2,([aI a0.Forecast.Tide.Mean,aM Y a0.Forecast.Tide.Parts,aM Z a0.Forecast.Surges,aM X7.row a0.Chart.Points,aM X2.row a0.Chart.Segments,aM X6.row a0.Fleet,aI a0.Regime.Gap,aB a0.Regime.NoMeet]++dm a0.Crew.row))],[(768,1,W rS v5)]⟩ (A7 [4] [.sc (.v (.str zr))])
theorem A4t{a1 r3 a0}{n:U}:br a1 r3 a0 (FV a1 r3 a0 n):=by
 induction n with
 | zero=>intro _ _ r h; cases h
 | succ n ih=>
  intro v4 v5 r h σ hσ;rw[FV] at h;have s0:=fun(x9:X6)=> @Ai (W rS ([x9.Name]:N (N UInt8)))
  exact gc
instance A7t:Ct 10 (∀{a0} {a1} {r},Ly a0 a1=H r→FC X 10 [.ag (X4.row a0),.sc (.sl (W zH a1))] [.sc (.v (.str r))]):=by
 refine⟨fun h=> ?_⟩;unfold Ly at h;refine A4 mixed Wk [4] 40 ?_;have s0:= @Ai (W rS ([]:N (N UInt8)));have k0:= @A4t;exact gc
/- 165:laws_eqPart -/
instance A8v:Ct 165 (∀{a0} {a1} {r},M6 a0 a1=H r→FC X 165 [.ag (Y a0),.ag (Y a1)] [.sc (.v (.bool r))]):=by
 refine⟨fun h=> ?_⟩;unfold M6 at h;refine A4 mixed h0 [4] 20 ?_;exact gc
/- 128:laws_eqPartS -/
def Wl:Hw:=([(14,[0,1,5],[],[])],[])
def ck:=fun a0 a1 (k_:P→O Q)=>∀{v2} {zr},k_ v2=H zr→Kh X 128 Wl 14 [0,1,5] [] [] ⟨[pL 0 Y a0,pL 1 Y a1,pI 5 v2],[],[]⟩ (A7 [4] [.sc (.v (.bool zr))])
theorem A4u{a0 a1}{n:U}:ck a0 a1 (HT a0 a1 n):=by
 induction n with
 | zero=>intro _ r h; cases h
 | succ n ih=>
  intro v2 r h σ hσ;rw[HT] at h;exact gc
instance A8w:Ct 128 (∀{a0} {a1} {r},M7 a0 a1=H r→FC X 128 [.sc (.sl (W Y a0)),.sc (.sl (W Y a1))] [.sc (.v (.bool r))]):=by
 refine⟨fun h=> ?_⟩;unfold M7 at h;refine A4 mixed Wl [4] 27 ?_;have k0:= @A4u;exact gc
/- 84:laws_eqTide -/
instance A86:Ct 84 (∀{a0} {a1} {r},Pp a0 a1=H r→FC X 84 [.ag (Xl.row a0),.ag (Xl.row a1)] [.sc (.v (.bool r))]):=by
 refine⟨fun h=> ?_⟩;unfold Pp at h;refine A4 mixed h0 [4] 16 ?_;exact gc
/- 129:laws_eqSurge -/
instance A84:Ct 129 (∀{a0} {a1} {r},Me a0 a1=H r→FC X 129 [.ag (Z a0),.ag (Z a1)] [.sc (.v (.bool r))]):=by
 refine⟨fun h=> ?_⟩;unfold Me at h;refine A4 mixed h0 [4] 20 ?_;exact gc
/- 85:laws_eqSurgeS -/
def Wm:Hw:=([(14,[0,1,5],[],[])],[])
def co:=fun a0 a1 (k_:P→O Q)=>∀{v2} {zr},k_ v2=H zr→Kh X 85 Wm 14 [0,1,5] [] [] ⟨[pL 0 Z a0,pL 1 Z a1,pI 5 v2],[],[]⟩ (A7 [4] [.sc (.v (.bool zr))])
theorem A4v{a0 a1}{n:U}:co a0 a1 (HX a0 a1 n):=by
 induction n with
 | zero=>intro _ r h; cases h
 | succ n ih=>
  intro v2 r h σ hσ;rw[HX] at h;exact gc
instance A85:Ct 85 (∀{a0} {a1} {r},Mf a0 a1=H r→FC X 85 [.sc (.sl (W Z a0)),.sc (.sl (W Z a1))] [.sc (.v (.bool r))]):=by
 refine⟨fun h=> ?_⟩;unfold Mf at h;refine A4 mixed Wm [4] 27 ?_;have k0:= @A4v;exact gc
/- 40:laws_eqForecast -/
instance A8s:Ct 40 (∀{a0} {a1} {r},M3 a0 a1=H r→FC X 40 [.ag (Xd.row a0),.ag (Xd.row a1)] [.sc (.v (.bool r))]):=by
 refine⟨fun h=> ?_⟩;unfold M3 at h;refine A4 mixed h0 [4] 17 ?_;exact gc
/- 130:laws_eqPoint -/
instance A8x:Ct 130 (∀{a0} {a1} {r},M8 a0 a1=H r→FC X 130 [.ag (X7.row a0),.ag (X7.row a1)] [.sc (.v (.bool r))]):=by
 refine⟨fun h=> ?_⟩;unfold M8 at h;refine A4 mixed h0 [4] 15 ?_;exact gc
/- 86:laws_eqPointS -/
def Wn:Hw:=([(14,[0,1,5],[],[])],[])
def cl:=fun a0 a1 (k_:P→O Q)=>∀{v2} {zr},k_ v2=H zr→Kh X 86 Wn 14 [0,1,5] [] [] ⟨[pL 0 X7.row a0,pL 1 X7.row a1,pI 5 v2],[],[]⟩ (A7 [4] [.sc (.v (.bool zr))])
theorem A4w{a0 a1}{n:U}:cl a0 a1 (HU a0 a1 n):=by
 induction n with
 | zero=>intro _ r h; cases h
 | succ n ih=>
  intro v2 r h σ hσ;rw[HU] at h;exact gc
instance A8y:Ct 86 (∀{a0} {a1} {r},M9 a0 a1=H r→FC X 86 [.sc (.sl (W X7.row a0)),.sc (.sl (W X7.row a1))] [.sc (.v (.bool r))]):=by
 refine⟨fun h=> ?_⟩;unfold M9 at h;refine A4 mixed Wn [4] 27 ?_;have k0:= @A4w;exact gc
/- 131:laws_eqSegment -/
instance A80:Ct 131 (∀{a0} {a1} {r},Ma a0 a1=H r→FC X 131 [.ag (X2.row a0),.ag (X2.row a1)] [.sc (.v (.bool r))]):=by
 refine⟨fun h=> ?_⟩;unfold Ma at h;refine A4 mixed h0 [4] 30 ?_;exact gc
/- 87:laws_eqSegmentS -/
def Wo:Hw:=([(14,[0,1,5],[],[])],[])
def cm:=fun a0 a1 (k_:P→O Q)=>∀{v2} {zr},k_ v2=H zr→Kh X 87 Wo 14 [0,1,5] [] [] ⟨[pL 0 X2.row a0,pL 1 X2.row a1,pI 5 v2],[],[]⟩ (A7 [4] [.sc (.v (.bool zr))])
theorem A4x{a0 a1}{n:U}:cm a0 a1 (HV a0 a1 n):=by
 induction n with
 | zero=>intro _ r h; cases h
 | succ n ih=>
  intro v2 r h σ hσ;rw[HV] at h;exact gc
instance A81:Ct 87 (∀{a0} {a1} {r},Mb a0 a1=H r→FC X 87 [.sc (.sl (W X2.row a0)),.sc (.sl (W X2.row a1))] [.sc (.v (.bool r))]):=by
 refine⟨fun h=> ?_⟩;unfold Mb at h;refine A4 mixed Wo [4] 27 ?_;have k0:= @A4x;exact gc
/- 41:laws_eqChart -/
instance A8q:Ct 41 (∀{a0} {a1} {r},M2 a0 a1=H r→FC X 41 [.ag (X1.row a0),.ag (X1.row a1)] [.sc (.v (.bool r))]):=by
 refine⟨fun h=> ?_⟩;unfold M2 at h;refine A4 mixed h0 [4] 17 ?_;exact gc
/- 88:laws_eqShip -/
instance A82:Ct 88 (∀{a0} {a1} {r},Mc a0 a1=H r→FC X 88 [.ag (X6.row a0),.ag (X6.row a1)] [.sc (.v (.bool r))]):=by
 refine⟨fun h=> ?_⟩;unfold Mc at h;refine A4 mixed h0 [4] 35 ?_;exact gc
/- 42:laws_eqShipS -/
def Wp:Hw:=([(14,[0,1,5],[],[])],[])
def cn:=fun a0 a1 (k_:P→O Q)=>∀{v2} {zr},k_ v2=H zr→Kh X 42 Wp 14 [0,1,5] [] [] ⟨[pL 0 X6.row a0,pL 1 X6.row a1,pI 5 v2],[],[]⟩ (A7 [4] [.sc (.v (.bool zr))])
theorem A4y{a0 a1}{n:U}:cn a0 a1 (HW a0 a1 n):=by
 induction n with
 | zero=>intro _ r h; cases h
 | succ n ih=>
  intro v2 r h σ hσ;rw[HW] at h;exact gc
instance A83:Ct 42 (∀{a0} {a1} {r},Md a0 a1=H r→FC X 42 [.sc (.sl (W X6.row a0)),.sc (.sl (W X6.row a1))] [.sc (.v (.bool r))]):=by
 refine⟨fun h=> ?_⟩;unfold Md at h;refine A4 mixed Wp [4] 27 ?_;have k0:= @A4y;exact gc
/- 43:laws_eqRegime -/
instance A8z:Ct 43 (∀{a0} {a1} {r},Po a0 a1=H r→FC X 43 [.ag (Xh.row a0),.ag (Xh.row a1)] [.sc (.v (.bool r))]):=by
 refine⟨fun h=> ?_⟩;unfold Po at h;refine A4 mixed h0 [4] 15 ?_;exact gc
/- 17:laws_eqIntS -/
def Wq:Hw:=([(14,[0,1,5],[],[])],[])
def cj:=fun a0 a1 (k_:P→O Q)=>∀{v2} {zr},k_ v2=H zr→Kh X 17 Wq 14 [0,1,5] [] [] ⟨[pL 0 rI a0,pL 1 rI a1,pI 5 v2],[],[]⟩ (A7 [4] [.sc (.v (.bool zr))])
theorem A4z{a0 a1}{n:U}:cj a0 a1 (HS a0 a1 n):=by
 induction n with
 | zero=>intro _ r h; cases h
 | succ n ih=>
  intro v2 r h σ hσ;rw[HS] at h;exact gc
instance A8u:Ct 17 (∀{a0} {a1} {r},M5 a0 a1=H r→FC X 17 [.sc (.sl (W rI a0)),.sc (.sl (W rI a1))] [.sc (.v (.bool r))]):=by
 refine⟨fun h=> ?_⟩;unfold M5 at h;refine A4 mixed Wq [4] 26 ?_;have k0:= @A4z;exact gc
/- 44:laws_eqCrew -/
instance A8r:Ct 44 (∀{a0} {a1} {r},Pn a0 a1=H r→FC X 44 [.ag (Xm.row a0),.ag (Xm.row a1)] [.sc (.v (.bool r))]):=by
 refine⟨fun h=> ?_⟩;unfold Pn at h;refine A4 mixed h0 [4] 26 ?_;exact gc
/- 11:laws_eqHarbour -/
instance A8t:Ct 11 (∀{a0} {a1} {r},M4 a0 a1=H r→FC X 11 [.ag (X4.row a0),.ag (X4.row a1)] [.sc (.v (.bool r))]):=by
 refine⟨fun h=> ?_⟩;unfold M4 at h;refine A4 mixed h0 [4] 35 ?_;exact gc
/- 45:laws_eqCall -/
instance A8o:Ct 45 (∀{a0} {a1} {r},Pm a0 a1=H r→FC X 45 [.ag (zH a0),.ag (zH a1)] [.sc (.v (.bool r))]):=by
 refine⟨fun h=> ?_⟩;unfold Pm at h;refine A4 mixed h0 [4] 30 ?_;exact gc
/- 12:laws_eqCallS -/
def Wr:Hw:=([(14,[0,1,5],[],[])],[])
def cg:=fun a0 a1 (k_:P→O Q)=>∀{v2} {zr},k_ v2=H zr→Kh X 12 Wr 14 [0,1,5] [] [] ⟨[pL 0 zH a0,pL 1 zH a1,pI 5 v2],[],[]⟩ (A7 [4] [.sc (.v (.bool zr))])
theorem A40{a0 a1}{n:U}:cg a0 a1 (HR a0 a1 n):=by
 induction n with
 | zero=>intro _ r h; cases h
 | succ n ih=>
  intro v2 r h σ hσ;rw[HR] at h;exact gc
instance A8p:Ct 12 (∀{a0} {a1} {r},M1 a0 a1=H r→FC X 12 [.sc (.sl (W zH a0)),.sc (.sl (W zH a1))] [.sc (.v (.bool r))]):=by
 refine⟨fun h=> ?_⟩;unfold M1 at h;refine A4 mixed Wr [4] 27 ?_;have k0:= @A40;exact gc
/- 3:laws_FnExactRefusalLine -/
theorem w_laws_FnExactRefusalLine(a0:X4)(a1:N Xb)(r:Q)(h:Pl a0 a1=H r):FC X 3 [.ag (X4.row a0),.sc (.sl (W zH a1))] [.sc (.v (.bool r))]:=by
 unfold Pl at h;refine A4 mixed h0 [4] 45 ?_;exact gc
end Go.Vi
