/-
Walks. No condition.
-/
import Derived.Test.YtpfcgapakfcllaaGreatDoorCNf
import Derived.Test.YtpfcgapakfcllaaGreatDoorChecked
import Derived.Test.YtpfcgapakfcllaaGreatDoorCSh
import Derived.Test.YtpfcgapakfcllaaGreatDoorCVi43
import Derived.KernelRfl
import Derived.Test.YtpfcgapakfcllaaGreatDoorCWConfirmsa
namespace Go.Vi
open Go.Proofs
set_option linter.all false
set_option maxRecDepth 4000
set_option maxHeartbeats 2000000
open Nat renaming reduceBEq → C, reduceMul → E, reduceAdd → F, reduceDiv → G, le_of_ble_eq_true → uf
open Int renaming reduceBEq → H
attribute [local irreducible] go AM Gx
open List renaming map → Y, map_nil → I, all_eq_true → zA, all_cons → zC, all_nil → zD, cons_append → zE, nil_append → zF, length_map → zG
open Tryz renaming prog → Z
open Xc renaming row → zB
open Bool renaming true → T, false → L
open Option renaming some → N, none → O
open _root_ renaming List → P, Option → Q, Int → U, Bool → V, Nat → W, rfl → X
def O2:Hw:=([(16,[2,6,7],[2],[1152]),(32,[2,6,7,9,59],[2],[1152])],[])
def Wr:=fun v4 r10 (a0:Xk) v5 (k_:V→Q ((P U) × V))=>∀{v14} {zr},k_ v14=N zr→Kh Z 194 O2 32 [2,6,7,9,59] [2] [1152] ⟨[pB 2,pW 6 1152,pI 7 v4,pI 9 r10,(59,vc (aB v14))],[(2,(dm a0.row))],[(1152,1,Y rI v5)]⟩ (A4 [4,5] [.sc (.o 1 (Y rI zr.1)),.sc (.v (.bool zr.2))])
def Pp:=fun(a0:Xk) (k_:U→(P U)→Q ((P U) × V))=>∀{v4 v5} {zr},k_ v4 v5=N zr→Kh Z 194 O2 16 [2,6,7] [2] [1152] ⟨[pB 2,pW 6 1152,pI 7 v4],[(2,(dm a0.row))],[(1152,1,Y rI v5)]⟩ (A4 [4,5] [.sc (.o 1 (Y rI zr.1)),.sc (.v (.bool zr.2))])
theorem OZ{v4 r10 a0 v5}{Lp}(fE:Pp a0 Lp):Wr v4 r10 a0 v5 (I3 v4 r10 a0 v5 Lp):=by
 intro v14 r h σ hσ;unfold I3 at h;have s0:= @Ap (Y rI ([r10]:P U));have k0:= @fE;exact gc
theorem pY{a0}{n:W}:Pp a0 (Gg a0 n):=by
 induction n with
 | zero=>intro _ _ r h; cases h
 | succ n ih=>
  intro v4 v5 r h σ hσ S hS;refine ev hS ?_;rw[Gg] at h;refine AF (An ?_);obtain⟨h6,h⟩|⟨h6,h⟩:=ic h
  ·try simp only[hσ,h6,C,E,F,G,H,J]
   refine Af ?_;obtain⟨x7,h7,h⟩:=ob h;have h7n:=Ah h7;obtain⟨x8,h8,h⟩:=ob h;obtain⟨x9,h9,h⟩:=ob h;obtain⟨r10,h10,h⟩:=ob h;try simp only[h6,h7,h7n,h8,h9,C,E,F,G,H,J]
   refine Ai (A6 nl h10) ?_;obtain⟨h11,h⟩|⟨h11,h⟩:=ic h
   ·try simp only[h6,h7,h7n,h8,h9,h11,C,E,F,G,H,J]
    refine OZ ih h ?_ (by kernel_rfl);try simp only[h6,h7,h7n,h8,h9,h11,C,E,F,G,H,J,pL,aM,I]
   ·obtain⟨h12,h⟩|⟨h12,h⟩:=ic h
    ·obtain⟨x13,h13,h⟩:=ob h;try simp only[h6,h7,h7n,h8,h9,h11,h12,h13,C,E,F,G,H,J]
     refine OZ ih h ?_ (by kernel_rfl);try simp only[h6,h7,h7n,h8,h9,h11,h12,h13,C,E,F,G,H,J,pL,aM,I]
    ·try simp only[h6,h7,h7n,h8,h9,h11,h12,C,E,F,G,H,J]
     refine OZ ih h ?_ (by kernel_rfl);try simp only[h6,h7,h7n,h8,h9,h11,h12,C,E,F,G,H,J,pL,aM,I]
  ·try simp only[hσ,h6,C,E,F,G,H,J]
   cases h;trivial
instance uv:Ct 194 (∀{a0} {a1} {r},Nx a0 a1=N r→FC Z 194 [.ag (Xk.row a0),.sc (.int .i64 a1)] [.sc (.o 1 (Y rI r.1)),.sc (.v (.bool r.2))]):=by
 refine⟨fun{a0} {a1} {r} h=> ?_⟩;unfold Nx at h;refine A2 mixed O2 [4,5] 65 ?_;have s0:= @Ap (Y rI ([a1]:P U));have k0:= @pY;exact gc
def QC:Hw:=([(18,[1,5,6,8,13,14,40,41,42],[6,8],[2432,2496])],[])
def VB:=fun a1 a5 a4 (a0:X5) (a2:X8) r6 (k_:U→(P X1)→Q (P X1))=>∀{v7 v8} {zr},k_ v7 v8=N zr→Kh Z 195 QC 18 [1,5,6,8,13,14,40,41,42] [6,8] [2432,2496] ⟨[pI 1 a1,pL 5 rI a5,pB 6,pB 8,pW 13 2432,pW 14 2496,pL 40 rI a4,pI 41 (a4.length:U),pI 42 v7],[(6,(dm a0.row)),(8,(dm a2.row))],[(2432,1,Y rI r6),(2496,5,Y X1.row v8)]⟩ (A4 [12] [.sc (.o 5 (Y X1.row zr))])
theorem pZ{a1 a5 a4 a0 a2 r6}{n:W}:VB a1 a5 a4 a0 a2 r6 (K2 a1 a5 a4 a0 a2 r6 n):=by
 induction n with
 | zero=>intro _ _ r h; cases h
 | succ n ih=>
  intro v7 v8 r h σ hσ S hS;refine ev hS ?_;rw[K2] at h;refine AF (An ?_);obtain⟨h9,h⟩|⟨h9,h⟩:=ic h
  ·obtain⟨x10,h10,h⟩:=ob h;obtain⟨x11,h11,h⟩:=ob h;obtain⟨r12,h12,h⟩:=ob h;try simp only[hσ,h9,h10,h11,C,E,F,G,H,J]
   refine Ai (A6 oU h12) ?_;obtain⟨h13,h⟩|⟨h13,h⟩:=ic h
   ·obtain⟨x14,h14,h⟩:=ob h;try simp only[h9,h10,h11,h13,h14,C,E,F,G,H,J]
    refine AI ?_;try simp only[h9,h10,h11,h13,h14,C,E,F,G,H,J]
    refine Af ?_;obtain⟨x15,h15,h⟩:=ob h;have h15n:=Ah h15;obtain⟨r16,h16,h⟩:=ob h;try simp only[h9,h10,h11,h13,h14,h15,h15n,C,E,F,G,H,J]
    refine AR (A6 U3 h16) ?_;try simp only[h9,h10,h11,h13,h14,h15,h15n,C,E,F,G,H,J]
    refine AP (es:=Y X1.row ([(⟨a1,x10,(x15==x14.A),x11,(IntKind.i64.wrap (x11+r16))⟩:X1)]:P X1)) ?_;obtain⟨h17,h⟩:=Az h;try simp only[h9,h10,h11,h13,h14,h15,h15n,h17,C,E,F,G,H,J]
    refine Af ?_;try simp only[h9,h10,h11,h13,h14,h15,h15n,h17,C,E,F,G,H,J]
    refine ih h ?_ (by kernel_rfl);try simp only[h9,h10,h11,h13,h14,h15,h15n,h17,C,E,F,G,H,J,pL,aM,I]
   ·try simp only[h9,h10,h11,h13,C,E,F,G,H,J]
    cases h;exact t0
  ·try simp only[hσ,h9,C,E,F,G,H,J]
   cases h;exact t0
instance uC:Ct 195 (∀{a0} {a1} {a2} {a3} {a4} {a5} {r},MX a0 a1 a2 a3 a4 a5=N r→FC Z 195 [.ag (X5.row a0),.sc (.int .i64 a1),.ag (X8.row a2),.sc (.int .i64 a3),.sc (.sl (Y rI a4)),.sc (.sl (Y rI a5))] [.sc (.o 5 (Y X1.row r))]):=by
 refine⟨fun h=> ?_⟩;unfold MX at h;refine A2 mixed QC [12] 85 ?_;have s0:= @Ap (Y X1.row ([]:P X1));have k0:= @pZ;exact gc
instance tN:Ct 196 (∀{a0} {a1} {a2} {a3} {r},MD a0 a1 a2 a3=N r→FC Z 196 [.ag (X5.row a0),.ag (X8.row a1),.sc (.sl (Y rI a2)),.sc (.sl (Y rI a3))] [.sc (.v (.int .i64 r))]):=by
 refine⟨fun h=> ?_⟩;unfold MD at h;refine A2 mixed h0 [8] 55 ?_;exact gc
def UC:P (P W × AItem):= [([],(O,.load 72 (S 16) T 4)),([],(O,.faddr 73 (S 16) 1)),([1],(O,.load 74 (S 73) L 1)),([2],(O,.bin 75 .leq (S 74) (K 2880))),([0,0],(O,.store (S 10) (S 72) 4)),([3,4,0,1,2,3,4],(O,.mv 11 (S 75)))]
def QD:Hw:=([(24,[10,16,60,61,62],[10,16],[2752])],[])
abbrev Ff(a4 r5 v7:U)(c0_ c1_:V)(c2_ c3_ c5_:V)(bx_:P (W × P AC))(rs_:Rows):St:=⟨[(10,vc (.pb 10 0)),(16,vc (.pb 16 0)),(72,bif c0_ then va [aI a4,aI r5,aI v7,.own 2752] else .undef),(73,bif c1_ then vc (.pb 16 1) else .undef),(74,bif c2_ then vc (aI r5) else .undef),(75,bif c3_ then vc (aB (decide (r5≤(2880:U)))) else .undef),(11,bif c5_ then vc (aB (decide (r5≤(2880:U)))) else .undef)],bx_,rs_⟩
abbrev LO(a4 r5:U)(r4:(P X1))(v7:U):St:=(Ff a4 r5 v7 T T T T T [(10,[aI a4,aI r5,aI v7,.own 2752]),(16,[aI a4,aI r5,aI v7,.own 2752])] [(2752,5,Y X1.row r4)])
theorem pc(a4 r5 r4 v7):∀(f:W) (b1 b2:V) (b3 b5:V),Am Z UC (LO a4 r5 r4 v7) f [T,b1,b2,b3,T,b5] (Ff a4 r5 v7 T b1 b2 b3 b5 [(10,[aI a4,aI r5,aI v7,.own 2752]),(16,[aI a4,aI r5,aI v7,.own 2752])] [(2752,5,Y X1.row r4)]):=by
 intro f
 induction f with
 | zero=>
  intro b1 b2 b3 b5 h;obtain rfl:b1=T:=zA.1 h b1 (by simp);obtain rfl:b2=T:=zA.1 h b2 (by simp);obtain rfl:b3=T:=zA.1 h b3 (by simp);obtain rfl:b5=T:=zA.1 h b5 (by simp);rfl
 | succ f ih=>
  intro b1 b2 b3 b5;refine Aw ⟨?_,?_,?_,?_,?_,?_,⟨⟩⟩<;>try first | (intro h; cases h; done) | (intro h0 hw; obtain rfl:=hz h0 rfl; (try obtain rfl:=hq hw 1 rfl rfl); (try obtain rfl:=hq hw 2 rfl rfl); (try obtain rfl:=hq hw 3 rfl rfl); refine np ?_; simp only[Ff,Ab,Ac,A5,C,E,F,G,H,J]; exact ih _ _ _ _)
theorem pf(a4 r5 r4 v7):∀(f:W) (b0 b1:V) (b2 b3:V),Am Z UC (LO a4 r5 r4 v7) f [b0,b1,b2,b3,L,L] (Ff a4 r5 v7 b0 b1 b2 b3 L [(10,[aI (0:U),aI (0:U),aI (0:U),.nil]),(16,[aI a4,aI r5,aI v7,.own 2752])] [(2752,5,Y X1.row r4)]):=by
 intro f
 induction f with
 | zero=>intro b0 b1 b2 b3 h; simp at h
 | succ f ih=>
  intro b0 b1 b2 b3;refine Aw ⟨?_,?_,?_,?_,?_,?_,⟨⟩⟩<;>try first | (intro _ hw; simp at hw; done) | (intro h0 hw; obtain rfl:=hz h0 rfl; (try obtain rfl:=hq hw 1 rfl rfl); (try obtain rfl:=hq hw 2 rfl rfl); refine np ?_; simp only[Ff,Ab,Ac,A5,C,E,F,G,H,J]; exact ih _ _ _ _)
  ·intro h0 hw;obtain rfl:=hq hw 0 rfl rfl;refine np ?_;try simp only[Ff,Ab,Ac,A5,C,E,F,G,H,J]
   exact pc a4 r5 r4 v7 _ b1 b2 b3 L
def Wg:=fun(a2:Xk) a4 r5 r4 (k_:U→U→Q (X0 × V))=>∀{v6 v7} {zr},k_ v6 v7=N zr→Kh Z 167 QD 24 [10,16,60,61,62] [10,16] [2752] ⟨[pB 10,pB 16,pL 60 rI a2.minutes,pI 61 (a2.minutes.length:U),pI 62 v6],[(10,[aI (0:U),aI (0:U),aI (0:U),.nil]),(16,[aI a4,aI r5,aI v7,.own 2752])],[(2752,5,Y X1.row r4)]⟩ (A4 [.c 10 T 4,11] [.ag [.v (.int .i64 zr.1.Start),.v (.int .i64 zr.1.Arrival),.v (.int .i64 zr.1.Cost),.o 5 (Y X1.row zr.1.Passages)],.sc (.v (.bool zr.2))])
theorem pg{a2 a4 r5 r4}{n:W}:Wg a2 a4 r5 r4 (KC a2 a4 r5 r4 n):=by
 induction n with
 | zero=>intro _ _ r h; cases h
 | succ n ih=>
  intro v6 v7 r h σ hσ S hS;refine ev hS ?_;rw[KC] at h;refine AF (An ?_);obtain⟨h8,h⟩|⟨h8,h⟩:=ic h
  ·obtain⟨x9,h9,h⟩:=ob h;try simp only[hσ,h8,h9,C,E,F,G,H,J]
   refine ih h ?_ (by kernel_rfl);try simp only[h8,h9,C,E,F,G,H,J,pL,aM,I]
  ·try simp only[hσ,h8,C,E,F,G,H,J]
   refine DM (ks:= [10,16]) (bs:= [10,16]) (rs:= [2752]) (τ:=(LO a4 r5 r4 v7)) X (pf a4 r5 r4 v7 _ L L L L) ?_;simp only[LO,Ff,Ab];try simp only[h8,C,E,F,G,H,J]
   cases h;try simp only[D0,C,E,F,G,H,J]
   trivial
instance oY:Ct 167 (∀{a0} {a1} {a2} {a3} {a4} {r},HY a0 a1 a2 a3 a4=N r→FC Z 167 [.ag (X2.row a0),.ag (X4.row a1),.ag (Xk.row a2),.sc (.sl (Y rI a3)),.sc (.int .i64 a4)] [.ag [.v (.int .i64 r.1.Start),.v (.int .i64 r.1.Arrival),.v (.int .i64 r.1.Cost),.o 5 (Y X1.row r.1.Passages)],.sc (.v (.bool r.2))]):=by
 refine⟨fun h=> ?_⟩;unfold HY at h;refine A2 mixed QD [.c 10 T 4,11] 76 ?_;have k0:= @pg;exact gc
def NO:Hw:=([(28,[2,3,5,7,9,10],[2,3,7],[1984,1985,1986,2560]),(44,[2,3,5,7,9,10],[2,3,7],[1984,1985,1986,2560])],[(42,2,(O,.frz 3843))])
def Vy:=fun(r3:(P U) × V) v7 (a0:X2) (a1:X4) (r4:Xk × V) (k_:(P X0)→Q (P X0))=>∀{v14} {zr},k_ v14=N zr→Kh Z 127 NO 44 [2,3,5,7,9,10] [2,3,7] [1984,1985,1986,2560] ⟨[pB 2,pB 3,pL 5 rI r3.1,pB 7,pW 9 2560,pI 10 v7],[(2,(dm a0.row)),(3,(dm a1.row)),(7,[.own 1984,.own 1985,.own 1986])],[(1984,1,Y rB r4.1.waits),(1985,1,Y rI r4.1.minutes),(1986,1,Y (rL X7.row) r4.1.sure),(2560,4,Y X0.row v14)]⟩ (A4 [4] [.sc (.o 4 (Y X0.row zr))])
def Pd:=fun(r3:(P U) × V) (a0:X2) (a1:X4) (r4:Xk × V) (k_:U→(P X0)→Q (P X0))=>∀{v7 v8} {zr},k_ v7 v8=N zr→Kh Z 127 NO 28 [2,3,5,7,9,10] [2,3,7] [1984,1985,1986,2560] ⟨[pB 2,pB 3,pL 5 rI r3.1,pB 7,pW 9 2560,pI 10 v7],[(2,(dm a0.row)),(3,(dm a1.row)),(7,[.own 1984,.own 1985,.own 1986])],[(1984,1,Y rB r4.1.waits),(1985,1,Y rI r4.1.minutes),(1986,1,Y (rL X7.row) r4.1.sure),(2560,4,Y X0.row v8)]⟩ (A4 [4] [.sc (.o 4 (Y X0.row zr))])
theorem Ub{r3 v7 a0 a1 r4}{Lm}(ep:Pd r3 a0 a1 r4 Lm):Vy r3 v7 a0 a1 r4 (JX r3 v7 a0 a1 r4 Lm):=by
 intro v14 r h σ hσ;unfold JX at h;have k0:= @ep;exact gc
theorem ph{r3 a0 a1 r4}{n:W}:Pd r3 a0 a1 r4 (EN r3 a0 a1 r4 n):=by
 induction n with
 | zero=>intro _ _ r h; cases h
 | succ n ih=>
  intro v7 v8 r h σ hσ S hS;refine ev hS ?_;rw[EN] at h;refine AF (An ?_);obtain⟨h9,h⟩|⟨h9,h⟩:=ic h
  ·obtain⟨h10,h⟩|⟨h10,h⟩:=ic h
   ·obtain⟨r11,h11,h⟩:=ob h;try simp only[hσ,h9,h10,C,E,F,G,H,J]
    refine Db (A6 oY h11) X (D9 X ⟨X,X,X,Da,X,⟨⟩⟩) X (uf X) ?_;try simp only[h9,h10,C,E,F,G,H,J]
    refine AI ?_;obtain⟨h12,h⟩|⟨h12,h⟩:=ic h
    ·try simp only[h9,h10,h12,C,E,F,G,H,J]
     refine Ad ?_;try simp only[h9,h10,h12,C,E,F,G,H,J]
     refine AP (es:=Y X0.row ([r11.1]:P X0)) ?_;obtain⟨h13,h⟩:=Az h;try simp only[h9,h10,h12,h13,C,E,F,G,H,J]
     refine Ub ih h ?_ (by kernel_rfl);try simp only[h9,h10,h12,h13,C,E,F,G,H,J,pL,aM,I]
    ·try simp only[h9,h10,h12,C,E,F,G,H,J]
     refine Ub ih h ?_ (by kernel_rfl);try simp only[h9,h10,h12,C,E,F,G,H,J,pL,aM,I]
   ·try simp only[hσ,h9,h10,C,E,F,G,H,J]
    cases h;exact t0
  ·try simp only[hσ,h9,C,E,F,G,H,J]
   cases h;exact t0
instance ON:Ct 127 (∀{a0} {a1} {r},CO a0 a1=N r→FC Z 127 [.ag (X2.row a0),.ag (X4.row a1)] [.sc (.o 4 (Y X0.row r))]):=by
 refine⟨fun h=> ?_⟩;unfold CO at h;refine A2 mixed NO [4] 69 ?_;have s0:= @Ap (Y X0.row ([]:P X0));have k0:= @ph;exact gc
def QE:Hw:=([(8,[2,5,9,10,11],[2],[512])],[(19,4,(O,.frz 1152))])
def W1:=fun a1 (a0:X2) (k_:U→(P (P X0))→Q (P (P X0)))=>∀{v1 v2} {zr},k_ v1 v2=N zr→Kh Z 119 QE 8 [2,5,9,10,11] [2] [512] ⟨[pB 2,pW 5 512,pL 9 X4.row a1,pI 10 (a1.length:U),pI 11 v1],[(2,(dm a0.row))],[(512,1,Y (rL X0.row) v2)]⟩ (A4 [4] [.sc (.o 1 (Y (rL X0.row) zr))])
theorem pi{a1 a0}{n:W}:W1 a1 a0 (G8 a1 a0 n):=by
 induction n with
 | zero=>intro _ _ r h; cases h
 | succ n ih=>
  intro v1 v2 r h σ hσ;rw[G8] at h;have s0:=fun(r5:(P X0))=> @Ap (Y (rL X0.row) ([r5]:P (P X0)))
  exact gc
instance oK:Ct 119 (∀{a0} {a1} {r},HI a0 a1=N r→FC Z 119 [.ag (X2.row a0),.sc (.sl (Y X4.row a1))] [.sc (.o 1 (Y (rL X0.row) r))]):=by
 refine⟨fun h=> ?_⟩;unfold HI at h;refine A2 mixed QE [4] 23 ?_;have s0:= @Ap (Y (rL X0.row) ([]:P (P X0)));have k0:= @pi;exact gc
instance oq:Ct 191 (∀{a0} {a1} {r},Ny a0 a1=N r→FC Z 191 [.ag (Xi.row a0),.ag (Xi.row a1)] [.sc (.v (.bool r))]):=by
 refine⟨fun h=> ?_⟩;unfold Ny at h;refine A2 mixed h0 [4] 24 ?_;exact gc
instance tx:Ct 216 (∀{a0} {a1} {r},JY a0 a1=N r→FC Z 216 [.ag (X1.row a0),.ag (X1.row a1)] [.sc (.v (.bool r))]):=by
 refine⟨fun h=> ?_⟩;unfold JY at h;refine A2 mixed h0 [4] 16 ?_;exact gc
instance up_:Ct 217 (∀{a0} {a1} {a2} {r},KA a0 a1 a2=N r→FC Z 217 [.sc (.int .i64 a0),.sc (.int .i64 a1),.sc (.int .i64 a2)] [.sc (.v (.bool r))]):=by
 refine⟨fun h=> ?_⟩;unfold KA at h;refine A2 mixed h0 [6] 19 ?_;exact gc
def Ig:Hw:=([(6,[4,5,6,7,9],[4,5,6,7],[]),(12,[4,5,6,7,24],[4,5,6,7],[]),(24,[5,6,7,41],[5,6,7],[]),(36,[6,7,72],[6,7],[])],[])
def W7:=fun(a2:X1) (a3:X1) (k_:V→Q U)=>∀{v22} {zr},k_ v22=N zr→Kh Z 205 Ig 36 [6,7,72] [6,7] [] ⟨[pB 6,pB 7,(72,vc (aB v22))],[(6,(dm a2.row)),(7,(dm a3.row))],[]⟩ (A4 [8] [.sc (.v (.int .i64 zr))])
def W6:=fun(a1:Xl) (a2:X1) (a3:X1) (k_:V→V→Q U)=>∀{v15 v16} {zr},k_ v15 v16=N zr→Kh Z 205 Ig 24 [5,6,7,41] [5,6,7] [] ⟨[pB 5,pB 6,pB 7,(41,vc (aB v15))],[(5,[aI a1.Gap,aB v16]),(6,(dm a2.row)),(7,(dm a3.row))],[]⟩ (A4 [8] [.sc (.v (.int .i64 zr))])
def W5:=fun(a0:X5) (a1:Xl) (a2:X1) (a3:X1) (k_:V→Q U)=>∀{v7} {zr},k_ v7=N zr→Kh Z 205 Ig 12 [4,5,6,7,24] [4,5,6,7] [] ⟨[pB 4,pB 5,pB 6,pB 7,(24,vc (aB v7))],[(4,(dm a0.row)),(5,(dm a1.row)),(6,(dm a2.row)),(7,(dm a3.row))],[]⟩ (A4 [8] [.sc (.v (.int .i64 zr))])
def W4:=fun(a0:X5) (a1:Xl) (a2:X1) (a3:X1) (k_:V→Q U)=>∀{v3} {zr},k_ v3=N zr→Kh Z 205 Ig 6 [4,5,6,7,9] [4,5,6,7] [] ⟨[pB 4,pB 5,pB 6,pB 7,(9,vc (aB v3))],[(4,(dm a0.row)),(5,(dm a1.row)),(6,(dm a2.row)),(7,(dm a3.row))],[]⟩ (A4 [8] [.sc (.v (.int .i64 zr))])
theorem pj{a2 a3}:W7 a2 a3 (Kr a2 a3):=by
 intro v22 r h σ hσ;unfold Kr at h;exact gc
theorem pk{a1 a2 a3}:W6 a1 a2 a3 (Gb a1 a2 a3):=by
 intro v15 v16 r h σ hσ;unfold Gb at h;have k0:= @pj;exact gc
theorem pm{a0 a1 a2 a3}:W5 a0 a1 a2 a3 (Kq a0 a1 a2 a3):=by
 intro v7 r h σ hσ;unfold Kq at h;have k0:= @pk;exact gc
theorem pn{a0 a1 a2 a3}:W4 a0 a1 a2 a3 (Ko a0 a1 a2 a3):=by
 intro v3 r h σ hσ;unfold Ko at h;have k0:= @pm;exact gc
instance ue:Ct 205 (∀{a0} {a1} {a2} {a3} {r},Ni a0 a1 a2 a3=N r→FC Z 205 [.ag (X5.row a0),.ag (Xl.row a1),.ag (X1.row a2),.ag (X1.row a3)] [.sc (.v (.int .i64 r))]):=by
 refine⟨fun h=> ?_⟩;unfold Ni at h;refine A2 mixed Ig [8] 116 ?_;have k0:= @pn;exact gc
def NP:Hw:=([(6,[3,4,5,13,14,15],[4,5],[]),(20,[3,4,5,10,13,14,15,19,20,21],[4,5,10],[])],[])
def W3:=fun a3 a2 v1 (a0:X5) (a1:Xl) (x3:X1) (k_:U→Q V)=>∀{v4} {zr},k_ v4=N zr→Kh Z 179 NP 20 [3,4,5,10,13,14,15,19,20,21] [4,5,10] [] ⟨[pL 3 X1.row a3,pB 4,pB 5,pB 10,pL 13 X1.row a2,pI 14 (a2.length:U),pI 15 v1,pL 19 X1.row a3,pI 20 (a3.length:U),pI 21 v4],[(4,(dm a0.row)),(5,(dm a1.row)),(10,(dm x3.row))],[]⟩ (A4 [8] [.sc (.v (.bool zr))])
def Pi:=fun a3 a2 (a0:X5) (a1:Xl) (k_:U→Q V)=>∀{v1} {zr},k_ v1=N zr→Kh Z 179 NP 6 [3,4,5,13,14,15] [4,5] [] ⟨[pL 3 X1.row a3,pB 4,pB 5,pL 13 X1.row a2,pI 14 (a2.length:U),pI 15 v1],[(4,(dm a0.row)),(5,(dm a1.row))],[]⟩ (A4 [8] [.sc (.v (.bool zr))])
theorem pp{a3 a2 v1 a0 a1 x3}{Ir}(ey:Pi a3 a2 a0 a1 Ir){n:W}:W3 a3 a2 v1 a0 a1 x3 (Km a3 a2 v1 a0 a1 x3 Ir n):=by
 induction n with
 | zero=>intro _ r h; cases h
 | succ n ih=>
  intro v4 r h σ hσ;rw[Km] at h;have k0:= @ey;exact gc
theorem pq{a3 a2 a0 a1}{n:W}:Pi a3 a2 a0 a1 (Kl a3 a2 a0 a1 n):=by
 induction n with
 | zero=>intro _ r h; cases h
 | succ n ih=>
  intro v1 r h σ hσ;rw[Kl] at h;have k0:= @pp;exact gc
instance OO:Ct 179 (∀{a0} {a1} {a2} {a3} {r},HK a0 a1 a2 a3=N r→FC Z 179 [.ag (X5.row a0),.ag (Xl.row a1),.sc (.sl (Y X1.row a2)),.sc (.sl (Y X1.row a3))] [.sc (.v (.bool r))]):=by
 refine⟨fun h=> ?_⟩;unfold HK at h;refine A2 mixed NP [8] 33 ?_;have k0:= @pq;exact gc
instance U6:Ct 181 (∀{a0} {r},Eb a0=N r→FC Z 181 [.sc (.sl (Y X0.row a0))] [.sc (.o 4 (Y X0.row r))]):=by
 refine⟨fun h=> ?_⟩;unfold Eb at h;refine A2 mixed h0 [2] 8 ?_;have s0:= @CG _ X0.row (⟨(0:U),(0:U),(0:U),([]:P X1)⟩:X0);exact gc
instance uB:Ct 198 (∀{a0} {a1} {r},FW a0 a1=N r→FC Z 198 [.ag (X1.row a0),.ag (X5.row a1)] [.sc (.v (.int .i64 r.1)),.sc (.v (.int .i64 r.2))]):=by
 refine⟨fun h=> ?_⟩;unfold FW at h;refine A2 mixed h0 [4,5] 23 ?_;exact gc
instance uk:Ct 169 (∀{a0} {a1} {a2} {r},HQ a0 a1 a2=N r→FC Z 169 [.ag (X5.row a0),.ag (X1.row a1),.ag (X1.row a2)] [.ag [.v (.int .i64 r.From),.v (.int .i64 r.To),.v (.int .i64 r.A),.v (.int .i64 r.B)]]):=by
 refine⟨fun h=> ?_⟩;unfold HQ at h;refine A2 mixed h0 [.c 6 T 4] 30 ?_;exact gc
instance ur:Ct 197 (∀{a0} {a1} {a2} {r},Ns a0 a1 a2=N r→FC Z 197 [.ag (X5.row a0),.sc (.sl (Y X8.row a1)),.ag (X1.row a2)] [.sc (.v (.bool r))]):=by
 refine⟨fun h=> ?_⟩;unfold Ns at h;refine A2 mixed h0 [6] 51 ?_;exact gc
instance uA:Ct 168 (∀{a0} {a1} {a2} {r},K1 a0 a1 a2=N r→FC Z 168 [.ag (X5.row a0),.sc (.sl (Y X8.row a1)),.ag (X1.row a2)] [.sc (.v (.bool r))]):=by
 refine⟨fun h=> ?_⟩;unfold K1 at h;refine A2 mixed h0 [6] 19 ?_;exact gc
def NQ:Hw:=([(8,[1,3,8,12,13,14],[3],[704]),(31,[1,3,8,10,12,13,14,28,29],[3,10],[704])],[])
def Wo:=fun a1 a2 v1 (x7:X8) (a0:X5) (x4:X1) (k_:U→(P Xc)→Q ((P Xc) × V))=>∀{v8 v9} {zr},k_ v8 v9=N zr→Kh Z 129 NQ 31 [1,3,8,10,12,13,14,28,29] [3,10] [704] ⟨[pL 1 X8.row a1,pB 3,pW 8 704,pB 10,pL 12 X1.row a2,pI 13 (a2.length:U),pI 14 v1,pI 28 x7.Tugs,pI 29 v8],[(3,(dm a0.row)),(10,(dm x4.row))],[(704,4,Y zB v9)]⟩ (A4 [6,7] [.sc (.o 4 (Y zB zr.1)),.sc (.v (.bool zr.2))])
def Po:=fun a1 a2 (a0:X5) (k_:U→(P Xc)→Q ((P Xc) × V))=>∀{v1 v2} {zr},k_ v1 v2=N zr→Kh Z 129 NQ 8 [1,3,8,12,13,14] [3] [704] ⟨[pL 1 X8.row a1,pB 3,pW 8 704,pL 12 X1.row a2,pI 13 (a2.length:U),pI 14 v1],[(3,(dm a0.row))],[(704,4,Y zB v2)]⟩ (A4 [6,7] [.sc (.o 4 (Y zB zr.1)),.sc (.v (.bool zr.2))])
theorem pr{a1 a2 v1 x7 a0 x4}{Iw}(fD:Po a1 a2 a0 Iw){n:W}:Wo a1 a2 v1 x7 a0 x4 (KM a1 a2 v1 x7 a0 x4 Iw n):=by
 induction n with
 | zero=>intro _ _ r h; cases h
 | succ n ih=>
  intro v8 v9 r h σ hσ;rw[KM] at h;have s0:=fun(r11:Xc)=> @Ap (Y zB ([r11]:P Xc))
  have k0:= @fD;exact gc
theorem pt{a1 a2 a0}{n:W}:Po a1 a2 a0 (KL a1 a2 a0 n):=by
 induction n with
 | zero=>intro _ _ r h; cases h
 | succ n ih=>
  intro v1 v2 r h σ hσ;rw[KL] at h;have k0:= @pr;exact gc
instance ut:Ct 129 (∀{a0} {a1} {a2} {r},KK a0 a1 a2=N r→FC Z 129 [.ag (X5.row a0),.sc (.sl (Y X8.row a1)),.sc (.sl (Y X1.row a2))] [.sc (.o 4 (Y zB r.1)),.sc (.v (.bool r.2))]):=by
 refine⟨fun h=> ?_⟩;unfold KK at h;refine A2 mixed NQ [6,7] 44 ?_;have s0:= @Ap (Y zB ([]:P Xc));have k0:= @pt;exact gc
def QG:Hw:=([(14,[8,9,10],[],[])],[])
def Vj:=fun a0 (k_:U→Q V)=>∀{v2} {zr},k_ v2=N zr→Kh Z 199 QG 14 [8,9,10] [] [] ⟨[pL 8 zB a0,pI 9 (a0.length:U),pI 10 v2],[],[]⟩ (A4 [2] [.sc (.v (.bool zr))])
theorem pu{a0}{n:W}:Vj a0 (JH a0 n):=by
 induction n with
 | zero=>intro _ r h; cases h
 | succ n ih=>
  intro v2 r h σ hσ;rw[JH] at h;exact gc
instance tY:Ct 199 (∀{a0} {r},Hg a0=N r→FC Z 199 [.sc (.sl (Y zB a0))] [.sc (.v (.bool r))]):=by
 refine⟨fun h=> ?_⟩;unfold Hg at h;refine A2 mixed QG [2] 42 ?_;have k0:= @pu;exact gc
instance oO:Ct 170 (∀{a0} {a1} {a2} {r},Nm a0 a1 a2=N r→FC Z 170 [.sc (.int .i64 a0),.sc (.sl (Y rI a1)),.sc (.sl (Y zB a2))] [.sc (.v (.bool r))]):=by
 refine⟨fun h=> ?_⟩;unfold Nm at h;refine A2 mixed h0 [6] 17 ?_;exact gc
def QH:Hw:=([(5,[0,1,6,7,29],[6,7],[])],[])
def Vo:=fun a0 a1 (a2:Xc) (a3:Xc) (k_:V→Q (U × V))=>∀{v8} {zr},k_ v8=N zr→Kh Z 214 QH 5 [0,1,6,7,29] [6,7] [] ⟨[pI 0 a0,pL 1 rI a1,pB 6,pB 7,(29,vc (aB v8))],[(6,(dm a2.row)),(7,(dm a3.row))],[]⟩ (A4 [8,9] [.sc (.v (.int .i64 zr.1)),.sc (.v (.bool zr.2))])
theorem pv{a0 a1 a2 a3}:Vo a0 a1 a2 a3 (FQ a0 a1 a2 a3):=by
 intro v8 r h σ hσ;unfold FQ at h;exact gc
instance td:Ct 214 (∀{a0} {a1} {a2} {a3} {r},MP a0 a1 a2 a3=N r→FC Z 214 [.sc (.int .i64 a0),.sc (.sl (Y rI a1)),.ag (zB a2),.ag (zB a3)] [.sc (.v (.int .i64 r.1)),.sc (.v (.bool r.2))]):=by
 refine⟨fun h=> ?_⟩;unfold MP at h;refine A2 mixed QH [8,9] 41 ?_;have k0:= @pv;exact gc
instance TY:Ct 200 (∀{a0} {a1} {a2} {a3} {r},Jo a0 a1 a2 a3=N r→FC Z 200 [.sc (.int .i64 a0),.sc (.sl (Y rI a1)),.ag (zB a2),.ag (zB a3)] [.sc (.v (.bool r))]):=by
 refine⟨fun{a0} {a1} {a2} {a3} {r} h=> ?_⟩;unfold Jo at h;refine A2 mixed h0 [8] 39 ?_;have s0:= @Ap (Y zB ([a2]:P Xc));have s1:= @Ap (Y zB ([a3]:P Xc));exact gc
def L4:Hw:=([(8,[0,1,2,7,15,16,17],[],[896]),(22,[0,1,2,7,8,9,15,16,17,22,23,24],[9],[896]),(35,[0,1,2,7,8,9,10,15,16,17,22,23,24,45],[9],[896])],[])
def Wi:=fun a0 a1 a2 v2 v6 (x5:Xc) v7 (k_:V→Q (P U))=>∀{v14} {zr},k_ v14=N zr→Kh Z 171 L4 35 [0,1,2,7,8,9,10,15,16,17,22,23,24,45] [9] [896] ⟨[pI 0 a0,pL 1 rI a1,pL 2 zB a2,pW 7 896,pI 8 v2,pB 9,pI 10 v6,pL 15 zB a2,pI 16 (a2.length:U),pI 17 v2,pL 22 zB a2,pI 23 (a2.length:U),pI 24 v6,(45,vc (aB v14))],[(9,(dm x5.row))],[(896,1,Y rU v7)]⟩ (A4 [6] [.sc (.o 1 (Y rU zr))])
def Pl:=fun a0 a1 a2 v2 (x5:Xc) (k_:U→(P U)→Q (P U))=>∀{v6 v7} {zr},k_ v6 v7=N zr→Kh Z 171 L4 22 [0,1,2,7,8,9,15,16,17,22,23,24] [9] [896] ⟨[pI 0 a0,pL 1 rI a1,pL 2 zB a2,pW 7 896,pI 8 v2,pB 9,pL 15 zB a2,pI 16 (a2.length:U),pI 17 v2,pL 22 zB a2,pI 23 (a2.length:U),pI 24 v6],[(9,(dm x5.row))],[(896,1,Y rU v7)]⟩ (A4 [6] [.sc (.o 1 (Y rU zr))])
def Pk:=fun a0 a1 a2 (k_:U→(P U)→Q (P U))=>∀{v2 v3} {zr},k_ v2 v3=N zr→Kh Z 171 L4 8 [0,1,2,7,15,16,17] [] [896] ⟨[pI 0 a0,pL 1 rI a1,pL 2 zB a2,pW 7 896,pL 15 zB a2,pI 16 (a2.length:U),pI 17 v2],[],[(896,1,Y rU v3)]⟩ (A4 [6] [.sc (.o 1 (Y rU zr))])
theorem OT{a0 a1 a2 v2 v6 x5 v7}{It}(RB:Pl a0 a1 a2 v2 x5 It):Wi a0 a1 a2 v2 v6 x5 v7 (HZ a0 a1 a2 v2 v6 x5 v7 It):=by
 intro v14 r h σ hσ S hS;refine ev hS ?_;refine An ?_;unfold HZ at h;obtain⟨h15,h⟩|⟨h15,h⟩:=ic h
 ·try simp only[hσ,h15,C,E,F,G,H,J]
  refine Af ?_;obtain⟨x16,h16,h⟩:=ob h;have h16n:=Ah h16;obtain⟨h17,h⟩:=F6 h;try simp only[h15,h16,h16n,h17,C,E,F,G,H,J]
  refine CC (row:=rU) (y:=(AH .or .u64 x16 (Br .u64 (1:U) v6))) X X h16n X X (by rfl) ?_;try simp only[h15,h16,h16n,h17,C,E,F,G,H,J]
  refine Af ?_;try simp only[h15,h16,h16n,h17,C,E,F,G,H,J]
  refine RB h ?_ (by kernel_rfl);try simp only[h15,h16,h16n,h17,C,E,F,G,H,J,pL,aM,I]
 ·try simp only[hσ,h15,C,E,F,G,H,J]
  refine RB h ?_ (by kernel_rfl);try simp only[h15,C,E,F,G,H,J,pL,aM,I]
theorem pw{a0 a1 a2 v2 x5}{F3}(fA:Pk a0 a1 a2 F3){n:W}:Pl a0 a1 a2 v2 x5 (Ge a0 a1 a2 v2 x5 F3 n):=by
 induction n with
 | zero=>intro _ _ r h; cases h
 | succ n ih=>
  intro v6 v7 r h σ hσ S hS;refine ev hS ?_;rw[Ge] at h;refine AF (An ?_);obtain⟨h8,h⟩|⟨h8,h⟩:=ic h
  ·obtain⟨x9,h9,h⟩:=ob h;try simp only[hσ,h8,h9,C,E,F,G,H,J]
   refine AI ?_;obtain⟨h10,h⟩|⟨h10,h⟩:=ic h
   ·obtain⟨r11,h11,h⟩:=ob h;try simp only[h8,h9,h10,C,E,F,G,H,J]
    refine Ai (A6 TY h11) ?_;obtain⟨h12,h⟩|⟨h12,h⟩:=ic h
    ·try simp only[h8,h9,h10,h12,C,E,F,G,H,J]
     refine OT ih h ?_ (by kernel_rfl);try simp only[h8,h9,h10,h12,C,E,F,G,H,J,pL,aM,I]
    ·obtain⟨r13,h13,h⟩:=ob h;try simp only[h8,h9,h10,h12,C,E,F,G,H,J]
     refine Ai (A6 TY h13) ?_;try simp only[h8,h9,h10,h12,C,E,F,G,H,J]
     refine OT ih h ?_ (by kernel_rfl);try simp only[h8,h9,h10,h12,C,E,F,G,H,J,pL,aM,I]
   ·try simp only[h8,h9,h10,C,E,F,G,H,J]
    refine OT ih h ?_ (by kernel_rfl);try simp only[h8,h9,h10,C,E,F,G,H,J,pL,aM,I]
  ·try simp only[hσ,h8,C,E,F,G,H,J]
   refine fA h ?_ (by kernel_rfl);try simp only[h8,C,E,F,G,H,J,pL,aM,I]
theorem py{a0 a1 a2}{n:W}:Pk a0 a1 a2 (KE a0 a1 a2 n):=by
 induction n with
 | zero=>intro _ _ r h; cases h
 | succ n ih=>
  intro v2 v3 r h σ hσ;rw[KE] at h;have k0:= @pw;exact gc
instance oZ:Ct 171 (∀{a0} {a1} {a2} {r},Nr a0 a1 a2=N r→FC Z 171 [.sc (.int .i64 a0),.sc (.sl (Y rI a1)),.sc (.sl (Y zB a2))] [.sc (.o 1 (Y rU r))]):=by
 refine⟨fun h=> ?_⟩;unfold Nr at h;refine A2 mixed L4 [6] 57 ?_;have s0:= @CG _ rU (0:U);have k0:= @py;exact gc
def L5:Hw:=([(10,[0,2],[],[]),(18,[0,2],[],[]),(26,[0,2],[],[])],[])
def Wx:=fun(k_:U→U→Q U)=>∀{v8 v9} {zr},k_ v8 v9=N zr→Kh Z 104 L5 26 [0,2] [] [] ⟨[(0,vc (.dat (.int .u64 v8))),pI 2 v9],[],[]⟩ (A4 [2] [.sc (.v (.int .i64 zr))])
def Ww:=fun(k_:U→U→Q U)=>∀{v5 v6} {zr},k_ v5 v6=N zr→Kh Z 104 L5 18 [0,2] [] [] ⟨[(0,vc (.dat (.int .u64 v5))),pI 2 v6],[],[]⟩ (A4 [2] [.sc (.v (.int .i64 zr))])
def Wv:=fun(k_:U→U→Q U)=>∀{v2 v3} {zr},k_ v2 v3=N zr→Kh Z 104 L5 10 [0,2] [] [] ⟨[(0,vc (.dat (.int .u64 v2))),pI 2 v3],[],[]⟩ (A4 [2] [.sc (.v (.int .i64 zr))])
theorem pz:Wx KV:=by
 intro v8 v9 r h σ hσ;unfold KV at h;exact gc
theorem qA:Ww KU:=by
 intro v5 v6 r h σ hσ;unfold KU at h;have k0:= @pz;exact gc
theorem qB:Wv KT:=by
 intro v2 v3 r h σ hσ;unfold KT at h;have k0:= @qA;exact gc
instance ux:Ct 104 (∀{a0} {r},NB a0=N r→FC Z 104 [.sc (.int .u64 a0)] [.sc (.v (.int .i64 r))]):=by
 refine⟨fun h=> ?_⟩;unfold NB at h;refine A2 mixed L5 [2] 25 ?_;have k0:= @qB;exact gc
instance ow:Ct 201 (∀{a0} {r},NA a0=N r→FC Z 201 [.sc (.int .u64 a0)] [.sc (.v (.int .i64 r))]):=by
 refine⟨fun h=> ?_⟩;unfold NA at h;refine A2 mixed h0 [2] 8 ?_;exact gc
def Ih:Hw:=([(14,[0,3,4,5,6],[],[896,1024]),(29,[0,3,4,5,6,7,8],[],[896,1024]),(34,[0,3,4,5,6,7,8,9],[],[896,1024]),(43,[0,3,4,5,6,7,8,9],[],[896,1024])],[])
def We:=fun a0 y5 v6 v17 v18 v21 v19 (k_:(P U)→Q U)=>∀{v28} {zr},k_ v28=N zr→Kh Z 172 Ih 43 [0,3,4,5,6,7,8,9] [] [896,1024] ⟨[pL 0 rU a0,pI 3 y5,pW 4 896,pW 5 1024,pI 6 v6,pI 7 v17,pI 8 v18,pI 9 v21],[],[(896,1,Y rB v19),(1024,1,Y rI v28)]⟩ (A4 [2] [.sc (.v (.int .i64 zr))])
def Pj:=fun a0 y5 v6 v17 v18 v19 (k_:U→(P U)→Q U)=>∀{v21 v22} {zr},k_ v21 v22=N zr→Kh Z 172 Ih 34 [0,3,4,5,6,7,8,9] [] [896,1024] ⟨[pL 0 rU a0,pI 3 y5,pW 4 896,pW 5 1024,pI 6 v6,pI 7 v17,pI 8 v18,pI 9 v21],[],[(896,1,Y rB v19),(1024,1,Y rI v22)]⟩ (A4 [2] [.sc (.v (.int .i64 zr))])
def Wd:=fun a0 y5 v6 v8 (k_:U→U→(P V)→Q U)=>∀{v17 v18 v19} {zr},k_ v17 v18 v19=N zr→Kh Z 172 Ih 29 [0,3,4,5,6,7,8] [] [896,1024] ⟨[pL 0 rU a0,pI 3 y5,pW 4 896,pW 5 1024,pI 6 v6,pI 7 v17,pI 8 v18],[],[(896,1,Y rB v19),(1024,1,Y rI v8)]⟩ (A4 [2] [.sc (.v (.int .i64 zr))])
def J2:=fun a0 y5 (k_:U→(P V)→(P U)→Q U)=>∀{v6 v7 v8} {zr},k_ v6 v7 v8=N zr→Kh Z 172 Ih 14 [0,3,4,5,6] [] [896,1024] ⟨[pL 0 rU a0,pI 3 y5,pW 4 896,pW 5 1024,pI 6 v6],[],[(896,1,Y rB v7),(1024,1,Y rI v8)]⟩ (A4 [2] [.sc (.v (.int .i64 zr))])
theorem Uc{a0 y5 v6 v17 v18 v21 v19}{BO}(Ij:J2 a0 y5 BO){Lo}(ez:Pj a0 y5 v6 v17 v18 v19 Lo):We a0 y5 v6 v17 v18 v21 v19 (Ky a0 y5 v6 v17 v18 v21 v19 BO Lo):=by
 intro v28 r h σ hσ;unfold Ky at h;have k0:= @Ij; have k1:= @ez;exact gc
theorem qC{a0 y5 v6 v17 v18 v19}{BO}(Ij:J2 a0 y5 BO){n:W}:Pj a0 y5 v6 v17 v18 v19 (HU a0 y5 v6 v17 v18 v19 BO n):=by
 induction n with
 | zero=>intro _ _ r h; cases h
 | succ n ih=>
  intro v21 v22 r h σ hσ S hS;refine ev hS ?_;rw[HU] at h;refine AF (An ?_);obtain⟨h23,h⟩:=F6 h;obtain⟨x24,h24,h⟩:=ob h;have h24n:=Ah h24;obtain⟨h25,h⟩|⟨h25,h⟩:=ic h
  ·try simp only[hσ,h23,h24,h24n,h25,C,E,F,G,H,J]
   refine Af ?_;obtain⟨x26,h26,h⟩:=ob h;have h26n:=Ah h26;obtain⟨x27,h27,h⟩:=ob h;have h27n:=Ah h27;try simp only[h23,h24,h24n,h25,h26,h26n,h27,h27n,C,E,F,G,H,J]
   refine CC (row:=rI) (y:=(if(IntKind.i64.wrap ((1:U)+x27))<x26 then(IntKind.i64.wrap ((1:U)+x27)) else x26)) X X h26n X X (by rfl) ?_;try simp only[h23,h24,h24n,h25,h26,h26n,h27,h27n,C,E,F,G,H,J]
   refine Af ?_;try simp only[h23,h24,h24n,h25,h26,h26n,h27,h27n,C,E,F,G,H,J]
   refine Uc Ij ih h ?_ (by kernel_rfl);try simp only[h23,h24,h24n,h25,h26,h26n,h27,h27n,C,E,F,G,H,J,pL,aM,I]
  ·try simp only[hσ,h23,h24,h24n,h25,C,E,F,G,H,J]
   refine Uc Ij ih h ?_ (by kernel_rfl);try simp only[h23,h24,h24n,h25,C,E,F,G,H,J,pL,aM,I]
theorem Ud{a0 y5 v6 v8}{BO}(Ij:J2 a0 y5 BO):Wd a0 y5 v6 v8 (Kx a0 y5 v6 v8 BO):=by
 intro v17 v18 v19 r h σ hσ;unfold Kx at h;have s0:= @T4 _ rI ((a0.length:U));have k0:= @qC;exact gc
theorem qD{a0 y5}{n:W}:J2 a0 y5 (HT a0 y5 n):=by
 induction n with
 | zero=>intro _ _ _ r h; cases h
 | succ n ih=>
  intro v6 v7 v8 r h σ hσ S hS;refine ev hS ?_;rw[HT] at h;refine AF (An ?_);obtain⟨h9,h⟩|⟨h9,h⟩:=ic h
  ·obtain⟨r10,h10,h⟩:=ob h;try simp only[hσ,h9,C,E,F,G,H,J]
   refine Ai (A6 ow h10) ?_;obtain⟨h11,h⟩:=F6 h;obtain⟨x12,h12,h⟩:=ob h;have h12n:=Ah h12;obtain⟨h13,h⟩|⟨h13,h⟩:=ic h
   ·obtain⟨x14,h14,h⟩:=ob h;obtain⟨x15,h15,h⟩:=ob h;have h15n:=Ah h15;try simp only[h9,h11,h12,h12n,h13,h14,h15,C,E,F,G,H,J]
    refine CC (row:=rB) (y:=((AH .andNot .u64 (IntKind.u64.wrap (AH .andNot .i64 v6 (Br .i64 (1:U) (IntKind.i64.wrap (r10 - (1:U)))))) x14)==(0:U))) X X h15n X X (by rfl) ?_;try simp only[h9,h11,h12,h12n,h13,h14,h15,C,E,F,G,H,J]
    refine Ud ih h ?_ (by kernel_rfl);try simp only[h9,h11,h12,h12n,h13,h14,h15,C,E,F,G,H,J,pL,aM,I]
   ·obtain⟨x16,h16,h⟩:=ob h;have h16n:=Ah h16;try simp only[h9,h11,h12,h12n,h13,h16,C,E,F,G,H,J]
    refine CC (row:=rB) (y:=false) X X h16n X X (by rfl) ?_;try simp only[h9,h11,h12,h12n,h13,h16,C,E,F,G,H,J]
    refine Ud ih h ?_ (by kernel_rfl);try simp only[h9,h11,h12,h12n,h13,h16,C,E,F,G,H,J,pL,aM,I]
  ·obtain⟨x30,h30,h⟩:=ob h;have h30n:=Ah h30;try simp only[hσ,h9,h30,h30n,C,E,F,G,H,J]
   cases h;exact t0
instance oV:Ct 172 (∀{a0} {r},Np a0=N r→FC Z 172 [.sc (.sl (Y rU a0))] [.sc (.v (.int .i64 r))]):=by
 refine⟨fun{a0} {r} h=> ?_⟩;unfold Np at h;refine A2 mixed Ih [2] 88 ?_;intro S hS;refine ev hS ?_;simp only[C,E,F,G,H,J];obtain⟨h1,h⟩:=F6 h;obtain⟨n2,hn2,h⟩:=ob h;try simp only[h1,C,E,F,G,H,J]
 refine NM (es:=Y rB (List.replicate n2 L)) X X hn2 X (Ox X) X ?_;obtain⟨n3,hn3,h⟩:=ob h;try simp only[h1,C,E,F,G,H,J]
 refine NM (es:=Y rI (List.replicate n3 (0:U))) X X hn3 X (Ox X) X ?_;obtain⟨x4,h4,h⟩:=ob h;have h4n:=Ah h4;try simp only[h1,h4,C,E,F,G,H,J]
 refine CC (row:=rB) (y:=true) X X h4n X X (by rfl) ?_;try simp only[h1,h4,C,E,F,G,H,J]
 refine qD h ?_ (by kernel_rfl);try simp only[h1,h4,C,E,F,G,H,J,pL,aM,I]
def Ii:Hw:=([(16,[0,3,4],[99999999999],[90000,90001]),(31,[0,3,4],[99999999999],[90000,90001]),(51,[0,3,4],[99999999999],[90000,90001])],[(48,7,(O,.cut 95)),(55,7,(O,.cut 123))])
def W9:=fun(a0:Xg) v2 (k_:(P U)→U→(P U)→(P U)→Q (V × Xg))=>∀{v22 v23 v24 v25} {zr},k_ v22 v23 v24 v25=N zr→Kh Z 173 Ii 51 [0,3,4] [99999999999] [90000,90001] ⟨[(0,vc (.pb 99999999999 0)),pI 3 (a0.who.length:U),pI 4 v2],[(99999999999,[aM rU v22,aI v23,.own 90000,.own 90001])],[(90000,1,Y rU v24),(90001,1,Y rI v25)]⟩ (DE [2] [.sc (.v (.bool zr.1))] (BS zr.2) (BT zr.2))
def W8:=fun(a0:Xg) v2 v3 v4 v6 (k_:(P U)→Q (V × Xg))=>∀{v11} {zr},k_ v11=N zr→Kh Z 173 Ii 31 [0,3,4] [99999999999] [90000,90001] ⟨[(0,vc (.pb 99999999999 0)),pI 3 (a0.who.length:U),pI 4 v2],[(99999999999,[aM rU v3,aI v4,.own 90000,.own 90001])],[(90000,1,Y rU v11),(90001,1,Y rI v6)]⟩ (DE [2] [.sc (.v (.bool zr.1))] (BS zr.2) (BT zr.2))
def LX:=fun(a0:Xg) (k_:U→(P U)→U→(P U)→(P U)→Q (V × Xg))=>∀{v2 v3 v4 v5 v6} {zr},k_ v2 v3 v4 v5 v6=N zr→Kh Z 173 Ii 16 [0,3,4] [99999999999] [90000,90001] ⟨[(0,vc (.pb 99999999999 0)),pI 3 (a0.who.length:U),pI 4 v2],[(99999999999,[aM rU v3,aI v4,.own 90000,.own 90001])],[(90000,1,Y rU v5),(90001,1,Y rI v6)]⟩ (DE [2] [.sc (.v (.bool zr.1))] (BS zr.2) (BT zr.2))
theorem Ue{rec_:Xg→Q (V × Xg)}(h_rec:∀(a0:Xg) zr,rec_ a0=N zr→FCz Z 173 [.p] (BS a0) (BT a0) (BS zr.2) (BT zr.2) [.sc (.v (.bool zr.1))]){a0 v2}{Ds}(Le:LX a0 Ds):W9 a0 v2 (Ku rec_ a0 v2 Ds):=by
 intro v22 v23 v24 v25 r h σ hσ S hS;refine ev hS ?_;refine An ?_;unfold Ku at h;obtain⟨x26,h26,h⟩:=ob h;have h26n:=Ah h26;obtain⟨h27,h⟩|⟨h27,h⟩:=ic h
 ·obtain⟨p28,h28,h⟩:=ob h;try simp only[hσ,h26,h26n,h27,C,E,F,G,H,J]
  refine F0 X X h28 (by rfl) ?_;try simp only[h26,h26n,h27,C,E,F,G,H,J]
  cases h;exact⟨⟨X,⟨⟩⟩,[90000,90001],by decide,by decide,X,X⟩
 ·try simp only[hσ,h26,h26n,h27,C,E,F,G,H,J]
  refine Le h ?_ (by kernel_rfl);try simp only[h26,h26n,h27,C,E,F,G,H,J,pL,aM,I]
theorem Uf{rec_:Xg→Q (V × Xg)}(h_rec:∀(a0:Xg) zr,rec_ a0=N zr→FCz Z 173 [.p] (BS a0) (BT a0) (BS zr.2) (BT zr.2) [.sc (.v (.bool zr.1))]){a0 v2 v3 v4 v6}{Ds}(Le:LX a0 Ds):W8 a0 v2 v3 v4 v6 (Kt rec_ a0 v2 v3 v4 v6 Ds):=by
 intro v11 r h σ hσ S hS;refine ev hS ?_;refine An ?_;unfold Kt at h;try simp only[hσ,C,E,F,G,H,J]
 refine Af ?_;obtain⟨x12,h12,h⟩:=ob h;have h12n:=Ah h12;obtain⟨x13,h13,h⟩:=ob h;obtain⟨h14,h⟩|⟨h14,h⟩:=ic h
 ·try simp only[h12,h12n,h13,h14,C,E,F,G,H,J]
  refine Af ?_;obtain⟨h15,h⟩:=F6 h;try simp only[h12,h12n,h13,h14,h15,C,E,F,G,H,J]
  refine CC (row:=rU) (y:=(AH .or .u64 x12 (Br .u64 (1:U) (a0.who.length:U)))) X X h12n X X (by rfl) ?_;try simp only[h12,h12n,h13,h14,h15,C,E,F,G,H,J]
  refine Af ?_;try simp only[h12,h12n,h13,h14,h15,C,E,F,G,H,J]
  refine AP (es:=Y rI ([v2]:P U)) ?_;obtain⟨h16,h⟩:=Az h;obtain⟨r17,h17,h⟩:=ob h;try simp only[h12,h12n,h13,h14,h15,h16,C,E,F,G,H,J]
  refine Gm (h_rec _ _ h17) 99999999999 [90000,90001] rfl X X X (by decide) X X X ?_;obtain⟨h18,h⟩|⟨h18,h⟩:=ic h
  ·try simp only[h12,h12n,h13,h14,h15,h16,h18,C,E,F,G,H,J]
   cases h;exact⟨⟨X,⟨⟩⟩,[90000,90001],by decide,by decide,X,X⟩
  ·obtain⟨p19,h19,h⟩:=ob h;try simp only[h12,h12n,h13,h14,h15,h16,h18,C,E,F,G,H,J]
   refine F0 X X h19 (by rfl) ?_;try simp only[h12,h12n,h13,h14,h15,h16,h18,C,E,F,G,H,J]
   refine Af ?_;obtain⟨x20,h20,h⟩:=ob h;have h20n:=Ah h20;obtain⟨h21,h⟩:=F6 h;try simp only[h12,h12n,h13,h14,h15,h16,h18,h20,h20n,h21,C,E,F,G,H,J]
   refine CC (row:=rU) (y:=(AH .andNot .u64 x20 (Br .u64 (1:U) (a0.who.length:U)))) X X h20n X X (by rfl) ?_;try simp only[h12,h12n,h13,h14,h15,h16,h18,h20,h20n,h21,C,E,F,G,H,J]
   refine Af ?_;try simp only[h12,h12n,h13,h14,h15,h16,h18,h20,h20n,h21,C,E,F,G,H,J]
   refine Ue h_rec Le h ?_ (by kernel_rfl);try simp only[h12,h12n,h13,h14,h15,h16,h18,h20,h20n,h21,C,E,F,G,H,J,pL,aM,I]
 ·try simp only[h12,h12n,h13,h14,C,E,F,G,H,J]
  refine Ue h_rec Le h ?_ (by kernel_rfl);try simp only[h12,h12n,h13,h14,C,E,F,G,H,J,pL,aM,I]
theorem qE{rec_:Xg→Q (V × Xg)}(h_rec:∀(a0:Xg) zr,rec_ a0=N zr→FCz Z 173 [.p] (BS a0) (BT a0) (BS zr.2) (BT zr.2) [.sc (.v (.bool zr.1))]){a0}{n:W}:LX a0 (HM rec_ a0 n):=by
 induction n with
 | zero=>intro _ _ _ _ _ r h; cases h
 | succ n ih=>
  intro v2 v3 v4 v5 v6 r h σ hσ S hS;refine ev hS ?_;rw[HM] at h;refine AF (An ?_);obtain⟨h7,h⟩|⟨h7,h⟩:=ic h
  ·obtain⟨h8,h⟩|⟨h8,h⟩:=ic h
   ·obtain⟨h9,h⟩|⟨h9,h⟩:=ic h
    ·try simp only[hσ,h7,h8,h9,C,E,F,G,H,J]
     refine AP (es:=Y rU ([(0:U)]:P U)) ?_;obtain⟨h10,h⟩:=Az h;try simp only[h7,h8,h9,h10,C,E,F,G,H,J]
     refine Uf h_rec ih h ?_ (by kernel_rfl);try simp only[h7,h8,h9,h10,C,E,F,G,H,J,pL,aM,I]
    ·try simp only[hσ,h7,h8,h9,C,E,F,G,H,J]
     refine Uf h_rec ih h ?_ (by kernel_rfl);try simp only[h7,h8,h9,C,E,F,G,H,J,pL,aM,I]
   ·try simp only[hσ,h7,h8,C,E,F,G,H,J]
    cases h;exact⟨⟨X,⟨⟩⟩,[90000,90001],by decide,by decide,X,X⟩
  ·try simp only[hσ,h7,C,E,F,G,H,J]
   cases h;exact⟨⟨X,⟨⟩⟩,[90000,90001],by decide,by decide,X,X⟩
theorem ak:AB Z 173=N ((By Z 173 Ii).strip,[2],126):=by kernel_rfl
theorem oQ(rec_:Xg→Q (V × Xg))(a0:Xg)(r:V × Xg)(h_rec:∀(a0:Xg) zr,rec_ a0=N zr→FCz Z 173 [.p] (BS a0) (BT a0) (BS zr.2) (BT zr.2) [.sc (.v (.bool zr.1))])(h:Nn rec_ a0=N r):FCz Z 173 [.p] (BS a0) (BT a0) (BS r.2) (BT r.2) [.sc (.v (.bool r.1))]:=by
 unfold Nn at h;refine LV (σ:=⟨[(0,vc (.pb 99999999999 0))],[(99999999999,[aL (Y rU a0.sets),aI a0.most,.own 90000,.own 90001])],[(90000,1,Y rU a0.groups),(90001,1,Y rI a0.who)]⟩) mixed ak X X X X ?_;refine BG Ii ?_;intro S hS;refine ev hS ?_;obtain⟨h1,h⟩|⟨h1,h⟩:=ic h
 ·try simp only[h1,C,E,F,G,H,J]
  cases h;exact⟨⟨X,⟨⟩⟩,[90000,90001],by decide,by decide,X,X⟩
 ·try simp only[h1,C,E,F,G,H,J]
  refine qE h_rec h ?_ (by kernel_rfl);try simp only[h1,C,E,F,G,H,J,pL,aM,I]
theorem oR:∀(n:W) (a0:Xg) (r:V × Xg),HN n a0=N r→FCz Z 173 [.p] (BS a0) (BT a0) (BS r.2) (BT r.2) [.sc (.v (.bool r.1))]:=by
 intro n
 induction n with
 | zero=>intro _ r h; cases h
 | succ n ih=>intro a0 r h; rw[HN] at h; exact oQ (HN n) a0 r ih h
theorem oP{a0}{r}(h:Q9 a0=N r):FCz Z 173 [.p] (BS a0) (BT a0) (BS r.2) (BT r.2) [.sc (.v (.bool r.1))]:=oR bigN a0 r h
def ef:Hw:=([],[(13,5,(O,.ownb 24 2 152704 1)),(13,6,(O,.ownb 24 3 152768 1)),(15,1,(O,.frz 1216))])
instance tm:Ct 130 (∀{a0} {a1} {a2} {r},Hp a0 a1 a2=N r→FC Z 130 [.sc (.int .i64 a0),.sc (.sl (Y rI a1)),.sc (.sl (Y zB a2))] [.sc (.o 1 (Y rI r.1)),.sc (.v (.int .i64 r.2.1)),.sc (.v (.bool r.2.2))]):=by
 refine⟨fun{a0} {a1} {a2} {r} h=> ?_⟩;unfold Hp at h;refine A2 mixed ef [6,7,8] 35 ?_;intro S hS;refine ev hS ?_;simp only[C,E,F,G,H,J];obtain⟨r1,h1,h⟩:=ob h;try simp only[C,E,F,G,H,J]
 refine Ai (A6 oO h1) ?_;obtain⟨h2,h⟩|⟨h2,h⟩:=ic h
 ·obtain⟨r3,h3,h⟩:=ob h;try simp only[h2,C,E,F,G,H,J]
  refine Ai (A6 oZ h3) ?_;obtain⟨r4,h4,h⟩:=ob h;try simp only[h2,C,E,F,G,H,J]
  refine Db (A6 oV h4) X (BN X) X (uf X) ?_;try simp only[h2,C,E,F,G,H,J]
  refine BA ?_;try simp only[h2,C,E,F,G,H,J]
  refine Dp (cs':= [.own 1216,aI r4,.own 152704,.nil]) X X X X ?_;try simp only[h2,C,E,F,G,H,J]
  refine Dp (cs':= [.own 1216,aI r4,.own 152704,.own 152768]) X X X X ?_;try simp only[h2,C,E,F,G,H,J]
  refine Ad ?_;obtain⟨r5,h5,h⟩:=ob h;try simp only[h2,C,E,F,G,H,J]
  refine Gm (oP h5) 24 [152704,152768] rfl X X X (by decide) X X X ?_;try simp only[h2,C,E,F,G,H,J]
  refine Af ?_;try simp only[h2,C,E,F,G,H,J]
  cases h;trivial
 ·try simp only[h2,C,E,F,G,H,J]
  cases h;trivial
instance uj:Ct 206 (∀{a0} {a1} {a2} {a3} {r},Ks a0 a1 a2 a3=N r→FC Z 206 [.sc (.int .i64 a0),.sc (.sl (Y rI a1)),.sc (.sl (Y zB a2)),.sc (.int .i64 a3)] [.sc (.v (.bool r))]):=by
 refine⟨fun h=> ?_⟩;unfold Ks at h;refine A2 mixed h0 [8] 27 ?_;exact gc
def QJ:Hw:=([(8,[2,5,6,13,14,15],[2],[704,768])],[])
def Wa:=fun a1 (a0:X2) (k_:U→(P X1)→(P Xc)→Q V)=>∀{v1 v2 v3} {zr},k_ v1 v2 v3=N zr→Kh Z 180 QJ 8 [2,5,6,13,14,15] [2] [704,768] ⟨[pB 2,pW 5 704,pW 6 768,pL 13 X0.row a1,pI 14 (a1.length:U),pI 15 v1],[(2,(dm a0.row))],[(704,5,Y X1.row v2),(768,4,Y zB v3)]⟩ (A4 [4] [.sc (.v (.bool zr))])
theorem qF{a1 a0}{n:W}:Wa a1 a0 (HO a1 a0 n):=by
 induction n with
 | zero=>intro _ _ _ r h; cases h
 | succ n ih=>
  intro v1 v2 v3 r h σ hσ;rw[HO] at h;have s0:=fun(r10:Xc)=> @Ap (Y zB ([r10]:P Xc))
  exact gc
instance oS:Ct 180 (∀{a0} {a1} {r},Ec a0 a1=N r→FC Z 180 [.ag (X2.row a0),.sc (.sl (Y X0.row a1))] [.sc (.v (.bool r))]):=by
 refine⟨fun h=> ?_⟩;unfold Ec at h;refine A2 mixed QJ [4] 79 ?_;have s0:= @Ap (Y X1.row ([]:P X1));have s1:= @Ap (Y zB ([]:P Xc));have k0:= @qF;exact gc
def IW:P (P W × AItem):= [([],(O,.load 25 (S 3) T 12)),([],(O,.mv 26 (S 1))),([1],(O,.call 27 181 [(S 26)])),([],(O,.load 28 (S 5) T 4)),([3],(O,.bslice 29 4 [.int .i64 0,.int .i64 0,.int .i64 0,.sl []] 1 [(0,(S 28))])),([2,4,2],(O,.app 30 4 48 (S 27) (S 29))),([0,5,5],(O,.call 31 180 [(S 25),(S 30)])),([6,6,0,1,2,3,4,5,6],(O,.mv 6 (S 31)))]
def QK:Hw:=([(6,[1,3,5,9,10,11],[3,5],[])],[])
abbrev BK(a1:P X0)(a0:X2)(a2:X0)(r9:V)(wo2_:AV)(c0_ c1_:V)(c2_ c3_:V)(c4_ c5_:V)(c6_ c7_:V)(bx_:P (W × P AC))(rs_:Rows):St:=⟨[(1,vc (aL (Y X0.row a1))),(3,vc (.pb 3 0)),(5,vc (.pb 5 0)),(25,bif c0_ then va (dm a0.row) else .undef),(26,bif c1_ then vc (aL (Y X0.row a1)) else .undef),(27,bif c2_ then wo2_ else .undef),(28,bif c3_ then va (dm a2.row) else .undef),(29,bif c4_ then vc (.own 1856) else .undef),(30,bif c5_ then vc (.own 1728) else .undef),(31,bif c6_ then vc (aB r9) else .undef),(6,bif c7_ then vc (aB r9) else .undef)],bx_,rs_⟩
abbrev Fi(a1:P X0)(a0:X2)(a2:X0)(r6:(P X0))(r9:V):St:=(BK a1 a0 a2 r9 (vc (.undef)) T T T T T T T T [(3,(dm a0.row)),(5,(dm a2.row))] [(1728,4,Y X0.row (r6++([a2]:P X0))),(1856,4,Y X0.row ([a2]:P X0))])
theorem qG(a1 a0 a2 r6 r9)(h6:Eb a1=N r6)(h7:(Aa r6.length ([a2]:P X0).length 48)=T)(h9:Ec a0 (r6++([a2]:P X0))=N r9):∀(f:W) (b0 b6 b7:V),Am Z IW (Fi a1 a0 a2 r6 r9) f [b0,T,T,T,T,T,b6,b7] (BK a1 a0 a2 r9 (vc (.undef)) b0 T T T T T b6 b7 [(3,(dm a0.row)),(5,(dm a2.row))] [(1728,4,Y X0.row (r6++([a2]:P X0))),(1856,4,Y X0.row ([a2]:P X0))]):=by
 intro f
 induction f with
 | zero=>
  intro b0 b6 b7 h;obtain rfl:b0=T:=zA.1 h b0 (by simp);obtain rfl:b6=T:=zA.1 h b6 (by simp);obtain rfl:b7=T:=zA.1 h b7 (by simp);rfl
 | succ f ih=>
  intro b0 b6 b7;refine Aw ⟨?_,?_,?_,?_,?_,?_,?_,?_,⟨⟩⟩<;>try first | (intro h; cases h; done) | (intro h0 hw; obtain rfl:=hz h0 rfl; (try obtain rfl:=hq hw 0 rfl rfl); (try obtain rfl:=hq hw 6 rfl rfl); refine np ?_; simp only[BK,Ab,Ac,A5,C,E,F,G,H,J]; exact ih _ _ _)
  ·intro h0 hw;obtain rfl:=hz h0 rfl;obtain rfl:=hq hw 0 rfl rfl;refine np ?_;try simp only[BK,Ab,Ac,A5,C,E,F,G,H,J]
   refine Db (A6 oS h9) X (BN X) (by simp only[St.fresh,zC,zD,Bn]; simp[AV.cells,V1.cells,AC.uses]) (uf X) ?_;try simp only[A5,C,E,F,G,H,J]
   exact ih T T b7
theorem Ug(a1 a0 a2 r6 r9)(h6:Eb a1=N r6)(h7:(Aa r6.length ([a2]:P X0).length 48)=T)(h9:Ec a0 (r6++([a2]:P X0))=N r9):∀(f:W) (b0:V),Am Z IW (Fi a1 a0 a2 r6 r9) f [b0,T,T,T,T,L,L,L] (BK a1 a0 a2 r9 (vc (.own 1728)) b0 T T T T L L L [(3,(dm a0.row)),(5,(dm a2.row))] [(1728,4,Y X0.row r6),(1856,4,Y X0.row ([a2]:P X0))]):=by
 intro f
 induction f with
 | zero=>intro b0 h; simp at h
 | succ f ih=>
  intro b0;refine Aw ⟨?_,?_,?_,?_,?_,?_,?_,?_,⟨⟩⟩<;>try first | (intro h; cases h; done) | (intro _ hw; simp at hw; done) | (intro h0 hw; obtain rfl:=hz h0 rfl; refine np ?_; simp only[BK,Ab,Ac,A5,C,E,F,G,H,J]; exact ih _)
  ·intro h0 hw;refine np ?_;try simp only[h7,BK,Ab,Ac,A5,C,E,F,G,H,J]
   exact qG a1 a0 a2 r6 r9 h6 h7 h9 _ b0 L L
theorem qI(a1 a0 a2 r6 r9)(h6:Eb a1=N r6)(h7:(Aa r6.length ([a2]:P X0).length 48)=T)(h9:Ec a0 (r6++([a2]:P X0))=N r9):∀(f:W) (b0 b3:V),Am Z IW (Fi a1 a0 a2 r6 r9) f [b0,T,T,b3,L,L,L,L] (BK a1 a0 a2 r9 (vc (.own 1728)) b0 T T b3 L L L L [(3,(dm a0.row)),(5,(dm a2.row))] [(1728,4,Y X0.row r6)]):=by
 intro f
 induction f with
 | zero=>intro b0 b3 h; simp at h
 | succ f ih=>
  intro b0 b3;refine Aw ⟨?_,?_,?_,?_,?_,?_,?_,?_,⟨⟩⟩<;>try first | (intro h; cases h; done) | (intro _ hw; simp at hw; done) | (intro h0 hw; obtain rfl:=hz h0 rfl; refine np ?_; simp only[BK,Ab,Ac,A5,C,E,F,G,H,J]; exact ih _ _)
  ·intro h0 hw;obtain rfl:=hq hw 3 rfl rfl;refine np ?_;try simp only[BK,Ab,Ac,A5,C,E,F,G,H,J]
   refine CR (es:=Y X0.row ([a2]:P X0)) X (by simp only[St.fresh,zC,zD,Bn]; simp[AV.cells,V1.cells,AC.uses]) ?_;try simp only[A5,C,E,F,G,H,J]
   exact Ug a1 a0 a2 r6 r9 h6 h7 h9 _ b0
theorem qJ(a1 a0 a2 r6 r9)(h6:Eb a1=N r6)(h7:(Aa r6.length ([a2]:P X0).length 48)=T)(h9:Ec a0 (r6++([a2]:P X0))=N r9):∀(f:W) (b0 b1:V),Am Z IW (Fi a1 a0 a2 r6 r9) f [b0,b1,L,T,T,L,L,L] (BK a1 a0 a2 r9 (vc (.own 1728)) b0 b1 L T T L L L [(3,(dm a0.row)),(5,(dm a2.row))] [(1856,4,Y X0.row ([a2]:P X0))]):=by
 intro f
 induction f with
 | zero=>intro b0 b1 h; simp at h
 | succ f ih=>
  intro b0 b1;refine Aw ⟨?_,?_,?_,?_,?_,?_,?_,?_,⟨⟩⟩<;>try first | (intro h; cases h; done) | (intro _ hw; simp at hw; done) | (intro h0 hw; obtain rfl:=hz h0 rfl; refine np ?_; simp only[BK,Ab,Ac,A5,C,E,F,G,H,J]; exact ih _ _)
  ·intro h0 hw;obtain rfl:=hq hw 1 rfl rfl;refine⟨[],[(O,.keep [1,3,5,25,26,27,28,29,30,31,6] [3,5] [1728,1856])],X,X,?_⟩;try simp only[BK,Ab,Ac,zF,zE,A5,C,E,F,G,H,J]
   refine Gl (A6 U6 h6) X (by simp only[St.fresh,zC,zD,Bn]; simp[AV.cells,V1.cells,AC.uses]) (uf X) ?_;try simp only[A5,C,E,F,G,H,J]
   exact Ug a1 a0 a2 r6 r9 h6 h7 h9 _ b0
theorem qK(a1 a0 a2 r6 r9)(h6:Eb a1=N r6)(h7:(Aa r6.length ([a2]:P X0).length 48)=T)(h9:Ec a0 (r6++([a2]:P X0))=N r9):∀(f:W) (b0 b1 b3:V),Am Z IW (Fi a1 a0 a2 r6 r9) f [b0,b1,L,b3,L,L,L,L] (BK a1 a0 a2 r9 (vc (.own 1728)) b0 b1 L b3 L L L L [(3,(dm a0.row)),(5,(dm a2.row))] []):=by
 intro f
 induction f with
 | zero=>intro b0 b1 b3 h; simp at h
 | succ f ih=>
  intro b0 b1 b3;refine Aw ⟨?_,?_,?_,?_,?_,?_,?_,?_,⟨⟩⟩<;>try first | (intro _ hw; simp at hw; done) | (intro h0 hw; obtain rfl:=hz h0 rfl; refine np ?_; simp only[BK,Ab,Ac,A5,C,E,F,G,H,J]; exact ih _ _ _)
  ·intro h0 hw;obtain rfl:=hq hw 1 rfl rfl;refine np ?_;try simp only[BK,Ab,Ac,A5,C,E,F,G,H,J]
   refine Gl (A6 U6 h6) X (by simp only[St.fresh,zC,zD,Bn]; simp[AV.cells,V1.cells,AC.uses]) (uf X) ?_;try simp only[A5,C,E,F,G,H,J]
   exact qI a1 a0 a2 r6 r9 h6 h7 h9 _ b0 b3
  ·intro h0 hw;obtain rfl:=hq hw 3 rfl rfl;refine np ?_;try simp only[BK,Ab,Ac,A5,C,E,F,G,H,J]
   refine CR (es:=Y X0.row ([a2]:P X0)) X (by simp only[St.fresh,zC,zD,Bn]; simp[AV.cells,V1.cells,AC.uses]) ?_;try simp only[A5,C,E,F,G,H,J]
   exact qJ a1 a0 a2 r6 r9 h6 h7 h9 _ b0 b1
def Wb:=fun a1 (a0:X2) (a2:X0) (k_:U→Q V)=>∀{v1} {zr},k_ v1=N zr→Kh Z 136 QK 6 [1,3,5,9,10,11] [3,5] [] ⟨[pL 1 X0.row a1,pB 3,pB 5,pL 9 X0.row a1,pI 10 (a1.length:U),pI 11 v1],[(3,(dm a0.row)),(5,(dm a2.row))],[]⟩ (A4 [6] [.sc (.v (.bool zr))])
theorem qL{a1 a0 a2}{n:W}:Wb a1 a0 a2 (Kv a1 a0 a2 n):=by
 induction n with
 | zero=>intro _ r h; cases h
 | succ n ih=>
  intro v1 r h σ hσ S hS;refine ev hS ?_;rw[Kv] at h;refine AF (An ?_);obtain⟨h2,h⟩|⟨h2,h⟩:=ic h
  ·obtain⟨x3,h3,h⟩:=ob h;try simp only[hσ,h2,h3,C,E,F,G,H,J]
   refine AI ?_;obtain⟨r4,h4,h⟩:=ob h;try simp only[h2,h3,C,E,F,G,H,J]
   refine Ai (A6 OO h4) ?_;obtain⟨h5,h⟩|⟨h5,h⟩:=ic h
   ·try simp only[h2,h3,h5,C,E,F,G,H,J]
    cases h;exact t0
   ·try simp only[h2,h3,h5,C,E,F,G,H,J]
    refine ih h ?_ (by kernel_rfl);try simp only[h2,h3,h5,C,E,F,G,H,J,pL,aM,I]
  ·try simp only[hσ,h2,C,E,F,G,H,J]
   obtain⟨r6,h6,h⟩:=ob h;obtain⟨h7,h⟩:=Az h;obtain⟨r9,h9,h⟩:=ob h;refine DM (ks:= [1,3,5]) (bs:= [3,5]) (rs:= []) (τ:=(Fi a1 a0 a2 r6 r9)) X (qK a1 a0 a2 r6 r9 h6 h7 h9 _ L L L) ?_;simp only[Fi,BK,Ab];try simp only[h2,h7,C,E,F,G,H,J]
   cases h;exact t0
instance oT:Ct 136 (∀{a0} {a1} {a2} {r},Gc a0 a1 a2=N r→FC Z 136 [.ag (X2.row a0),.sc (.sl (Y X0.row a1)),.ag (X0.row a2)] [.sc (.v (.bool r))]):=by
 refine⟨fun h=> ?_⟩;unfold Gc at h;refine A2 mixed QK [6] 32 ?_;have k0:= @qL;exact gc
def IX:P (P W × AItem):= [([],(O,.mv 40 (S 0))),([],(O,.mv 41 (S 0))),([],(O,.mv 42 (S 0))),([],(O,.mv 43 (S 0))),([3],(O,.nilc 44 (S 43))),([4],(O,.faddr 45 (S 44) 15)),([5],(O,.load 46 (S 45) L 1)),([6],(O,.call 47 38 [(S 46)])),([],(O,.load 48 (S 2) T 2)),([0,0,3,4,5,6,7],(O,.nilc 49 (S 40))),([9,0,3,4,5,6,7],(O,.faddr 50 (S 49) 16)),([10,7,7,0,3,4,5,6,7],(O,.store (S 50) (S 47) 1)),([1,0,1,3,4,5,6,7,8,9,10,11],(O,.nilc 51 (S 41))),([12,0,1,3,4,5,6,7,8,9,10,11],(O,.faddr 52 (S 51) 17)),([13,8,11,0,1,3,4,5,6,7,8,9,10,11],(O,.store (S 52) (S 48) 2)),([2,0,1,2,3,4,5,6,7,8,9,10,11,12,13,14],(O,.nilc 53 (S 42))),([15,0,1,2,3,4,5,6,7,8,9,10,11,12,13,14],(O,.faddr 54 (S 53) 19)),([16,14,0,1,2,3,4,5,6,7,8,9,10,11,12,13,14],(O,.store (S 54) (KB T) 1))]
def E2:P (P W × AItem):= [([],(O,.mv 79 (S 0))),([],(O,.mv 80 (S 0))),([],(O,.mv 81 (S 0))),([2],(O,.nilc 82 (S 81))),([3],(O,.faddr 83 (S 82) 14)),([4],(O,.load 84 (S 83) L 1)),([],(O,.load 85 (S 5) T 4)),([6],(O,.bslice 86 4 [.int .i64 0,.int .i64 0,.int .i64 0,.sl []] 1 [(0,(S 85))])),([5,7],(O,.app 87 4 48 (S 84) (S 86))),([],(O,.mv 88 (S 0))),([9],(O,.nilc 89 (S 88))),([10],(O,.faddr 90 (S 89) 15)),([11],(O,.load 91 (S 90) L 1)),([],(O,.mv 92 (S 4))),([13],(O,.bslice 93 1 [.int .i64 0] 1 [(0,(S 92))])),([12,14,8],(O,.app 94 1 8 (S 91) (S 93))),([0,0,2,3,4,5,6,7,8,12,15],(O,.nilc 95 (S 79))),([16,0,2,3,4,5,6,7,8,12,15],(O,.faddr 96 (S 95) 14)),([17,8,15,0,2,3,4,5,6,7,8,12,15],(O,.store (S 96) (S 87) 1)),([1,0,1,2,3,4,5,6,7,8,9,10,11,12,13,14,15,16,17,18],(O,.nilc 97 (S 80))),([19,0,1,2,3,4,5,6,7,8,9,10,11,12,13,14,15,16,17,18],(O,.faddr 98 (S 97) 15)),([20,15,18,0,1,2,3,4,5,6,7,8,9,10,11,12,13,14,15,16,17,18],(O,.store (S 98) (S 94) 1))]
def Fm:P (P W × AItem):= [([],(O,.mv 101 (S 0))),([],(O,.mv 102 (S 0))),([],(O,.mv 103 (S 0))),([2],(O,.nilc 104 (S 103))),([3],(O,.faddr 105 (S 104) 14)),([4],(O,.load 106 (S 105) L 1)),([],(O,.mv 107 (S 3))),([5,6],(O,.slc 108 4 (S 106) O (N (S 107)) O)),([],(O,.mv 109 (S 0))),([8],(O,.nilc 110 (S 109))),([9],(O,.faddr 111 (S 110) 15)),([10],(O,.load 112 (S 111) L 1)),([],(O,.mv 113 (S 3))),([11,12],(O,.slc 114 1 (S 112) O (N (S 113)) O)),([0,0,2,3,4,5,6,7,11],(O,.nilc 115 (S 101))),([14,0,2,3,4,5,6,7,11],(O,.faddr 116 (S 115) 14)),([15,7,0,2,3,4,5,6,7,11],(O,.store (S 116) (S 108) 1)),([1,0,1,2,3,4,5,6,7,8,9,10,11,12,13,14,15,16],(O,.nilc 117 (S 102))),([17,0,1,2,3,4,5,6,7,8,9,10,11,12,13,14,15,16],(O,.faddr 118 (S 117) 15)),([18,13,16,0,1,2,3,4,5,6,7,8,9,10,11,12,13,14,15,16],(O,.store (S 118) (S 114) 1))]
def L6:Hw:=([(8,[0,2],[99999999999,2],[90000,90001,90002]),(21,[0,3,61,62,63],[99999999999],[90000,90001,90002])],[])
abbrev C3(r1:Xi)(c0_ c1_:V)(c2_ c3_:V)(c4_ c5_:V)(c6_ c7_:V)(c8_ c9_:V)(c10_ c12_:V)(c13_ c15_ c16_:V)(bx_:P (W × P AC))(rs_:Rows):St:=⟨[(0,vc (.pb 99999999999 0)),(2,vc (.pb 2 0)),(40,bif c0_ then vc (.pb 99999999999 0) else .undef),(41,bif c1_ then vc (.pb 99999999999 0) else .undef),(42,bif c2_ then vc (.pb 99999999999 0) else .undef),(43,bif c3_ then vc (.pb 99999999999 0) else .undef),(44,bif c4_ then vc (.pb 99999999999 0) else .undef),(45,bif c5_ then vc (.pb 99999999999 15) else .undef),(46,bif c6_ then vc (.own 90001) else .undef),(47,bif c7_ then vc (.own 3008) else .undef),(48,bif c8_ then va [aI r1.i0,aI r1.i1] else .undef),(49,bif c9_ then vc (.pb 99999999999 0) else .undef),(50,bif c10_ then vc (.pb 99999999999 16) else .undef),(51,bif c12_ then vc (.pb 99999999999 0) else .undef),(52,bif c13_ then vc (.pb 99999999999 17) else .undef),(53,bif c15_ then vc (.pb 99999999999 0) else .undef),(54,bif c16_ then vc (.pb 99999999999 19) else .undef)],bx_,rs_⟩
abbrev Fj(F_w0:FuncId)(caps_w0:P D)(a0:Xa)(r1:Xi)(r7:(P U)):St:=(C3 r1 T T T T T T T T T T T T T T T [(99999999999,(dm a0.h.row++ [aL (Y (rL X0.row) a0.choices),.dat (.clo F_w0 caps_w0),.own 90000,.own 90001,.own 3008,aI r1.i0,aI r1.i1,aB T])),(2,[aI r1.i0,aI r1.i1])] [(90000,4,Y X0.row a0.plan),(90001,1,Y rI a0.choice),(90002,1,Y rI a0.best),(3008,1,Y rI r7)])
theorem qM(F_w0:FuncId)(caps_w0:P D)(a0:Xa)(r1:Xi)(v5:V)(r7)(h7:B9 a0.choice=N r7):∀(f:W) (b15:V),Am Z IX (Fj F_w0 caps_w0 a0 r1 r7) f [T,T,T,T,T,T,T,T,T,T,T,T,T,T,T,b15,T,T] (C3 r1 T T T T T T T T T T T T T b15 T [(99999999999,(dm a0.h.row++ [aL (Y (rL X0.row) a0.choices),.dat (.clo F_w0 caps_w0),.own 90000,.own 90001,.own 3008,aI r1.i0,aI r1.i1,aB T])),(2,[aI r1.i0,aI r1.i1])] [(90000,4,Y X0.row a0.plan),(90001,1,Y rI a0.choice),(90002,1,Y rI a0.best),(3008,1,Y rI r7)]):=by
 intro f
 induction f with
 | zero=>
  intro b15 h;obtain rfl:b15=T:=zA.1 h b15 (by simp);rfl
 | succ f ih=>
  intro b15;refine Aw ⟨?_,?_,?_,?_,?_,?_,?_,?_,?_,?_,?_,?_,?_,?_,?_,?_,?_,?_,⟨⟩⟩<;>try first | (intro h; cases h; done) | (intro h0 hw; obtain rfl:=hz h0 rfl; refine np ?_; simp only[C3,Ab,Ac,A5,C,E,F,G,H,J]; exact ih _)
theorem qN(F_w0:FuncId)(caps_w0:P D)(a0:Xa)(r1:Xi)(v5:V)(r7)(h7:B9 a0.choice=N r7):∀(f:W) (b2 b12:V) (b15 b16:V),Am Z IX (Fj F_w0 caps_w0 a0 r1 r7) f [T,T,b2,T,T,T,T,T,T,T,T,T,b12,T,T,b15,b16,L] (C3 r1 T T b2 T T T T T T T T b12 T b15 b16 [(99999999999,(dm a0.h.row++ [aL (Y (rL X0.row) a0.choices),.dat (.clo F_w0 caps_w0),.own 90000,.own 90001,.own 3008,aI r1.i0,aI r1.i1,aB v5])),(2,[aI r1.i0,aI r1.i1])] [(90000,4,Y X0.row a0.plan),(90001,1,Y rI a0.choice),(90002,1,Y rI a0.best),(3008,1,Y rI r7)]):=by
 intro f
 induction f with
 | zero=>intro b2 b12 b15 b16 h; simp at h
 | succ f ih=>
  intro b2 b12 b15 b16;refine Aw ⟨?_,?_,?_,?_,?_,?_,?_,?_,?_,?_,?_,?_,?_,?_,?_,?_,?_,?_,⟨⟩⟩<;>try first | (intro h; cases h; done) | (intro h0 hw; obtain rfl:=hz h0 rfl; (try obtain rfl:=hq hw 2 rfl rfl); (try obtain rfl:=hq hw 12 rfl rfl); (try obtain rfl:=hq hw 15 rfl rfl); refine np ?_; simp only[C3,Ab,Ac,A5,C,E,F,G,H,J]; exact ih _ _ _ _)
  ·intro h0 hw;obtain rfl:=hq hw 2 rfl rfl;obtain rfl:=hq hw 12 rfl rfl;obtain rfl:=hq hw 16 rfl rfl;refine np ?_;try simp only[C3,Ab,Ac,A5,C,E,F,G,H,J]
   exact qM F_w0 caps_w0 a0 r1 v5 r7 h7 _ b15
theorem qO(F_w0:FuncId)(caps_w0:P D)(a0:Xa)(r1:Xi)(v5:V)(r7)(h7:B9 a0.choice=N r7):∀(f:W) (b1 b2:V) (b8 b9:V) (b12 b13:V),Am Z IX (Fj F_w0 caps_w0 a0 r1 r7) f [T,b1,b2,T,T,T,T,T,b8,b9,T,T,b12,b13,L,L,L,L] (C3 r1 T b1 b2 T T T T T b8 b9 T b12 b13 L L [(99999999999,(dm a0.h.row++ [aL (Y (rL X0.row) a0.choices),.dat (.clo F_w0 caps_w0),.own 90000,.own 90001,.own 3008,aI a0.least.i0,aI a0.least.i1,aB v5])),(2,[aI r1.i0,aI r1.i1])] [(90000,4,Y X0.row a0.plan),(90001,1,Y rI a0.choice),(90002,1,Y rI a0.best),(3008,1,Y rI r7)]):=by
 intro f
 induction f with
 | zero=>intro b1 b2 b8 b9 b12 b13 h; simp at h
 | succ f ih=>
  intro b1 b2 b8 b9 b12 b13;refine Aw ⟨?_,?_,?_,?_,?_,?_,?_,?_,?_,?_,?_,?_,?_,?_,?_,?_,?_,?_,⟨⟩⟩<;>try first | (intro h; cases h; done) | (intro _ hw; simp at hw; done) | (intro h0 hw; obtain rfl:=hz h0 rfl; (try obtain rfl:=hq hw 1 rfl rfl); (try obtain rfl:=hq hw 8 rfl rfl); (try obtain rfl:=hq hw 9 rfl rfl); (try obtain rfl:=hq hw 12 rfl rfl); refine np ?_; simp only[C3,Ab,Ac,A5,C,E,F,G,H,J]; exact ih _ _ _ _ _ _)
  ·intro h0 hw;obtain rfl:=hq hw 1 rfl rfl;obtain rfl:=hq hw 8 rfl rfl;obtain rfl:=hq hw 9 rfl rfl;obtain rfl:=hq hw 13 rfl rfl;refine np ?_;try simp only[C3,Ab,Ac,A5,C,E,F,G,H,J]
   exact qN F_w0 caps_w0 a0 r1 v5 r7 h7 _ b2 b12 L L
theorem qP(F_w0:FuncId)(caps_w0:P D)(a0:Xa)(r1:Xi)(v5:V)(r7)(h7:B9 a0.choice=N r7):∀(f:W) (b0 b1:V) (b2 b3:V) (b4 b5:V) (b8 b9 b10:V),Am Z IX (Fj F_w0 caps_w0 a0 r1 r7) f [b0,b1,b2,b3,b4,b5,T,T,b8,b9,b10,L,L,L,L,L,L,L] (C3 r1 b0 b1 b2 b3 b4 b5 T T b8 b9 b10 L L L L [(99999999999,(dm a0.h.row++ [aL (Y (rL X0.row) a0.choices),.dat (.clo F_w0 caps_w0),.own 90000,.own 90001,.own 90002,aI a0.least.i0,aI a0.least.i1,aB v5])),(2,[aI r1.i0,aI r1.i1])] [(90000,4,Y X0.row a0.plan),(90001,1,Y rI a0.choice),(90002,1,Y rI a0.best),(3008,1,Y rI r7)]):=by
 intro f
 induction f with
 | zero=>intro b0 b1 b2 b3 b4 b5 b8 b9 b10 h; simp at h
 | succ f ih=>
  intro b0 b1 b2 b3 b4 b5 b8 b9 b10;refine Aw ⟨?_,?_,?_,?_,?_,?_,?_,?_,?_,?_,?_,?_,?_,?_,?_,?_,?_,?_,⟨⟩⟩<;>try first | (intro h; cases h; done) | (intro _ hw; simp at hw; done) | (intro h0 hw; obtain rfl:=hz h0 rfl; (try obtain rfl:=hq hw 0 rfl rfl); (try obtain rfl:=hq hw 3 rfl rfl); (try obtain rfl:=hq hw 4 rfl rfl); (try obtain rfl:=hq hw 5 rfl rfl); (try obtain rfl:=hq hw 9 rfl rfl); refine np ?_; simp only[C3,Ab,Ac,A5,C,E,F,G,H,J]; exact ih _ _ _ _ _ _ _ _ _)
  ·intro h0 hw;obtain rfl:=hq hw 0 rfl rfl;obtain rfl:=hq hw 3 rfl rfl;obtain rfl:=hq hw 4 rfl rfl;obtain rfl:=hq hw 5 rfl rfl;obtain rfl:=hq hw 10 rfl rfl;refine np ?_;try simp only[C3,Ab,Ac,A5,C,E,F,G,H,J]
   exact qO F_w0 caps_w0 a0 r1 v5 r7 h7 _ b1 b2 b8 b9 L L
theorem qQ(F_w0:FuncId)(caps_w0:P D)(a0:Xa)(r1:Xi)(v5:V)(r7)(h7:B9 a0.choice=N r7):∀(f:W) (b0 b1:V) (b2 b3:V) (b4 b5:V) (b6 b8:V),Am Z IX (Fj F_w0 caps_w0 a0 r1 r7) f [b0,b1,b2,b3,b4,b5,b6,L,b8,L,L,L,L,L,L,L,L,L] (C3 r1 b0 b1 b2 b3 b4 b5 b6 L b8 L L L L L L [(99999999999,(dm a0.h.row++ [aL (Y (rL X0.row) a0.choices),.dat (.clo F_w0 caps_w0),.own 90000,.own 90001,.own 90002,aI a0.least.i0,aI a0.least.i1,aB v5])),(2,[aI r1.i0,aI r1.i1])] [(90000,4,Y X0.row a0.plan),(90001,1,Y rI a0.choice),(90002,1,Y rI a0.best)]):=by
 intro f
 induction f with
 | zero=>intro b0 b1 b2 b3 b4 b5 b6 b8 h; simp at h
 | succ f ih=>
  intro b0 b1 b2 b3 b4 b5 b6 b8;refine Aw ⟨?_,?_,?_,?_,?_,?_,?_,?_,?_,?_,?_,?_,?_,?_,?_,?_,?_,?_,⟨⟩⟩<;>try first | (intro _ hw; simp at hw; done) | (intro h0 hw; obtain rfl:=hz h0 rfl; (try obtain rfl:=hq hw 3 rfl rfl); (try obtain rfl:=hq hw 4 rfl rfl); (try obtain rfl:=hq hw 5 rfl rfl); refine np ?_; simp only[C3,Ab,Ac,A5,C,E,F,G,H,J]; exact ih _ _ _ _ _ _ _ _)
  ·intro h0 hw;obtain rfl:=hq hw 6 rfl rfl;refine np ?_;try simp only[C3,Ab,Ac,A5,C,E,F,G,H,J]
   refine Db (A6 LQ h7) X (D9 X ⟨Da,⟨⟩⟩) (by simp only[St.fresh,zC,zD,Bn]; simp[AV.cells,V1.cells,AC.uses]) (uf X) ?_;try simp only[A5,C,E,F,G,H,J]
   exact qP F_w0 caps_w0 a0 r1 v5 r7 h7 _ b0 b1 b2 b3 b4 b5 b8 L L
abbrev AW(a0:Xa)(x8:P X0)(v9:U)(x19:X0)(wo5_ wo12_:AV)(c0_ c1_:V)(c2_ c3_:V)(c4_ c5_:V)(c6_ c7_:V)(c8_ c9_:V)(c10_ c11_:V)(c12_ c13_:V)(c14_ c15_:V)(c16_ c17_:V)(c19_ c20_:V)(bx_:P (W × P AC))(rs_:Rows):St:=⟨[(0,vc (.pb 99999999999 0)),(3,vc (aI (a0.plan.length:U))),(4,vc (aI v9)),(5,vc (.pb 5 0)),(61,vc (aL (Y X0.row x8))),(62,vc (aI (x8.length:U))),(63,vc (aI v9)),(79,bif c0_ then vc (.pb 99999999999 0) else .undef),(80,bif c1_ then vc (.pb 99999999999 0) else .undef),(81,bif c2_ then vc (.pb 99999999999 0) else .undef),(82,bif c3_ then vc (.pb 99999999999 0) else .undef),(83,bif c4_ then vc (.pb 99999999999 14) else .undef),(84,bif c5_ then wo5_ else .undef),(85,bif c6_ then va (dm x19.row) else .undef),(86,bif c7_ then vc (.own 5504) else .undef),(87,bif c8_ then vc (.own 90000) else .undef),(88,bif c9_ then vc (.pb 99999999999 0) else .undef),(89,bif c10_ then vc (.pb 99999999999 0) else .undef),(90,bif c11_ then vc (.pb 99999999999 15) else .undef),(91,bif c12_ then wo12_ else .undef),(92,bif c13_ then vc (aI v9) else .undef),(93,bif c14_ then vc (.own 5952) else .undef),(94,bif c15_ then vc (.own 90001) else .undef),(95,bif c16_ then vc (.pb 99999999999 0) else .undef),(96,bif c17_ then vc (.pb 99999999999 14) else .undef),(97,bif c19_ then vc (.pb 99999999999 0) else .undef),(98,bif c20_ then vc (.pb 99999999999 15) else .undef)],bx_,rs_⟩
abbrev Df(F_w0:FuncId)(caps_w0:P D)(a0:Xa)(x8:P X0)(v9:U)(v10:X2)(v11:P (P X0))(v12 v13:U)(v14:V)(v15:P X0)(v16 v17:P U)(x19:X0):St:=(AW a0 x8 v9 x19 (vc (.undef)) (vc (.undef)) T T T T T T T T T T T T T T T T T T T T [(99999999999,(dm v10.row++ [aL (Y (rL X0.row) v11),.dat (.clo F_w0 caps_w0),.own 90000,.own 90001,.own 90002,aI v12,aI v13,aB v14])),(5,(dm x19.row))] [(90000,4,Y X0.row (v15++([x19]:P X0))),(90001,1,Y rI (v16++([v9]:P U))),(90002,1,Y rI v17),(5504,4,Y X0.row ([x19]:P X0)),(5952,1,Y rI ([v9]:P U))])
theorem qR(F_w0:FuncId)(caps_w0:P D)(a0:Xa)(x8:P X0)(v9)(v10:X2)(v11)(v12)(v13)(v14)(v15:P X0)(v16:P U)(v17)(x19)(h22:(Aa v15.length ([x19]:P X0).length 48)=T)(h23:(Aa v16.length ([v9]:P U).length 8)=T):∀(f:W) (b19:V),Am Z E2 (Df F_w0 caps_w0 a0 x8 v9 v10 v11 v12 v13 v14 v15 v16 v17 x19) f [T,T,T,T,T,T,T,T,T,T,T,T,T,T,T,T,T,T,T,b19,T,T] (AW a0 x8 v9 x19 (vc (.undef)) (vc (.undef)) T T T T T T T T T T T T T T T T T T b19 T [(99999999999,(dm v10.row++ [aL (Y (rL X0.row) v11),.dat (.clo F_w0 caps_w0),.own 90000,.own 90001,.own 90002,aI v12,aI v13,aB v14])),(5,(dm x19.row))] [(90000,4,Y X0.row (v15++([x19]:P X0))),(90001,1,Y rI (v16++([v9]:P U))),(90002,1,Y rI v17),(5504,4,Y X0.row ([x19]:P X0)),(5952,1,Y rI ([v9]:P U))]):=by
 intro f
 induction f with
 | zero=>
  intro b19 h;obtain rfl:b19=T:=zA.1 h b19 (by simp);rfl
 | succ f ih=>
  intro b19;refine Aw ⟨?_,?_,?_,?_,?_,?_,?_,?_,?_,?_,?_,?_,?_,?_,?_,?_,?_,?_,?_,?_,?_,?_,⟨⟩⟩<;>try first | (intro h; cases h; done) | (intro h0 hw; obtain rfl:=hz h0 rfl; refine np ?_; simp only[AW,Ab,Ac,A5,C,E,F,G,H,J]; exact ih _)
theorem qS(F_w0:FuncId)(caps_w0:P D)(a0:Xa)(x8:P X0)(v9)(v10:X2)(v11)(v12)(v13)(v14)(v15:P X0)(v16:P U)(v17)(x19)(h22:(Aa v15.length ([x19]:P X0).length 48)=T)(h23:(Aa v16.length ([v9]:P U).length 8)=T):∀(f:W) (b1 b9:V) (b10 b11:V) (b16 b19 Fu:V),Am Z E2 (Df F_w0 caps_w0 a0 x8 v9 v10 v11 v12 v13 v14 v15 v16 v17 x19) f [T,b1,T,T,T,T,T,T,T,b9,b10,b11,T,T,T,T,b16,T,T,b19,Fu,L] (AW a0 x8 v9 x19 (vc (.undef)) (vc (.undef)) T b1 T T T T T T T b9 b10 b11 T T T T b16 T b19 Fu [(99999999999,(dm v10.row++ [aL (Y (rL X0.row) v11),.dat (.clo F_w0 caps_w0),.own 90000,.undef,.own 90002,aI v12,aI v13,aB v14])),(5,(dm x19.row))] [(90000,4,Y X0.row (v15++([x19]:P X0))),(90001,1,Y rI (v16++([v9]:P U))),(90002,1,Y rI v17),(5504,4,Y X0.row ([x19]:P X0)),(5952,1,Y rI ([v9]:P U))]):=by
 intro f
 induction f with
 | zero=>intro b1 b9 b10 b11 b16 b19 Fu h; simp at h
 | succ f ih=>
  intro b1 b9 b10 b11 b16 b19 Fu;refine Aw ⟨?_,?_,?_,?_,?_,?_,?_,?_,?_,?_,?_,?_,?_,?_,?_,?_,?_,?_,?_,?_,?_,?_,⟨⟩⟩<;>try first | (intro h; cases h; done) | (intro h0 hw; obtain rfl:=hz h0 rfl; (try obtain rfl:=hq hw 1 rfl rfl); (try obtain rfl:=hq hw 9 rfl rfl); (try obtain rfl:=hq hw 10 rfl rfl); (try obtain rfl:=hq hw 11 rfl rfl); (try obtain rfl:=hq hw 16 rfl rfl); (try obtain rfl:=hq hw 19 rfl rfl); refine np ?_; simp only[AW,Ab,Ac,A5,C,E,F,G,H,J]; exact ih _ _ _ _ _ _ _)
  ·intro h0 hw;obtain rfl:=hq hw 1 rfl rfl;obtain rfl:=hq hw 9 rfl rfl;obtain rfl:=hq hw 10 rfl rfl;obtain rfl:=hq hw 11 rfl rfl;obtain rfl:=hq hw 16 rfl rfl;obtain rfl:=hq hw 20 rfl rfl;refine np ?_;try simp only[AW,Ab,Ac,A5,C,E,F,G,H,J]
   exact qR F_w0 caps_w0 a0 x8 v9 v10 v11 v12 v13 v14 v15 v16 v17 x19 h22 h23 _ b19
theorem qT(F_w0:FuncId)(caps_w0:P D)(a0:Xa)(x8:P X0)(v9)(v10:X2)(v11)(v12)(v13)(v14)(v15:P X0)(v16:P U)(v17)(x19)(h22:(Aa v15.length ([x19]:P X0).length 48)=T)(h23:(Aa v16.length ([v9]:P U).length 8)=T):∀(f:W) (b0 b1:V) (b2 b3:V) (b4 b9:V) (b10 b11:V) (b16 b17:V),Am Z E2 (Df F_w0 caps_w0 a0 x8 v9 v10 v11 v12 v13 v14 v15 v16 v17 x19) f [b0,b1,b2,b3,b4,T,T,T,T,b9,b10,b11,T,T,T,T,b16,b17,L,L,L,L] (AW a0 x8 v9 x19 (vc (.undef)) (vc (.undef)) b0 b1 b2 b3 b4 T T T T b9 b10 b11 T T T T b16 b17 L L [(99999999999,(dm v10.row++ [aL (Y (rL X0.row) v11),.dat (.clo F_w0 caps_w0),.undef,.undef,.own 90002,aI v12,aI v13,aB v14])),(5,(dm x19.row))] [(90000,4,Y X0.row (v15++([x19]:P X0))),(90001,1,Y rI (v16++([v9]:P U))),(90002,1,Y rI v17),(5504,4,Y X0.row ([x19]:P X0)),(5952,1,Y rI ([v9]:P U))]):=by
 intro f
 induction f with
 | zero=>intro b0 b1 b2 b3 b4 b9 b10 b11 b16 b17 h; simp at h
 | succ f ih=>
  intro b0 b1 b2 b3 b4 b9 b10 b11 b16 b17;refine Aw ⟨?_,?_,?_,?_,?_,?_,?_,?_,?_,?_,?_,?_,?_,?_,?_,?_,?_,?_,?_,?_,?_,?_,⟨⟩⟩<;>try first | (intro h; cases h; done) | (intro _ hw; simp at hw; done) | (intro h0 hw; obtain rfl:=hz h0 rfl; (try obtain rfl:=hq hw 0 rfl rfl); (try obtain rfl:=hq hw 2 rfl rfl); (try obtain rfl:=hq hw 3 rfl rfl); (try obtain rfl:=hq hw 4 rfl rfl); (try obtain rfl:=hq hw 9 rfl rfl); (try obtain rfl:=hq hw 10 rfl rfl); (try obtain rfl:=hq hw 16 rfl rfl); refine np ?_; simp only[AW,Ab,Ac,A5,C,E,F,G,H,J]; exact ih _ _ _ _ _ _ _ _ _ _)
  ·intro h0 hw;obtain rfl:=hq hw 0 rfl rfl;obtain rfl:=hq hw 2 rfl rfl;obtain rfl:=hq hw 3 rfl rfl;obtain rfl:=hq hw 4 rfl rfl;obtain rfl:=hq hw 17 rfl rfl;refine np ?_;try simp only[AW,Ab,Ac,A5,C,E,F,G,H,J]
   exact qS F_w0 caps_w0 a0 x8 v9 v10 v11 v12 v13 v14 v15 v16 v17 x19 h22 h23 _ b1 b9 b10 b11 b16 L L
theorem Uh(F_w0:FuncId)(caps_w0:P D)(a0:Xa)(x8:P X0)(v9)(v10:X2)(v11)(v12)(v13)(v14)(v15:P X0)(v16:P U)(v17)(x19)(h22:(Aa v15.length ([x19]:P X0).length 48)=T)(h23:(Aa v16.length ([v9]:P U).length 8)=T):∀(f:W) (b0 b1:V) (b2 b3:V) (b4 b9:V) (b10 b11 b12:V),Am Z E2 (Df F_w0 caps_w0 a0 x8 v9 v10 v11 v12 v13 v14 v15 v16 v17 x19) f [b0,b1,b2,b3,b4,T,T,T,T,b9,b10,b11,b12,T,T,L,L,L,L,L,L,L] (AW a0 x8 v9 x19 (vc (.undef)) (vc (.own 90001)) b0 b1 b2 b3 b4 T T T T b9 b10 b11 b12 T T L L L L L [(99999999999,(dm v10.row++ [aL (Y (rL X0.row) v11),.dat (.clo F_w0 caps_w0),.undef,.own 90001,.own 90002,aI v12,aI v13,aB v14])),(5,(dm x19.row))] [(90000,4,Y X0.row (v15++([x19]:P X0))),(90001,1,Y rI v16),(90002,1,Y rI v17),(5504,4,Y X0.row ([x19]:P X0)),(5952,1,Y rI ([v9]:P U))]):=by
 intro f
 induction f with
 | zero=>intro b0 b1 b2 b3 b4 b9 b10 b11 b12 h; simp at h
 | succ f ih=>
  intro b0 b1 b2 b3 b4 b9 b10 b11 b12;refine Aw ⟨?_,?_,?_,?_,?_,?_,?_,?_,?_,?_,?_,?_,?_,?_,?_,?_,?_,?_,?_,?_,?_,?_,⟨⟩⟩<;>try first | (intro h; cases h; done) | (intro _ hw; simp at hw; done) | (intro h0 hw; obtain rfl:=hz h0 rfl; (try obtain rfl:=hq hw 2 rfl rfl); (try obtain rfl:=hq hw 3 rfl rfl); (try obtain rfl:=hq hw 9 rfl rfl); (try obtain rfl:=hq hw 10 rfl rfl); (try obtain rfl:=hq hw 11 rfl rfl); refine np ?_; simp only[AW,Ab,Ac,A5,C,E,F,G,H,J]; exact ih _ _ _ _ _ _ _ _ _)
  ·intro h0 hw;obtain rfl:=hq hw 12 rfl rfl;refine np ?_;try simp only[h23,AW,Ab,Ac,A5,C,E,F,G,H,J]
   exact qT F_w0 caps_w0 a0 x8 v9 v10 v11 v12 v13 v14 v15 v16 v17 x19 h22 h23 _ b0 b1 b2 b3 b4 b9 b10 b11 L L
theorem qU(F_w0:FuncId)(caps_w0:P D)(a0:Xa)(x8:P X0)(v9)(v10:X2)(v11)(v12)(v13)(v14)(v15:P X0)(v16:P U)(v17)(x19)(h22:(Aa v15.length ([x19]:P X0).length 48)=T)(h23:(Aa v16.length ([v9]:P U).length 8)=T):∀(f:W) (b0 b1:V) (b2 b3:V) (b4 b9:V) (b10 b11:V) (b12 b13:V),Am Z E2 (Df F_w0 caps_w0 a0 x8 v9 v10 v11 v12 v13 v14 v15 v16 v17 x19) f [b0,b1,b2,b3,b4,T,T,T,T,b9,b10,b11,b12,b13,L,L,L,L,L,L,L,L] (AW a0 x8 v9 x19 (vc (.undef)) (vc (.own 90001)) b0 b1 b2 b3 b4 T T T T b9 b10 b11 b12 b13 L L L L L L [(99999999999,(dm v10.row++ [aL (Y (rL X0.row) v11),.dat (.clo F_w0 caps_w0),.undef,.own 90001,.own 90002,aI v12,aI v13,aB v14])),(5,(dm x19.row))] [(90000,4,Y X0.row (v15++([x19]:P X0))),(90001,1,Y rI v16),(90002,1,Y rI v17),(5504,4,Y X0.row ([x19]:P X0))]):=by
 intro f
 induction f with
 | zero=>intro b0 b1 b2 b3 b4 b9 b10 b11 b12 b13 h; simp at h
 | succ f ih=>
  intro b0 b1 b2 b3 b4 b9 b10 b11 b12 b13;refine Aw ⟨?_,?_,?_,?_,?_,?_,?_,?_,?_,?_,?_,?_,?_,?_,?_,?_,?_,?_,?_,?_,?_,?_,⟨⟩⟩<;>try first | (intro h; cases h; done) | (intro _ hw; simp at hw; done) | (intro h0 hw; obtain rfl:=hz h0 rfl; (try obtain rfl:=hq hw 2 rfl rfl); (try obtain rfl:=hq hw 3 rfl rfl); (try obtain rfl:=hq hw 9 rfl rfl); (try obtain rfl:=hq hw 10 rfl rfl); (try obtain rfl:=hq hw 11 rfl rfl); refine np ?_; simp only[AW,Ab,Ac,A5,C,E,F,G,H,J]; exact ih _ _ _ _ _ _ _ _ _ _)
  ·intro h0 hw;obtain rfl:=hq hw 13 rfl rfl;refine np ?_;try simp only[AW,Ab,Ac,A5,C,E,F,G,H,J]
   refine CR (es:=Y rI ([v9]:P U)) X (by simp only[St.fresh,zC,zD,Bn]; simp[AV.cells,V1.cells,AC.uses]) ?_;try simp only[A5,C,E,F,G,H,J]
   exact Uh F_w0 caps_w0 a0 x8 v9 v10 v11 v12 v13 v14 v15 v16 v17 x19 h22 h23 _ b0 b1 b2 b3 b4 b9 b10 b11 b12
theorem Ui(F_w0:FuncId)(caps_w0:P D)(a0:Xa)(x8:P X0)(v9)(v10:X2)(v11)(v12)(v13)(v14)(v15:P X0)(v16:P U)(v17)(x19)(h22:(Aa v15.length ([x19]:P X0).length 48)=T)(h23:(Aa v16.length ([v9]:P U).length 8)=T):∀(f:W) (b0 b1:V) (b2 b3:V) (b4 b5:V) (b9 b10:V) (b11 b12:V),Am Z E2 (Df F_w0 caps_w0 a0 x8 v9 v10 v11 v12 v13 v14 v15 v16 v17 x19) f [b0,b1,b2,b3,b4,b5,T,T,L,b9,b10,b11,b12,T,T,L,L,L,L,L,L,L] (AW a0 x8 v9 x19 (vc (.own 90000)) (vc (.own 90001)) b0 b1 b2 b3 b4 b5 T T L b9 b10 b11 b12 T T L L L L L [(99999999999,(dm v10.row++ [aL (Y (rL X0.row) v11),.dat (.clo F_w0 caps_w0),.own 90000,.own 90001,.own 90002,aI v12,aI v13,aB v14])),(5,(dm x19.row))] [(90000,4,Y X0.row v15),(90001,1,Y rI v16),(90002,1,Y rI v17),(5504,4,Y X0.row ([x19]:P X0)),(5952,1,Y rI ([v9]:P U))]):=by
 intro f
 induction f with
 | zero=>intro b0 b1 b2 b3 b4 b5 b9 b10 b11 b12 h; simp at h
 | succ f ih=>
  intro b0 b1 b2 b3 b4 b5 b9 b10 b11 b12;refine Aw ⟨?_,?_,?_,?_,?_,?_,?_,?_,?_,?_,?_,?_,?_,?_,?_,?_,?_,?_,?_,?_,?_,?_,⟨⟩⟩<;>try first | (intro h; cases h; done) | (intro _ hw; simp at hw; done) | (intro h0 hw; obtain rfl:=hz h0 rfl; (try obtain rfl:=hq hw 2 rfl rfl); (try obtain rfl:=hq hw 3 rfl rfl); (try obtain rfl:=hq hw 4 rfl rfl); (try obtain rfl:=hq hw 9 rfl rfl); (try obtain rfl:=hq hw 10 rfl rfl); (try obtain rfl:=hq hw 11 rfl rfl); refine np ?_; simp only[AW,Ab,Ac,A5,C,E,F,G,H,J]; exact ih _ _ _ _ _ _ _ _ _ _)
  ·intro h0 hw;obtain rfl:=hq hw 5 rfl rfl;refine np ?_;try simp only[h22,AW,Ab,Ac,A5,C,E,F,G,H,J]
   exact Uh F_w0 caps_w0 a0 x8 v9 v10 v11 v12 v13 v14 v15 v16 v17 x19 h22 h23 _ b0 b1 b2 b3 b4 b9 b10 b11 b12
theorem qV(F_w0:FuncId)(caps_w0:P D)(a0:Xa)(x8:P X0)(v9)(v10:X2)(v11)(v12)(v13)(v14)(v15:P X0)(v16:P U)(v17)(x19)(h22:(Aa v15.length ([x19]:P X0).length 48)=T)(h23:(Aa v16.length ([v9]:P U).length 8)=T):∀(f:W) (b0 b1:V) (b2 b3:V) (b4 b5:V) (b9 b10:V) (b11 b12 b13:V),Am Z E2 (Df F_w0 caps_w0 a0 x8 v9 v10 v11 v12 v13 v14 v15 v16 v17 x19) f [b0,b1,b2,b3,b4,b5,T,T,L,b9,b10,b11,b12,b13,L,L,L,L,L,L,L,L] (AW a0 x8 v9 x19 (vc (.own 90000)) (vc (.own 90001)) b0 b1 b2 b3 b4 b5 T T L b9 b10 b11 b12 b13 L L L L L L [(99999999999,(dm v10.row++ [aL (Y (rL X0.row) v11),.dat (.clo F_w0 caps_w0),.own 90000,.own 90001,.own 90002,aI v12,aI v13,aB v14])),(5,(dm x19.row))] [(90000,4,Y X0.row v15),(90001,1,Y rI v16),(90002,1,Y rI v17),(5504,4,Y X0.row ([x19]:P X0))]):=by
 intro f
 induction f with
 | zero=>intro b0 b1 b2 b3 b4 b5 b9 b10 b11 b12 b13 h; simp at h
 | succ f ih=>
  intro b0 b1 b2 b3 b4 b5 b9 b10 b11 b12 b13;refine Aw ⟨?_,?_,?_,?_,?_,?_,?_,?_,?_,?_,?_,?_,?_,?_,?_,?_,?_,?_,?_,?_,?_,?_,⟨⟩⟩<;>try first | (intro h; cases h; done) | (intro _ hw; simp at hw; done) | (intro h0 hw; obtain rfl:=hz h0 rfl; (try obtain rfl:=hq hw 2 rfl rfl); (try obtain rfl:=hq hw 3 rfl rfl); (try obtain rfl:=hq hw 4 rfl rfl); (try obtain rfl:=hq hw 9 rfl rfl); (try obtain rfl:=hq hw 10 rfl rfl); (try obtain rfl:=hq hw 11 rfl rfl); refine np ?_; simp only[AW,Ab,Ac,A5,C,E,F,G,H,J]; exact ih _ _ _ _ _ _ _ _ _ _ _)
  ·intro h0 hw;obtain rfl:=hq hw 5 rfl rfl;refine np ?_;try simp only[h22,AW,Ab,Ac,A5,C,E,F,G,H,J]
   exact qU F_w0 caps_w0 a0 x8 v9 v10 v11 v12 v13 v14 v15 v16 v17 x19 h22 h23 _ b0 b1 b2 b3 b4 b9 b10 b11 b12 b13
  ·intro h0 hw;obtain rfl:=hq hw 13 rfl rfl;refine np ?_;try simp only[AW,Ab,Ac,A5,C,E,F,G,H,J]
   refine CR (es:=Y rI ([v9]:P U)) X (by simp only[St.fresh,zC,zD,Bn]; simp[AV.cells,V1.cells,AC.uses]) ?_;try simp only[A5,C,E,F,G,H,J]
   exact Ui F_w0 caps_w0 a0 x8 v9 v10 v11 v12 v13 v14 v15 v16 v17 x19 h22 h23 _ b0 b1 b2 b3 b4 b5 b9 b10 b11 b12
theorem qW(F_w0:FuncId)(caps_w0:P D)(a0:Xa)(x8:P X0)(v9)(v10:X2)(v11)(v12)(v13)(v14)(v15:P X0)(v16:P U)(v17)(x19)(h22:(Aa v15.length ([x19]:P X0).length 48)=T)(h23:(Aa v16.length ([v9]:P U).length 8)=T):∀(f:W) (b0 b1:V) (b2 b3:V) (b4 b5:V) (b6 b9:V) (b10 b11 b12:V),Am Z E2 (Df F_w0 caps_w0 a0 x8 v9 v10 v11 v12 v13 v14 v15 v16 v17 x19) f [b0,b1,b2,b3,b4,b5,b6,L,L,b9,b10,b11,b12,T,T,L,L,L,L,L,L,L] (AW a0 x8 v9 x19 (vc (.own 90000)) (vc (.own 90001)) b0 b1 b2 b3 b4 b5 b6 L L b9 b10 b11 b12 T T L L L L L [(99999999999,(dm v10.row++ [aL (Y (rL X0.row) v11),.dat (.clo F_w0 caps_w0),.own 90000,.own 90001,.own 90002,aI v12,aI v13,aB v14])),(5,(dm x19.row))] [(90000,4,Y X0.row v15),(90001,1,Y rI v16),(90002,1,Y rI v17),(5952,1,Y rI ([v9]:P U))]):=by
 intro f
 induction f with
 | zero=>intro b0 b1 b2 b3 b4 b5 b6 b9 b10 b11 b12 h; simp at h
 | succ f ih=>
  intro b0 b1 b2 b3 b4 b5 b6 b9 b10 b11 b12;refine Aw ⟨?_,?_,?_,?_,?_,?_,?_,?_,?_,?_,?_,?_,?_,?_,?_,?_,?_,?_,?_,?_,?_,?_,⟨⟩⟩<;>try first | (intro h; cases h; done) | (intro _ hw; simp at hw; done) | (intro h0 hw; obtain rfl:=hz h0 rfl; (try obtain rfl:=hq hw 2 rfl rfl); (try obtain rfl:=hq hw 3 rfl rfl); (try obtain rfl:=hq hw 4 rfl rfl); (try obtain rfl:=hq hw 9 rfl rfl); (try obtain rfl:=hq hw 10 rfl rfl); (try obtain rfl:=hq hw 11 rfl rfl); refine np ?_; simp only[AW,Ab,Ac,A5,C,E,F,G,H,J]; exact ih _ _ _ _ _ _ _ _ _ _ _)
  ·intro h0 hw;obtain rfl:=hq hw 6 rfl rfl;refine⟨[],[(O,.keep [0,3,4,5,61,62,63,79,80,81,82,83,84,85,86,87,88,89,90,91,92,93,94,95,96,97,98] [99999999999,5] [90000,90001,90002,5504,5952])],X,X,?_⟩;try simp only[AW,Ab,Ac,zF,zE,A5,C,E,F,G,H,J]
   refine CR (es:=Y X0.row ([x19]:P X0)) X (by simp only[St.fresh,zC,zD,Bn]; simp[AV.cells,V1.cells,AC.uses]) ?_;try simp only[A5,C,E,F,G,H,J]
   exact Ui F_w0 caps_w0 a0 x8 v9 v10 v11 v12 v13 v14 v15 v16 v17 x19 h22 h23 _ b0 b1 b2 b3 b4 b5 b9 b10 b11 b12
theorem qX(F_w0:FuncId)(caps_w0:P D)(a0:Xa)(x8:P X0)(v9)(v10:X2)(v11)(v12)(v13)(v14)(v15:P X0)(v16:P U)(v17)(x19)(h22:(Aa v15.length ([x19]:P X0).length 48)=T)(h23:(Aa v16.length ([v9]:P U).length 8)=T):∀(f:W) (b0 b1:V) (b2 b3:V) (b4 b5:V) (b6 b9:V) (b10 b11:V) (b12 b13:V),Am Z E2 (Df F_w0 caps_w0 a0 x8 v9 v10 v11 v12 v13 v14 v15 v16 v17 x19) f [b0,b1,b2,b3,b4,b5,b6,L,L,b9,b10,b11,b12,b13,L,L,L,L,L,L,L,L] (AW a0 x8 v9 x19 (vc (.own 90000)) (vc (.own 90001)) b0 b1 b2 b3 b4 b5 b6 L L b9 b10 b11 b12 b13 L L L L L L [(99999999999,(dm v10.row++ [aL (Y (rL X0.row) v11),.dat (.clo F_w0 caps_w0),.own 90000,.own 90001,.own 90002,aI v12,aI v13,aB v14])),(5,(dm x19.row))] [(90000,4,Y X0.row v15),(90001,1,Y rI v16),(90002,1,Y rI v17)]):=by
 intro f
 induction f with
 | zero=>intro b0 b1 b2 b3 b4 b5 b6 b9 b10 b11 b12 b13 h; simp at h
 | succ f ih=>
  intro b0 b1 b2 b3 b4 b5 b6 b9 b10 b11 b12 b13;refine Aw ⟨?_,?_,?_,?_,?_,?_,?_,?_,?_,?_,?_,?_,?_,?_,?_,?_,?_,?_,?_,?_,?_,?_,⟨⟩⟩<;>try first | (intro _ hw; simp at hw; done) | (intro h0 hw; obtain rfl:=hz h0 rfl; (try obtain rfl:=hq hw 2 rfl rfl); (try obtain rfl:=hq hw 3 rfl rfl); (try obtain rfl:=hq hw 4 rfl rfl); (try obtain rfl:=hq hw 9 rfl rfl); (try obtain rfl:=hq hw 10 rfl rfl); (try obtain rfl:=hq hw 11 rfl rfl); refine np ?_; simp only[AW,Ab,Ac,A5,C,E,F,G,H,J]; exact ih _ _ _ _ _ _ _ _ _ _ _ _)
  ·intro h0 hw;obtain rfl:=hq hw 6 rfl rfl;refine np ?_;try simp only[AW,Ab,Ac,A5,C,E,F,G,H,J]
   refine CR (es:=Y X0.row ([x19]:P X0)) X (by simp only[St.fresh,zC,zD,Bn]; simp[AV.cells,V1.cells,AC.uses]) ?_;try simp only[A5,C,E,F,G,H,J]
   exact qV F_w0 caps_w0 a0 x8 v9 v10 v11 v12 v13 v14 v15 v16 v17 x19 h22 h23 _ b0 b1 b2 b3 b4 b5 b9 b10 b11 b12 b13
  ·intro h0 hw;obtain rfl:=hq hw 13 rfl rfl;refine np ?_;try simp only[AW,Ab,Ac,A5,C,E,F,G,H,J]
   refine CR (es:=Y rI ([v9]:P U)) X (by simp only[St.fresh,zC,zD,Bn]; simp[AV.cells,V1.cells,AC.uses]) ?_;try simp only[A5,C,E,F,G,H,J]
   exact qW F_w0 caps_w0 a0 x8 v9 v10 v11 v12 v13 v14 v15 v16 v17 x19 h22 h23 _ b0 b1 b2 b3 b4 b5 b6 b9 b10 b11 b12
abbrev Bh(a0:Xa)(x8:P X0)(v9:U)(wo5_ wo11_:AV)(c0_ c1_:V)(c2_ c3_:V)(c4_ c5_:V)(c6_ c7_:V)(c8_ c9_:V)(c10_ c11_:V)(c12_ c13_:V)(c14_ c15_:V)(c17_ c18_:V)(bx_:P (W × P AC))(rs_:Rows):St:=⟨[(0,vc (.pb 99999999999 0)),(3,vc (aI (a0.plan.length:U))),(61,vc (aL (Y X0.row x8))),(62,vc (aI (x8.length:U))),(63,vc (aI v9)),(101,bif c0_ then vc (.pb 99999999999 0) else .undef),(102,bif c1_ then vc (.pb 99999999999 0) else .undef),(103,bif c2_ then vc (.pb 99999999999 0) else .undef),(104,bif c3_ then vc (.pb 99999999999 0) else .undef),(105,bif c4_ then vc (.pb 99999999999 14) else .undef),(106,bif c5_ then wo5_ else .undef),(107,bif c6_ then vc (aI (a0.plan.length:U)) else .undef),(108,bif c7_ then vc (.own 90000) else .undef),(109,bif c8_ then vc (.pb 99999999999 0) else .undef),(110,bif c9_ then vc (.pb 99999999999 0) else .undef),(111,bif c10_ then vc (.pb 99999999999 15) else .undef),(112,bif c11_ then wo11_ else .undef),(113,bif c12_ then vc (aI (a0.plan.length:U)) else .undef),(114,bif c13_ then vc (.own 90001) else .undef),(115,bif c14_ then vc (.pb 99999999999 0) else .undef),(116,bif c15_ then vc (.pb 99999999999 14) else .undef),(117,bif c17_ then vc (.pb 99999999999 0) else .undef),(118,bif c18_ then vc (.pb 99999999999 15) else .undef)],bx_,rs_⟩
abbrev E0(F_w0:FuncId)(caps_w0:P D)(a0:Xa)(x8:P X0)(v9:U)(r24:Xa)(p25 p26:W × W):St:=(Bh a0 x8 v9 (vc (.undef)) (vc (.undef)) T T T T T T T T T T T T T T T T T T [(99999999999,(dm r24.h.row++ [aL (Y (rL X0.row) r24.choices),.dat (.clo F_w0 caps_w0),.own 90000,.own 90001,.own 90002,aI r24.least.i0,aI r24.least.i1,aB r24.found]))] [(90000,4,Y X0.row (r24.plan.take p25.2)),(90001,1,Y rI (r24.choice.take p26.2)),(90002,1,Y rI r24.best)])
theorem qZ(F_w0:FuncId)(caps_w0:P D)(a0:Xa)(x8:P X0)(v9:U)(r24:Xa)(p25)(p26)(h25:bnd (r24.plan.length:U) (a0.plan.length:U) 0 r24.plan.length=N p25)(h26:bnd (r24.choice.length:U) (a0.plan.length:U) 0 r24.choice.length=N p26):∀(f:W) (b17:V),Am Z Fm (E0 F_w0 caps_w0 a0 x8 v9 r24 p25 p26) f [T,T,T,T,T,T,T,T,T,T,T,T,T,T,T,T,T,b17,T,T] (Bh a0 x8 v9 (vc (.undef)) (vc (.undef)) T T T T T T T T T T T T T T T T b17 T [(99999999999,(dm r24.h.row++ [aL (Y (rL X0.row) r24.choices),.dat (.clo F_w0 caps_w0),.own 90000,.own 90001,.own 90002,aI r24.least.i0,aI r24.least.i1,aB r24.found]))] [(90000,4,Y X0.row (r24.plan.take p25.2)),(90001,1,Y rI (r24.choice.take p26.2)),(90002,1,Y rI r24.best)]):=by
 intro f
 induction f with
 | zero=>
  intro b17 h;obtain rfl:b17=T:=zA.1 h b17 (by simp);rfl
 | succ f ih=>
  intro b17;refine Aw ⟨?_,?_,?_,?_,?_,?_,?_,?_,?_,?_,?_,?_,?_,?_,?_,?_,?_,?_,?_,?_,⟨⟩⟩<;>try first | (intro h; cases h; done) | (intro h0 hw; obtain rfl:=hz h0 rfl; refine np ?_; simp only[Bh,Ab,Ac,A5,C,E,F,G,H,J]; exact ih _)
theorem Uj(F_w0:FuncId)(caps_w0:P D)(a0:Xa)(x8:P X0)(v9:U)(r24:Xa)(p25)(p26)(h25:bnd (r24.plan.length:U) (a0.plan.length:U) 0 r24.plan.length=N p25)(h26:bnd (r24.choice.length:U) (a0.plan.length:U) 0 r24.choice.length=N p26):∀(f:W) (b1 b8:V) (b9 b10:V) (b14 b17 b18:V),Am Z Fm (E0 F_w0 caps_w0 a0 x8 v9 r24 p25 p26) f [T,b1,T,T,T,T,T,T,b8,b9,b10,T,T,T,b14,T,T,b17,b18,L] (Bh a0 x8 v9 (vc (.undef)) (vc (.undef)) T b1 T T T T T T b8 b9 b10 T T T b14 T b17 b18 [(99999999999,(dm r24.h.row++ [aL (Y (rL X0.row) r24.choices),.dat (.clo F_w0 caps_w0),.own 90000,.undef,.own 90002,aI r24.least.i0,aI r24.least.i1,aB r24.found]))] [(90000,4,Y X0.row (r24.plan.take p25.2)),(90001,1,Y rI (r24.choice.take p26.2)),(90002,1,Y rI r24.best)]):=by
 intro f
 induction f with
 | zero=>intro b1 b8 b9 b10 b14 b17 b18 h; simp at h
 | succ f ih=>
  intro b1 b8 b9 b10 b14 b17 b18;refine Aw ⟨?_,?_,?_,?_,?_,?_,?_,?_,?_,?_,?_,?_,?_,?_,?_,?_,?_,?_,?_,?_,⟨⟩⟩<;>try first | (intro h; cases h; done) | (intro h0 hw; obtain rfl:=hz h0 rfl; (try obtain rfl:=hq hw 1 rfl rfl); (try obtain rfl:=hq hw 8 rfl rfl); (try obtain rfl:=hq hw 9 rfl rfl); (try obtain rfl:=hq hw 10 rfl rfl); (try obtain rfl:=hq hw 14 rfl rfl); (try obtain rfl:=hq hw 17 rfl rfl); refine np ?_; simp only[Bh,Ab,Ac,A5,C,E,F,G,H,J]; exact ih _ _ _ _ _ _ _)
  ·intro h0 hw;obtain rfl:=hq hw 1 rfl rfl;obtain rfl:=hq hw 8 rfl rfl;obtain rfl:=hq hw 9 rfl rfl;obtain rfl:=hq hw 10 rfl rfl;obtain rfl:=hq hw 14 rfl rfl;obtain rfl:=hq hw 18 rfl rfl;refine np ?_;try simp only[Bh,Ab,Ac,A5,C,E,F,G,H,J]
   exact qZ F_w0 caps_w0 a0 x8 v9 r24 p25 p26 h25 h26 _ b17
theorem Uk(F_w0:FuncId)(caps_w0:P D)(a0:Xa)(x8:P X0)(v9:U)(r24:Xa)(p25)(p26)(h25:bnd (r24.plan.length:U) (a0.plan.length:U) 0 r24.plan.length=N p25)(h26:bnd (r24.choice.length:U) (a0.plan.length:U) 0 r24.choice.length=N p26):∀(f:W) (b0 b1:V) (b2 b3:V) (b4 b8:V) (b9 b10:V) (b14 b15:V),Am Z Fm (E0 F_w0 caps_w0 a0 x8 v9 r24 p25 p26) f [b0,b1,b2,b3,b4,T,T,T,b8,b9,b10,T,T,T,b14,b15,L,L,L,L] (Bh a0 x8 v9 (vc (.undef)) (vc (.undef)) b0 b1 b2 b3 b4 T T T b8 b9 b10 T T T b14 b15 L L [(99999999999,(dm r24.h.row++ [aL (Y (rL X0.row) r24.choices),.dat (.clo F_w0 caps_w0),.undef,.undef,.own 90002,aI r24.least.i0,aI r24.least.i1,aB r24.found]))] [(90000,4,Y X0.row (r24.plan.take p25.2)),(90001,1,Y rI (r24.choice.take p26.2)),(90002,1,Y rI r24.best)]):=by
 intro f
 induction f with
 | zero=>intro b0 b1 b2 b3 b4 b8 b9 b10 b14 b15 h; simp at h
 | succ f ih=>
  intro b0 b1 b2 b3 b4 b8 b9 b10 b14 b15;refine Aw ⟨?_,?_,?_,?_,?_,?_,?_,?_,?_,?_,?_,?_,?_,?_,?_,?_,?_,?_,?_,?_,⟨⟩⟩<;>try first | (intro h; cases h; done) | (intro _ hw; simp at hw; done) | (intro h0 hw; obtain rfl:=hz h0 rfl; (try obtain rfl:=hq hw 0 rfl rfl); (try obtain rfl:=hq hw 2 rfl rfl); (try obtain rfl:=hq hw 3 rfl rfl); (try obtain rfl:=hq hw 4 rfl rfl); (try obtain rfl:=hq hw 8 rfl rfl); (try obtain rfl:=hq hw 9 rfl rfl); (try obtain rfl:=hq hw 14 rfl rfl); refine np ?_; simp only[Bh,Ab,Ac,A5,C,E,F,G,H,J]; exact ih _ _ _ _ _ _ _ _ _ _)
  ·intro h0 hw;obtain rfl:=hq hw 0 rfl rfl;obtain rfl:=hq hw 2 rfl rfl;obtain rfl:=hq hw 3 rfl rfl;obtain rfl:=hq hw 4 rfl rfl;obtain rfl:=hq hw 15 rfl rfl;refine np ?_;try simp only[Bh,Ab,Ac,A5,C,E,F,G,H,J]
   exact Uj F_w0 caps_w0 a0 x8 v9 r24 p25 p26 h25 h26 _ b1 b8 b9 b10 b14 L L
theorem qa(F_w0:FuncId)(caps_w0:P D)(a0:Xa)(x8:P X0)(v9:U)(r24:Xa)(p25)(p26)(h25:bnd (r24.plan.length:U) (a0.plan.length:U) 0 r24.plan.length=N p25)(h26:bnd (r24.choice.length:U) (a0.plan.length:U) 0 r24.choice.length=N p26):∀(f:W) (b1 b8:V) (b9 b10:V) (b12 b14:V),Am Z Fm (E0 F_w0 caps_w0 a0 x8 v9 r24 p25 p26) f [T,b1,T,T,T,T,T,T,b8,b9,b10,T,b12,L,b14,T,T,L,L,L] (Bh a0 x8 v9 (vc (.undef)) (vc (.own 90001)) T b1 T T T T T T b8 b9 b10 T b12 L b14 T L L [(99999999999,(dm r24.h.row++ [aL (Y (rL X0.row) r24.choices),.dat (.clo F_w0 caps_w0),.own 90000,.own 90001,.own 90002,aI r24.least.i0,aI r24.least.i1,aB r24.found]))] [(90000,4,Y X0.row (r24.plan.take p25.2)),(90001,1,Y rI r24.choice),(90002,1,Y rI r24.best)]):=by
 intro f
 induction f with
 | zero=>intro b1 b8 b9 b10 b12 b14 h; simp at h
 | succ f ih=>
  intro b1 b8 b9 b10 b12 b14;refine Aw ⟨?_,?_,?_,?_,?_,?_,?_,?_,?_,?_,?_,?_,?_,?_,?_,?_,?_,?_,?_,?_,⟨⟩⟩<;>try first | (intro h; cases h; done) | (intro _ hw; simp at hw; done) | (intro h0 hw; obtain rfl:=hz h0 rfl; (try obtain rfl:=hq hw 8 rfl rfl); (try obtain rfl:=hq hw 9 rfl rfl); refine np ?_; simp only[Bh,Ab,Ac,A5,C,E,F,G,H,J]; exact ih _ _ _ _ _ _)
  ·intro h0 hw;obtain rfl:=hq hw 12 rfl rfl;refine⟨[],[(O,.cut 114)],X,X,?_⟩;try simp only[Bh,Ab,Ac,zF,zE,A5,C,E,F,G,H,J]
   refine F0 X X h26 (by rfl) ?_;try simp only[A5,C,E,F,G,H,J]
   exact Uj F_w0 caps_w0 a0 x8 v9 r24 p25 p26 h25 h26 _ b1 b8 b9 b10 b14 L L
theorem qb(F_w0:FuncId)(caps_w0:P D)(a0:Xa)(x8:P X0)(v9:U)(r24:Xa)(p25)(p26)(h25:bnd (r24.plan.length:U) (a0.plan.length:U) 0 r24.plan.length=N p25)(h26:bnd (r24.choice.length:U) (a0.plan.length:U) 0 r24.choice.length=N p26):∀(f:W) (b0 b1:V) (b2 b3:V) (b4 b8:V) (b9 b10:V) (b11 b12:V) (b14 b15:V),Am Z Fm (E0 F_w0 caps_w0 a0 x8 v9 r24 p25 p26) f [b0,b1,b2,b3,b4,T,T,T,b8,b9,b10,b11,b12,L,b14,b15,L,L,L,L] (Bh a0 x8 v9 (vc (.undef)) (vc (.own 90001)) b0 b1 b2 b3 b4 T T T b8 b9 b10 b11 b12 L b14 b15 L L [(99999999999,(dm r24.h.row++ [aL (Y (rL X0.row) r24.choices),.dat (.clo F_w0 caps_w0),.undef,.own 90001,.own 90002,aI r24.least.i0,aI r24.least.i1,aB r24.found]))] [(90000,4,Y X0.row (r24.plan.take p25.2)),(90001,1,Y rI r24.choice),(90002,1,Y rI r24.best)]):=by
 intro f
 induction f with
 | zero=>intro b0 b1 b2 b3 b4 b8 b9 b10 b11 b12 b14 b15 h; simp at h
 | succ f ih=>
  intro b0 b1 b2 b3 b4 b8 b9 b10 b11 b12 b14 b15;refine Aw ⟨?_,?_,?_,?_,?_,?_,?_,?_,?_,?_,?_,?_,?_,?_,?_,?_,?_,?_,?_,?_,⟨⟩⟩<;>try first | (intro h; cases h; done) | (intro _ hw; simp at hw; done) | (intro h0 hw; obtain rfl:=hz h0 rfl; (try obtain rfl:=hq hw 0 rfl rfl); (try obtain rfl:=hq hw 2 rfl rfl); (try obtain rfl:=hq hw 3 rfl rfl); (try obtain rfl:=hq hw 4 rfl rfl); (try obtain rfl:=hq hw 8 rfl rfl); (try obtain rfl:=hq hw 9 rfl rfl); (try obtain rfl:=hq hw 10 rfl rfl); (try obtain rfl:=hq hw 11 rfl rfl); (try obtain rfl:=hq hw 14 rfl rfl); refine np ?_; simp only[Bh,Ab,Ac,A5,C,E,F,G,H,J]; exact ih _ _ _ _ _ _ _ _ _ _ _ _)
  ·intro h0 hw;obtain rfl:=hq hw 11 rfl rfl;obtain rfl:=hq hw 12 rfl rfl;refine⟨[],[(O,.cut 114)],X,X,?_⟩;try simp only[Bh,Ab,Ac,zF,zE,A5,C,E,F,G,H,J]
   refine F0 X X h26 (by rfl) ?_;try simp only[A5,C,E,F,G,H,J]
   exact Uk F_w0 caps_w0 a0 x8 v9 r24 p25 p26 h25 h26 _ b0 b1 b2 b3 b4 b8 b9 b10 b14 b15
  ·intro h0 hw;obtain rfl:=hq hw 0 rfl rfl;obtain rfl:=hq hw 2 rfl rfl;obtain rfl:=hq hw 3 rfl rfl;obtain rfl:=hq hw 4 rfl rfl;obtain rfl:=hq hw 11 rfl rfl;obtain rfl:=hq hw 15 rfl rfl;refine np ?_;try simp only[Bh,Ab,Ac,A5,C,E,F,G,H,J]
   exact qa F_w0 caps_w0 a0 x8 v9 r24 p25 p26 h25 h26 _ b1 b8 b9 b10 b12 b14
theorem qc(F_w0:FuncId)(caps_w0:P D)(a0:Xa)(x8:P X0)(v9:U)(r24:Xa)(p25)(p26)(h25:bnd (r24.plan.length:U) (a0.plan.length:U) 0 r24.plan.length=N p25)(h26:bnd (r24.choice.length:U) (a0.plan.length:U) 0 r24.choice.length=N p26):∀(f:W) (b0 b1:V) (b2 b3:V) (b4 b5:V) (b6 b8:V) (b9 b10:V),Am Z Fm (E0 F_w0 caps_w0 a0 x8 v9 r24 p25 p26) f [b0,b1,b2,b3,b4,b5,b6,L,b8,b9,b10,T,T,T,L,L,L,L,L,L] (Bh a0 x8 v9 (vc (.own 90000)) (vc (.undef)) b0 b1 b2 b3 b4 b5 b6 L b8 b9 b10 T T T L L L L [(99999999999,(dm r24.h.row++ [aL (Y (rL X0.row) r24.choices),.dat (.clo F_w0 caps_w0),.own 90000,.undef,.own 90002,aI r24.least.i0,aI r24.least.i1,aB r24.found]))] [(90000,4,Y X0.row r24.plan),(90001,1,Y rI (r24.choice.take p26.2)),(90002,1,Y rI r24.best)]):=by
 intro f
 induction f with
 | zero=>intro b0 b1 b2 b3 b4 b5 b6 b8 b9 b10 h; simp at h
 | succ f ih=>
  intro b0 b1 b2 b3 b4 b5 b6 b8 b9 b10;refine Aw ⟨?_,?_,?_,?_,?_,?_,?_,?_,?_,?_,?_,?_,?_,?_,?_,?_,?_,?_,?_,?_,⟨⟩⟩<;>try first | (intro h; cases h; done) | (intro _ hw; simp at hw; done) | (intro h0 hw; obtain rfl:=hz h0 rfl; (try obtain rfl:=hq hw 2 rfl rfl); (try obtain rfl:=hq hw 3 rfl rfl); (try obtain rfl:=hq hw 4 rfl rfl); (try obtain rfl:=hq hw 8 rfl rfl); (try obtain rfl:=hq hw 9 rfl rfl); refine np ?_; simp only[Bh,Ab,Ac,A5,C,E,F,G,H,J]; exact ih _ _ _ _ _ _ _ _ _ _)
  ·intro h0 hw;obtain rfl:=hq hw 5 rfl rfl;obtain rfl:=hq hw 6 rfl rfl;refine⟨[],[(O,.cut 108)],X,X,?_⟩;try simp only[Bh,Ab,Ac,zF,zE,A5,C,E,F,G,H,J]
   refine F0 X X h25 (by rfl) ?_;try simp only[A5,C,E,F,G,H,J]
   exact Uk F_w0 caps_w0 a0 x8 v9 r24 p25 p26 h25 h26 _ b0 b1 b2 b3 b4 b8 b9 b10 L L
theorem qd(F_w0:FuncId)(caps_w0:P D)(a0:Xa)(x8:P X0)(v9:U)(r24:Xa)(p25)(p26)(h25:bnd (r24.plan.length:U) (a0.plan.length:U) 0 r24.plan.length=N p25)(h26:bnd (r24.choice.length:U) (a0.plan.length:U) 0 r24.choice.length=N p26):∀(f:W) (b0 b1:V) (b2 b3:V) (b4 b5:V) (b6 b8:V) (b9 b10:V) (b11 b12:V),Am Z Fm (E0 F_w0 caps_w0 a0 x8 v9 r24 p25 p26) f [b0,b1,b2,b3,b4,b5,b6,L,b8,b9,b10,b11,b12,L,L,L,L,L,L,L] (Bh a0 x8 v9 (vc (.own 90000)) (vc (.own 90001)) b0 b1 b2 b3 b4 b5 b6 L b8 b9 b10 b11 b12 L L L L L [(99999999999,(dm r24.h.row++ [aL (Y (rL X0.row) r24.choices),.dat (.clo F_w0 caps_w0),.own 90000,.own 90001,.own 90002,aI r24.least.i0,aI r24.least.i1,aB r24.found]))] [(90000,4,Y X0.row r24.plan),(90001,1,Y rI r24.choice),(90002,1,Y rI r24.best)]):=by
 intro f
 induction f with
 | zero=>intro b0 b1 b2 b3 b4 b5 b6 b8 b9 b10 b11 b12 h; simp at h
 | succ f ih=>
  intro b0 b1 b2 b3 b4 b5 b6 b8 b9 b10 b11 b12;refine Aw ⟨?_,?_,?_,?_,?_,?_,?_,?_,?_,?_,?_,?_,?_,?_,?_,?_,?_,?_,?_,?_,⟨⟩⟩<;>try first | (intro _ hw; simp at hw; done) | (intro h0 hw; obtain rfl:=hz h0 rfl; (try obtain rfl:=hq hw 2 rfl rfl); (try obtain rfl:=hq hw 3 rfl rfl); (try obtain rfl:=hq hw 4 rfl rfl); (try obtain rfl:=hq hw 8 rfl rfl); (try obtain rfl:=hq hw 9 rfl rfl); (try obtain rfl:=hq hw 10 rfl rfl); refine np ?_; simp only[Bh,Ab,Ac,A5,C,E,F,G,H,J]; exact ih _ _ _ _ _ _ _ _ _ _ _ _)
  ·intro h0 hw;obtain rfl:=hq hw 5 rfl rfl;obtain rfl:=hq hw 6 rfl rfl;refine⟨[],[(O,.cut 108)],X,X,?_⟩;try simp only[Bh,Ab,Ac,zF,zE,A5,C,E,F,G,H,J]
   refine F0 X X h25 (by rfl) ?_;try simp only[A5,C,E,F,G,H,J]
   exact qb F_w0 caps_w0 a0 x8 v9 r24 p25 p26 h25 h26 _ b0 b1 b2 b3 b4 b8 b9 b10 b11 b12 L L
  ·intro h0 hw;obtain rfl:=hq hw 11 rfl rfl;obtain rfl:=hq hw 12 rfl rfl;refine⟨[],[(O,.cut 114)],X,X,?_⟩;try simp only[Bh,Ab,Ac,zF,zE,A5,C,E,F,G,H,J]
   refine F0 X X h26 (by rfl) ?_;try simp only[A5,C,E,F,G,H,J]
   exact qc F_w0 caps_w0 a0 x8 v9 r24 p25 p26 h25 h26 _ b0 b1 b2 b3 b4 b5 b6 b8 b9 b10
def Wk:=fun F_w0 caps_w0 (a0:Xa) x8 (k_:U→X2→(P (P X0))→U→U→V→(P X0)→(P U)→(P U)→Q Xa)=>∀{v9 v10 v11 v12 v13 v14 v15 v16 v17} {zr},k_ v9 v10 v11 v12 v13 v14 v15 v16 v17=N zr→Kh Z 157 L6 21 [0,3,61,62,63] [99999999999] [90000,90001,90002] ⟨[(0,vc (.pb 99999999999 0)),pI 3 (a0.plan.length:U),pL 61 X0.row x8,pI 62 (x8.length:U),pI 63 v9],[(99999999999,(dm v10.row++ [aM (rL X0.row) v11,.dat (.clo F_w0 caps_w0),.own 90000,.own 90001,.own 90002,aI v12,aI v13,aB v14]))],[(90000,4,Y X0.row v15),(90001,1,Y rI v16),(90002,1,Y rI v17)]⟩ (DE [] [] (Cq F_w0 caps_w0 zr) (Cr zr))
def Wj:=fun F_w0 caps_w0 (a0:Xa) (r1:Xi) (k_:V→Q Xa)=>∀{v5} {zr},k_ v5=N zr→Kh Z 157 L6 8 [0,2] [99999999999,2] [90000,90001,90002] ⟨[(0,vc (.pb 99999999999 0)),pB 2],[(99999999999,(dm a0.h.row++ [aM (rL X0.row) a0.choices,.dat (.clo F_w0 caps_w0),.own 90000,.own 90001,.own 90002,aI a0.least.i0,aI a0.least.i1,aB v5])),(2,[aI r1.i0,aI r1.i1])],[(90000,4,Y X0.row a0.plan),(90001,1,Y rI a0.choice),(90002,1,Y rI a0.best)]⟩ (DE [] [] (Cq F_w0 caps_w0 zr) (Cr zr))
theorem qe{w0:(P X0)→Q Xi}{rec_:Xa→Q Xa}{F_w0 caps_w0}(hF_w0:Bf Z F_w0=T)(h_w0:∀z0 zr,w0 z0=N zr→FC Z F_w0 ([.sc (.sl (Y X0.row z0))]++caps_w0.map .sc) [.ag [.v (.int .i64 zr.i0),.v (.int .i64 zr.i1)]])(h_rec:∀(a0:Xa) zr,rec_ a0=N zr→FCz Z 157 [.p] (Cq F_w0 caps_w0 a0) (Cr a0) (Cq F_w0 caps_w0 zr) (Cr zr) []){a0 x8}{n:W}:Wk F_w0 caps_w0 a0 x8 (I0 w0 rec_ a0 x8 n):=by
 induction n with
 | zero=>intro _ _ _ _ _ _ _ _ _ r h; cases h
 | succ n ih=>
  intro v9 v10 v11 v12 v13 v14 v15 v16 v17 r h σ hσ S hS;refine ev hS ?_;rw[I0] at h;refine AF (An ?_);obtain⟨h18,h⟩|⟨h18,h⟩:=ic h
  ·obtain⟨x19,h19,h⟩:=ob h;try simp only[hσ,h18,h19,C,E,F,G,H,J]
   refine AI ?_;try simp only[h18,h19,C,E,F,G,H,J]
   refine Af ?_;obtain⟨r20,h20,h⟩:=ob h;try simp only[h18,h19,C,E,F,G,H,J]
   refine DN (A6 oT h20) (by first | rfl | kernel_rfl) (BN X) X (uf X) ?_;obtain⟨h21,h⟩|⟨h21,h⟩:=ic h
   ·try simp only[h18,h19,h21,C,E,F,G,H,J]
    obtain⟨h22,h⟩:=Az h;obtain⟨h23,h⟩:=Az h;refine DM (ks:= [0,3,4,5,61,62,63]) (bs:= [99999999999,5]) (rs:= [90000,90001,90002]) (τ:=(Df F_w0 caps_w0 a0 x8 v9 v10 v11 v12 v13 v14 v15 v16 v17 x19)) X (qX F_w0 caps_w0 a0 x8 v9 v10 v11 v12 v13 v14 v15 v16 v17 x19 h22 h23 _ L L L L L L L L L L L L) ?_;simp only[Df,AW,Ab];try simp only[h18,h19,h21,h22,h23,C,E,F,G,H,J]
    refine Ic ?_;obtain⟨r24,h24,h⟩:=ob h;try simp only[h18,h19,h21,h22,h23,C,E,F,G,H,J]
    refine Gm (h_rec _ _ h24) 99999999999 [90000,90001,90002] rfl X X X (by decide) X X X ?_;try simp only[h18,h19,h21,h22,h23,C,E,F,G,H,J]
    obtain⟨p25,h25,h⟩:=ob h;obtain⟨p26,h26,h⟩:=ob h;refine DM (ks:= [0,3,61,62,63]) (bs:= [99999999999]) (rs:= [90000,90001,90002]) (τ:=(E0 F_w0 caps_w0 a0 x8 v9 r24 p25 p26)) X (qd F_w0 caps_w0 a0 x8 v9 r24 p25 p26 h25 h26 _ L L L L L L L L L L L L) ?_;simp only[E0,Bh,Ab];try simp only[h18,h19,h21,h22,h23,C,E,F,G,H,J]
    refine ih h ?_ (by kernel_rfl);try simp only[h18,h19,h21,h22,h23,C,E,F,G,H,J,pL,aM,I]
   ·try simp only[h18,h19,h21,C,E,F,G,H,J]
    refine ih h ?_ (by kernel_rfl);try simp only[h18,h19,h21,C,E,F,G,H,J,pL,aM,I]
  ·try simp only[hσ,h18,C,E,F,G,H,J]
   cases h;exact⟨trivial,[90000,90001,90002],by decide,by decide,X,X⟩
theorem Ul{w0:(P X0)→Q Xi}{rec_:Xa→Q Xa}{F_w0 caps_w0}(hF_w0:Bf Z F_w0=T)(h_w0:∀z0 zr,w0 z0=N zr→FC Z F_w0 ([.sc (.sl (Y X0.row z0))]++caps_w0.map .sc) [.ag [.v (.int .i64 zr.i0),.v (.int .i64 zr.i1)]])(h_rec:∀(a0:Xa) zr,rec_ a0=N zr→FCz Z 157 [.p] (Cq F_w0 caps_w0 a0) (Cr a0) (Cq F_w0 caps_w0 zr) (Cr zr) []){a0 r1}:Wj F_w0 caps_w0 a0 r1 (KF w0 rec_ a0 r1):=by
 intro v5 r h σ hσ S hS;refine ev hS ?_;refine An ?_;unfold KF at h;obtain⟨h6,h⟩|⟨h6,h⟩:=ic h
 ·try simp only[hσ,h6,C,E,F,G,H,J]
  obtain⟨r7,h7,h⟩:=ob h;refine DM (ks:= [0,2]) (bs:= [99999999999,2]) (rs:= [90000,90001,90002]) (τ:=(Fj F_w0 caps_w0 a0 r1 r7)) X (qQ F_w0 caps_w0 a0 r1 v5 r7 h7 _ L L L L L L L L) ?_;simp only[Fj,C3,Ab];try simp only[h6,C,E,F,G,H,J]
  cases h;exact⟨trivial,[90000,90001,3008],by decide,by decide,X,X⟩
 ·obtain⟨x8,h8,h⟩:=ob h;try simp only[hσ,h6,h8,C,E,F,G,H,J]
  refine qe hF_w0 h_w0 h_rec h ?_ (by kernel_rfl);try simp only[h6,h8,C,E,F,G,H,J,pL,aM,I]
theorem al:AB Z 157=N ((By Z 157 L6).strip,[],120):=by kernel_rfl
theorem od(w0:(P X0)→Q Xi)(rec_:Xa→Q Xa)(a0 r:Xa)(F_w0:FuncId)(caps_w0:P D)(hF_w0:Bf Z F_w0=T)(h_w0:∀z0 zr,w0 z0=N zr→FC Z F_w0 ([.sc (.sl (Y X0.row z0))]++caps_w0.map .sc) [.ag [.v (.int .i64 zr.i0),.v (.int .i64 zr.i1)]])(h_rec:∀(a0:Xa) zr,rec_ a0=N zr→FCz Z 157 [.p] (Cq F_w0 caps_w0 a0) (Cr a0) (Cq F_w0 caps_w0 zr) (Cr zr) [])(h:Nt w0 rec_ a0=N r):FCz Z 157 [.p] (Cq F_w0 caps_w0 a0) (Cr a0) (Cq F_w0 caps_w0 r) (Cr r) []:=by
 unfold Nt at h;refine LV (σ:=⟨[(0,vc (.pb 99999999999 0))],[(99999999999,[aI a0.h.Forecast.Tide.Mean,aL (Y Xf.row a0.h.Forecast.Tide.Parts),aL (Y Xb.row a0.h.Forecast.Surges),aL (Y Xd.row a0.h.Chart.Points),aL (Y X6.row a0.h.Chart.Segments),aL (Y X8.row a0.h.Fleet),aI a0.h.Regime.Gap,aB a0.h.Regime.NoMeet,aI a0.h.Crew.Tugs,aI a0.h.Crew.Pilots,aI a0.h.Crew.Rest,aL (Y rI a0.h.Crew.Moves),aL (Y (rL X0.row) a0.choices),.dat (.clo F_w0 caps_w0),.own 90000,.own 90001,.own 90002,aI a0.least.i0,aI a0.least.i1,aB a0.found])],[(90000,4,Y X0.row a0.plan),(90001,1,Y rI a0.choice),(90002,1,Y rI a0.best)]⟩) mixed al X X X X ?_;refine BG L6 ?_;intro S hS;refine ev hS ?_;try simp only[C,E,F,G,H,J]
 refine Af ?_;obtain⟨r1,h1,h⟩:=ob h;try simp only[C,E,F,G,H,J]
 refine dW (h_w0 _ _ h1) hF_w0 (by first | rfl | kernel_rfl) (by first | rfl | kernel_rfl) (BN X) X (uf X) ?_;try simp only[C,E,F,G,H,J]
 refine Qz (m:= .box 2 [aI (0:U),aI (0:U)]) X X (Lt X X) ?_;try simp only[C,E,F,G,H,J]
 refine Af ?_;try simp only[C,E,F,G,H,J]
 refine Af ?_;obtain⟨h2,h⟩|⟨h2,h⟩:=ic h
 ·obtain⟨r3,h3,h⟩:=ob h;try simp only[h2,C,E,F,G,H,J]
  refine AR (A6 oq h3) ?_;obtain⟨h4,h⟩|⟨h4,h⟩:=ic h
  ·try simp only[h2,h4,C,E,F,G,H,J]
   refine Ul hF_w0 h_w0 h_rec h ?_ (by kernel_rfl);try simp only[h2,h4,C,E,F,G,H,J,pL,aM,I]
  ·try simp only[h2,h4,C,E,F,G,H,J]
   cases h;exact⟨trivial,[90000,90001,90002],by decide,by decide,X,X⟩
 ·try simp only[h2,C,E,F,G,H,J]
  refine Ul hF_w0 h_w0 h_rec h ?_ (by kernel_rfl);try simp only[h2,C,E,F,G,H,J,pL,aM,I]
theorem oe(w0:(P X0)→Q Xi)(F_w0:FuncId)(caps_w0:P D)(hF_w0:Bf Z F_w0=T)(h_w0:∀z0 zr,w0 z0=N zr→FC Z F_w0 ([.sc (.sl (Y X0.row z0))]++caps_w0.map .sc) [.ag [.v (.int .i64 zr.i0),.v (.int .i64 zr.i1)]]):∀(n:W) (a0 r:Xa),I1 w0 n a0=N r→FCz Z 157 [.p] (Cq F_w0 caps_w0 a0) (Cr a0) (Cq F_w0 caps_w0 r) (Cr r) []:=by
 intro n
 induction n with
 | zero=>intro _ r h; cases h
 | succ n ih=>intro a0 r h; rw[I1] at h; exact od w0 (I1 w0 n) a0 r F_w0 caps_w0 hF_w0 h_w0 ih h
theorem oc{w0}{a0}{r}(F_w0:FuncId)(caps_w0:P D)(hF_w0:Bf Z F_w0=T)(h_w0:∀z0 zr,w0 z0=N zr→FC Z F_w0 ([.sc (.sl (Y X0.row z0))]++caps_w0.map .sc) [.ag [.v (.int .i64 zr.i0),.v (.int .i64 zr.i1)]])(h:Qa w0 a0=N r):FCz Z 157 [.p] (Cq F_w0 caps_w0 a0) (Cr a0) (Cq F_w0 caps_w0 r) (Cr r) []:=oe w0 F_w0 caps_w0 hF_w0 h_w0 bigN a0 r h
def UB:P (P W × AItem):= [([],(O,.mv 17 (S 9))),([0],(O,.nilc 18 (S 17))),([1],(O,.faddr 19 (S 18) 16)),([2],(O,.load 20 (S 19) L 1)),([],(O,.mv 21 (S 9))),([4],(O,.nilc 22 (S 21))),([5],(O,.faddr 23 (S 22) 17)),([6],(O,.load 24 (S 23) T 2)),([],(O,.mv 25 (S 9))),([8],(O,.nilc 26 (S 25))),([9],(O,.faddr 27 (S 26) 19)),([10],(O,.load 28 (S 27) L 1)),([3,0,1,2,3],(O,.mv 6 (S 20))),([7,12,0,1,2,3,4,5,6,7,12],(O,.store (S 7) (S 24) 2)),([11,13,0,1,2,3,4,5,6,7,8,9,10,11,12,13],(O,.mv 8 (S 28)))]
def eg:Hw:=([],[(3,5,(O,.ownb 14 14 143232 4)),(3,6,(O,.ownb 14 15 143296 1)),(3,7,(O,.ownb 14 16 143360 1))])
abbrev Fe(r1:Xa)(c0_ c1_:V)(c2_ c3_:V)(c4_ c5_:V)(c6_ c7_:V)(c8_ c9_:V)(c10_ c11_:V)(c12_ c14_:V)(bx_:P (W × P AC))(rs_:Rows):St:=⟨[(7,vc (.pb 7 0)),(9,vc (.pb 14 0)),(17,bif c0_ then vc (.pb 14 0) else .undef),(18,bif c1_ then vc (.pb 14 0) else .undef),(19,bif c2_ then vc (.pb 14 16) else .undef),(20,bif c3_ then vc (.own 143360) else .undef),(21,bif c4_ then vc (.pb 14 0) else .undef),(22,bif c5_ then vc (.pb 14 0) else .undef),(23,bif c6_ then vc (.pb 14 17) else .undef),(24,bif c7_ then va [aI r1.least.i0,aI r1.least.i1] else .undef),(25,bif c8_ then vc (.pb 14 0) else .undef),(26,bif c9_ then vc (.pb 14 0) else .undef),(27,bif c10_ then vc (.pb 14 19) else .undef),(28,bif c11_ then vc (aB r1.found) else .undef),(6,bif c12_ then vc (.own 143360) else .undef),(8,bif c14_ then vc (aB r1.found) else .undef)],bx_,rs_⟩
abbrev LN(F_a2:FuncId)(caps_a2:P D)(r1:Xa):St:=(Fe r1 T T T T T T T T T T T T T T [(7,[aI r1.least.i0,aI r1.least.i1]),(14,(dm r1.h.row++ [aL (Y (rL X0.row) r1.choices),.dat (.clo F_a2 caps_a2),.own 143232,.own 143296,.own 143360,aI r1.least.i0,aI r1.least.i1,aB r1.found]))] [(143232,4,Y X0.row r1.plan),(143296,1,Y rI r1.choice),(143360,1,Y rI r1.best)])
theorem qf(F_a2:FuncId)(caps_a2:P D)(r1:Xa):∀(f:W) (b8 b9:V) (b10 b11 b14:V),Am Z UB (LN F_a2 caps_a2 r1) f [T,T,T,T,T,T,T,T,b8,b9,b10,b11,T,T,b14] (Fe r1 T T T T T T T T b8 b9 b10 b11 T b14 [(7,[aI r1.least.i0,aI r1.least.i1]),(14,(dm r1.h.row++ [aL (Y (rL X0.row) r1.choices),.dat (.clo F_a2 caps_a2),.own 143232,.own 143296,.own 143360,aI r1.least.i0,aI r1.least.i1,aB r1.found]))] [(143232,4,Y X0.row r1.plan),(143296,1,Y rI r1.choice),(143360,1,Y rI r1.best)]):=by
 intro f
 induction f with
 | zero=>
  intro b8 b9 b10 b11 b14 h;obtain rfl:b8=T:=zA.1 h b8 (by simp);obtain rfl:b9=T:=zA.1 h b9 (by simp);obtain rfl:b10=T:=zA.1 h b10 (by simp);obtain rfl:b11=T:=zA.1 h b11 (by simp);obtain rfl:b14=T:=zA.1 h b14 (by simp);rfl
 | succ f ih=>
  intro b8 b9 b10 b11 b14;refine Aw ⟨?_,?_,?_,?_,?_,?_,?_,?_,?_,?_,?_,?_,?_,?_,?_,⟨⟩⟩<;>try first | (intro h; cases h; done) | (intro h0 hw; obtain rfl:=hz h0 rfl; (try obtain rfl:=hq hw 8 rfl rfl); (try obtain rfl:=hq hw 9 rfl rfl); (try obtain rfl:=hq hw 10 rfl rfl); (try obtain rfl:=hq hw 11 rfl rfl); refine np ?_; simp only[Fe,Ab,Ac,A5,C,E,F,G,H,J]; exact ih _ _ _ _ _)
theorem qg(F_a2:FuncId)(caps_a2:P D)(r1:Xa):∀(f:W) (b0 b1:V) (b2 b3:V) (b4 b5:V) (b6 b7:V) (b8 b9:V) (b10 b11 b12:V),Am Z UB (LN F_a2 caps_a2 r1) f [b0,b1,b2,b3,b4,b5,b6,b7,b8,b9,b10,b11,b12,L,L] (Fe r1 b0 b1 b2 b3 b4 b5 b6 b7 b8 b9 b10 b11 b12 L [(7,[aI (0:U),aI (0:U)]),(14,(dm r1.h.row++ [aL (Y (rL X0.row) r1.choices),.dat (.clo F_a2 caps_a2),.own 143232,.own 143296,.own 143360,aI r1.least.i0,aI r1.least.i1,aB r1.found]))] [(143232,4,Y X0.row r1.plan),(143296,1,Y rI r1.choice),(143360,1,Y rI r1.best)]):=by
 intro f
 induction f with
 | zero=>intro b0 b1 b2 b3 b4 b5 b6 b7 b8 b9 b10 b11 b12 h; simp at h
 | succ f ih=>
  intro b0 b1 b2 b3 b4 b5 b6 b7 b8 b9 b10 b11 b12;refine Aw ⟨?_,?_,?_,?_,?_,?_,?_,?_,?_,?_,?_,?_,?_,?_,?_,⟨⟩⟩<;>try first | (intro _ hw; simp at hw; done) | (intro h0 hw; obtain rfl:=hz h0 rfl; (try obtain rfl:=hq hw 0 rfl rfl); (try obtain rfl:=hq hw 1 rfl rfl); (try obtain rfl:=hq hw 2 rfl rfl); (try obtain rfl:=hq hw 3 rfl rfl); (try obtain rfl:=hq hw 4 rfl rfl); (try obtain rfl:=hq hw 5 rfl rfl); (try obtain rfl:=hq hw 6 rfl rfl); (try obtain rfl:=hq hw 8 rfl rfl); (try obtain rfl:=hq hw 9 rfl rfl); (try obtain rfl:=hq hw 10 rfl rfl); refine np ?_; simp only[Fe,Ab,Ac,A5,C,E,F,G,H,J]; exact ih _ _ _ _ _ _ _ _ _ _ _ _ _)
  ·intro h0 hw;obtain rfl:=hq hw 0 rfl rfl;obtain rfl:=hq hw 1 rfl rfl;obtain rfl:=hq hw 2 rfl rfl;obtain rfl:=hq hw 3 rfl rfl;obtain rfl:=hq hw 4 rfl rfl;obtain rfl:=hq hw 5 rfl rfl;obtain rfl:=hq hw 6 rfl rfl;obtain rfl:=hq hw 7 rfl rfl;obtain rfl:=hq hw 12 rfl rfl;refine np ?_;try simp only[Fe,Ab,Ac,A5,C,E,F,G,H,J]
   exact qf F_a2 caps_a2 r1 _ b8 b9 b10 b11 L
theorem oW{a0}{a1}{a2}{r}(F_a2:FuncId)(caps_a2:P D)(hF_a2:Bf Z F_a2=T)(h_a2:∀z0 zr,a2 z0=N zr→FC Z F_a2 ([.sc (.sl (Y X0.row z0))]++caps_a2.map .sc) [.ag [.v (.int .i64 zr.i0),.v (.int .i64 zr.i1)]])(h:HV a0 a1 a2=N r):FC Z 118 [.ag (X2.row a0),.sc (.sl (Y (rL X0.row) a1)),.sc (.clo F_a2 caps_a2)] [.sc (.o 1 (Y rI r.1)),.ag [.v (.int .i64 r.2.1.i0),.v (.int .i64 r.2.1.i1)],.sc (.v (.bool r.2.2))]:=by
 unfold HV at h;refine A2 mixed eg [6,.c 7 T 2,8] 29 ?_;intro S hS;refine ev hS ?_;simp only[C,E,F,G,H,J];try simp only[C,E,F,G,H,J]
 refine BA ?_;try simp only[C,E,F,G,H,J]
 refine AI ?_;try simp only[C,E,F,G,H,J]
 refine BA ?_;try simp only[C,E,F,G,H,J]
 refine Dp (cs':= [aI a0.Forecast.Tide.Mean,aL (Y Xf.row a0.Forecast.Tide.Parts),aL (Y Xb.row a0.Forecast.Surges),aL (Y Xd.row a0.Chart.Points),aL (Y X6.row a0.Chart.Segments),aL (Y X8.row a0.Fleet),aI a0.Regime.Gap,aB a0.Regime.NoMeet,aI a0.Crew.Tugs,aI a0.Crew.Pilots,aI a0.Crew.Rest,aL (Y rI a0.Crew.Moves),aL (Y (rL X0.row) a1),.dat (.clo F_a2 caps_a2),.own 143232,.nil,.nil,aI (0:U),aI (0:U),aB L]) X X X X ?_;try simp only[C,E,F,G,H,J]
 refine Dp (cs':= [aI a0.Forecast.Tide.Mean,aL (Y Xf.row a0.Forecast.Tide.Parts),aL (Y Xb.row a0.Forecast.Surges),aL (Y Xd.row a0.Chart.Points),aL (Y X6.row a0.Chart.Segments),aL (Y X8.row a0.Fleet),aI a0.Regime.Gap,aB a0.Regime.NoMeet,aI a0.Crew.Tugs,aI a0.Crew.Pilots,aI a0.Crew.Rest,aL (Y rI a0.Crew.Moves),aL (Y (rL X0.row) a1),.dat (.clo F_a2 caps_a2),.own 143232,.own 143296,.nil,aI (0:U),aI (0:U),aB L]) X X X X ?_;try simp only[C,E,F,G,H,J]
 refine Dp (cs':= [aI a0.Forecast.Tide.Mean,aL (Y Xf.row a0.Forecast.Tide.Parts),aL (Y Xb.row a0.Forecast.Surges),aL (Y Xd.row a0.Chart.Points),aL (Y X6.row a0.Chart.Segments),aL (Y X8.row a0.Fleet),aI a0.Regime.Gap,aB a0.Regime.NoMeet,aI a0.Crew.Tugs,aI a0.Crew.Pilots,aI a0.Crew.Rest,aL (Y rI a0.Crew.Moves),aL (Y (rL X0.row) a1),.dat (.clo F_a2 caps_a2),.own 143232,.own 143296,.own 143360,aI (0:U),aI (0:U),aB L]) X X X X ?_;try simp only[C,E,F,G,H,J]
 refine Ic ?_;obtain⟨r1,h1,h⟩:=ob h;try simp only[C,E,F,G,H,J]
 refine Gm (oc F_a2 caps_a2 hF_a2 h_a2 h1) 14 [143232,143296,143360] rfl X X X (by decide) X X X ?_;try simp only[C,E,F,G,H,J]
 refine DM (ks:= [7,9]) (bs:= [7,14]) (rs:= [143232,143296,143360]) (τ:=(LN F_a2 caps_a2 r1)) X (qg F_a2 caps_a2 r1 _ L L L L L L L L L L L L L) ?_;simp only[LN,Fe,Ab];try simp only[C,E,F,G,H,J]
 cases h;try simp only[D0,C,E,F,G,H,J]
 trivial
def QN:Hw:=([(8,[3,6,7,8],[],[])],[])
def Vd:=fun a0 (k_:U→U→Q U)=>∀{v1 v2} {zr},k_ v1 v2=N zr→Kh Z 158 QN 8 [3,6,7,8] [] [] ⟨[pI 3 v1,pL 6 X0.row a0,pI 7 (a0.length:U),pI 8 v2],[],[]⟩ (A4 [2] [.sc (.v (.int .i64 zr))])
theorem qh{a0}{n:W}:Vd a0 (JE a0 n):=by
 induction n with
 | zero=>intro _ _ r h; cases h
 | succ n ih=>
  intro v1 v2 r h σ hσ;rw[JE] at h;exact gc
instance tV:Ct 158 (∀{a0} {r},MK a0=N r→FC Z 158 [.sc (.sl (Y X0.row a0))] [.sc (.v (.int .i64 r))]):=by
 refine⟨fun h=> ?_⟩;unfold MK at h;refine A2 mixed QN [2] 18 ?_;have k0:= @qh;exact gc
theorem oL{a0}{r}(h:HJ a0=N r):FC Z 120 [.sc (.sl (Y X0.row a0))] [.ag [.v (.int .i64 r.i0),.v (.int .i64 r.i1)]]:=by
 unfold HJ at h;refine A2 mixed h0 [.c 2 T 2] 6 ?_;exact gc
instance nO:Ct 81 (∀{a0} {a1} {r},D6 a0 a1=N r→FC Z 81 [.ag (X2.row a0),.sc (.sl (Y X4.row a1))] [.sc (.o 1 (Y rI r.1)),.sc (.v (.int .i64 r.2.1)),.sc (.v (.bool r.2.2))]):=by
 refine⟨fun{a0} {a1} {r} h=> ?_⟩;unfold D6 at h;refine A2 mixed h0 [4,5,6] 27 ?_;intro S hS;refine ev hS ?_;simp only[C,E,F,G,H,J];try simp only[C,E,F,G,H,J]
 refine BA ?_;obtain⟨r1,h1,h⟩:=ob h;try simp only[C,E,F,G,H,J]
 refine Ai (A6 TX h1) ?_;obtain⟨h2,h⟩|⟨h2,h⟩:=ic h
 ·try simp only[h2,C,E,F,G,H,J]
  refine Af ?_;obtain⟨r3,h3,h⟩:=ob h;try simp only[h2,C,E,F,G,H,J]
  refine AR (A6 oK h3) ?_;obtain⟨r4,h4,h⟩:=ob h;try simp only[h2,C,E,F,G,H,J]
  refine DN (oW 120 [] (by kernel_rfl) (fun z0 zr zh=>oL zh) h4) (by first | rfl | kernel_rfl) (D9 X ⟨Da,X,X,X,⟨⟩⟩) X (uf X) ?_;try simp only[h2,C,E,F,G,H,J]
  refine Qz (m:= .box 8 [aI (0:U),aI (0:U)]) X X (Lt X X) ?_;try simp only[h2,C,E,F,G,H,J]
  refine Af ?_;try simp only[h2,C,E,F,G,H,J]
  refine Af ?_;try simp only[h2,C,E,F,G,H,J]
  cases h;trivial
 ·try simp only[h2,C,E,F,G,H,J]
  cases h;trivial
def QO:Hw:=([(14,[1,12,13,14],[],[])],[])
def Vv:=fun a1 (k_:U→Q V)=>∀{v2} {zr},k_ v2=N zr→Kh Z 159 QO 14 [1,12,13,14] [] [] ⟨[pL 1 rI a1,pL 12 rI a1,pI 13 (a1.length:U),pI 14 v2],[],[]⟩ (A4 [4] [.sc (.v (.bool zr))])
theorem qi{a1}{n:W}:Vv a1 (JT a1 n):=by
 induction n with
 | zero=>intro _ r h; cases h
 | succ n ih=>
  intro v2 r h σ hσ;rw[JT] at h;exact gc
instance tu:Ct 159 (∀{a0} {a1} {r},JS a0 a1=N r→FC Z 159 [.sc (.sl (Y X4.row a0)),.sc (.sl (Y rI a1))] [.sc (.v (.bool r))]):=by
 refine⟨fun h=> ?_⟩;unfold JS at h;refine A2 mixed QO [4] 33 ?_;have k0:= @qi;exact gc
def NR:Hw:=([(8,[0,3,6,7,8],[],[]),(21,[0,3,4,6,7,8,24],[],[])],[])
def V3:=fun a0 v1 v2 (k_:V→Q U)=>∀{v7} {zr},k_ v7=N zr→Kh Z 192 NR 21 [0,3,4,6,7,8,24] [] [] ⟨[pL 0 X0.row a0,pI 3 v1,pI 4 v2,pL 6 X0.row a0,pI 7 (a0.length:U),pI 8 v2,(24,vc (aB v7))],[],[]⟩ (A4 [2] [.sc (.v (.int .i64 zr))])
def Pc:=fun a0 (k_:U→U→Q U)=>∀{v1 v2} {zr},k_ v1 v2=N zr→Kh Z 192 NR 8 [0,3,6,7,8] [] [] ⟨[pL 0 X0.row a0,pI 3 v1,pL 6 X0.row a0,pI 7 (a0.length:U),pI 8 v2],[],[]⟩ (A4 [2] [.sc (.v (.int .i64 zr))])
theorem Um{a0 v1 v2}{Io}(en:Pc a0 Io):V3 a0 v1 v2 (Jy a0 v1 v2 Io):=by
 intro v7 r h σ hσ;unfold Jy at h;have k0:= @en;exact gc
theorem qj{a0}{n:W}:Pc a0 (Ha a0 n):=by
 induction n with
 | zero=>intro _ _ r h; cases h
 | succ n ih=>
  intro v1 v2 r h σ hσ S hS;refine ev hS ?_;rw[Ha] at h;refine AF (An ?_);obtain⟨h3,h⟩|⟨h3,h⟩:=ic h
  ·obtain⟨x4,h4,h⟩:=ob h;try simp only[hσ,h3,h4,C,E,F,G,H,J]
   refine AI ?_;try simp only[h3,h4,C,E,F,G,H,J]
   refine Af ?_;obtain⟨h5,h⟩|⟨h5,h⟩:=ic h
   ·try simp only[h3,h4,h5,C,E,F,G,H,J]
    refine Um ih h ?_ (by kernel_rfl);try simp only[h3,h4,h5,C,E,F,G,H,J,pL,aM,I]
   ·obtain⟨x6,h6,h⟩:=ob h;try simp only[h3,h4,h5,h6,C,E,F,G,H,J]
    refine Um ih h ?_ (by kernel_rfl);try simp only[h3,h4,h5,h6,C,E,F,G,H,J,pL,aM,I]
  ·try simp only[hσ,h3,C,E,F,G,H,J]
   cases h;exact t0
instance nU:Ct 192 (∀{a0} {r},Jx a0=N r→FC Z 192 [.sc (.sl (Y X0.row a0))] [.sc (.v (.int .i64 r))]):=by
 refine⟨fun h=> ?_⟩;unfold Jx at h;refine A2 mixed NR [2] 28 ?_;have k0:= @qj;exact gc
instance nh:Ct 160 (∀{a0} {a1} {r},Hh a0 a1=N r→FC Z 160 [.ag (X2.row a0),.ag (X4.row a1)] [.sc (.v (.int .i64 r))]):=by
 refine⟨fun{a0} {a1} {r} h=> ?_⟩;unfold Hh at h;refine A2 mixed h0 [4] 18 ?_;intro S hS;refine ev hS ?_;simp only[C,E,F,G,H,J];try simp only[C,E,F,G,H,J]
 refine BA ?_;try simp only[C,E,F,G,H,J]
 refine BA ?_;obtain⟨r1,h1,h⟩:=ob h;try simp only[C,E,F,G,H,J]
 refine Ai (A6 ON h1) ?_;obtain⟨h2,h⟩|⟨h2,h⟩:=ic h
 ·try simp only[h2,C,E,F,G,H,J]
  cases h;exact t0
 ·obtain⟨r3,h3,h⟩:=ob h;try simp only[h2,C,E,F,G,H,J]
  refine Db (A6 nU h3) X (BN X) X (uf X) ?_;obtain⟨x4,h4,h⟩:=ob h;have h4n:=Ah h4;try simp only[h2,h4,h4n,C,E,F,G,H,J]
  cases h;exact t0
def L7:Hw:=([(8,[3,5,7,15,16,17],[3,5],[960]),(22,[3,5,7,9,15,16,17,23,24,25],[3,5,9],[960,1472]),(37,[3,5,7,9,12,15,16,17,23,24,25,52],[3,5,9],[960,1472])],[])
def Vz:=fun v7 r1 v3 r6 v8 (a0:X2) (a2:X4) (x5:X0) (k_:U→V→Q U)=>∀{v15 v16} {zr},k_ v15 v16=N zr→Kh Z 161 L7 37 [3,5,7,9,12,15,16,17,23,24,25,52] [3,5,9] [960,1472] ⟨[pB 3,pB 5,pI 7 v7,pB 9,pI 12 v15,pW 15 960,pI 16 (r1.length:U),pI 17 v3,pW 23 1472,pI 24 (r6.length:U),pI 25 v8,(52,vc (aB v16))],[(3,(dm a0.row)),(5,(dm a2.row)),(9,(dm x5.row))],[(960,4,Y X0.row r1),(1472,4,Y X0.row r6)]⟩ (A4 [6] [.sc (.v (.int .i64 zr))])
def Pf:=fun r1 v3 r6 (a0:X2) (a2:X4) (x5:X0) (k_:U→U→Q U)=>∀{v7 v8} {zr},k_ v7 v8=N zr→Kh Z 161 L7 22 [3,5,7,9,15,16,17,23,24,25] [3,5,9] [960,1472] ⟨[pB 3,pB 5,pI 7 v7,pB 9,pW 15 960,pI 16 (r1.length:U),pI 17 v3,pW 23 1472,pI 24 (r6.length:U),pI 25 v8],[(3,(dm a0.row)),(5,(dm a2.row)),(9,(dm x5.row))],[(960,4,Y X0.row r1),(1472,4,Y X0.row r6)]⟩ (A4 [6] [.sc (.v (.int .i64 zr))])
def Pe:=fun r1 (a0:X2) (a2:X4) (k_:U→U→Q U)=>∀{v2 v3} {zr},k_ v2 v3=N zr→Kh Z 161 L7 8 [3,5,7,15,16,17] [3,5] [960] ⟨[pB 3,pB 5,pI 7 v2,pW 15 960,pI 16 (r1.length:U),pI 17 v3],[(3,(dm a0.row)),(5,(dm a2.row))],[(960,4,Y X0.row r1)]⟩ (A4 [6] [.sc (.v (.int .i64 zr))])
theorem OU{v7 r1 v3 r6 v8 a0 a2 x5}{Ip}(eu:Pf r1 v3 r6 a0 a2 x5 Ip):Vz v7 r1 v3 r6 v8 a0 a2 x5 (Hr v7 r1 v3 r6 v8 a0 a2 x5 Ip):=by
 intro v15 v16 r h σ hσ;unfold Hr at h;have k0:= @eu;exact gc
theorem ql{r1 v3 r6 a0 a2 x5}{F2}(er:Pe r1 a0 a2 F2){n:W}:Pf r1 v3 r6 a0 a2 x5 (FV r1 v3 r6 a0 a2 x5 F2 n):=by
 induction n with
 | zero=>intro _ _ r h; cases h
 | succ n ih=>
  intro v7 v8 r h σ hσ S hS;refine ev hS ?_;rw[FV] at h;refine AF (An ?_);obtain⟨h9,h⟩|⟨h9,h⟩:=ic h
  ·obtain⟨x10,h10,h⟩:=ob h;have h10n:=Ah h10;try simp only[hσ,h9,h10,h10n,C,E,F,G,H,J]
   refine AI ?_;obtain⟨h11,h⟩|⟨h11,h⟩:=ic h
   ·obtain⟨r12,h12,h⟩:=ob h;try simp only[h9,h10,h10n,h11,C,E,F,G,H,J]
    refine Ai (A6 OO h12) ?_;try simp only[h9,h10,h10n,h11,C,E,F,G,H,J]
    refine OU ih h ?_ (by kernel_rfl);try simp only[h9,h10,h10n,h11,C,E,F,G,H,J,pL,aM,I]
   ·obtain⟨h13,h⟩|⟨h13,h⟩:=ic h
    ·obtain⟨r14,h14,h⟩:=ob h;try simp only[h9,h10,h10n,h11,h13,C,E,F,G,H,J]
     refine Ai (A6 OO h14) ?_;try simp only[h9,h10,h10n,h11,h13,C,E,F,G,H,J]
     refine OU ih h ?_ (by kernel_rfl);try simp only[h9,h10,h10n,h11,h13,C,E,F,G,H,J,pL,aM,I]
    ·try simp only[h9,h10,h10n,h11,h13,C,E,F,G,H,J]
     refine OU ih h ?_ (by kernel_rfl);try simp only[h9,h10,h10n,h11,h13,C,E,F,G,H,J,pL,aM,I]
  ·try simp only[hσ,h9,C,E,F,G,H,J]
   refine er h ?_ (by kernel_rfl);try simp only[h9,C,E,F,G,H,J,pL,aM,I]
theorem qm{r1 a0 a2}{n:W}:Pe r1 a0 a2 (JZ r1 a0 a2 n):=by
 induction n with
 | zero=>intro _ _ r h; cases h
 | succ n ih=>
  intro v2 v3 r h σ hσ S hS;refine ev hS ?_;rw[JZ] at h;refine AF (An ?_);obtain⟨h4,h⟩|⟨h4,h⟩:=ic h
  ·obtain⟨x5,h5,h⟩:=ob h;have h5n:=Ah h5;try simp only[hσ,h4,h5,h5n,C,E,F,G,H,J]
   refine AI ?_;obtain⟨r6,h6,h⟩:=ob h;try simp only[h4,h5,h5n,C,E,F,G,H,J]
   refine Ai (A6 ON h6) ?_;try simp only[h4,h5,h5n,C,E,F,G,H,J]
   refine ql ih h ?_ (by kernel_rfl);try simp only[h4,h5,h5n,C,E,F,G,H,J,pL,aM,I]
  ·try simp only[hσ,h4,C,E,F,G,H,J]
   cases h;exact t0
instance nn:Ct 161 (∀{a0} {a1} {a2} {r},MT a0 a1 a2=N r→FC Z 161 [.ag (X2.row a0),.ag (X4.row a1),.ag (X4.row a2)] [.sc (.v (.int .i64 r))]):=by
 refine⟨fun h=> ?_⟩;unfold MT at h;refine A2 mixed L7 [6] 57 ?_;have k0:= @qm;exact gc
def L8:Hw:=([(5,[1,2,3,21],[3],[]),(16,[1,3,8,22,23,24],[3],[]),(40,[1,3,8,11,22,23,24],[3],[])],[])
def UV:=fun a1 v6 a2 v7 (a0:X2) (k_:U→Q (U × V))=>∀{v17} {zr},k_ v17=N zr→Kh Z 123 L8 40 [1,3,8,11,22,23,24] [3] [] ⟨[pL 1 X4.row a1,pB 3,pI 8 v6,pI 11 v17,pL 22 rI a2,pI 23 (a2.length:U),pI 24 v7],[(3,(dm a0.row))],[]⟩ (A4 [6,7] [.sc (.v (.int .i64 zr.1)),.sc (.v (.bool zr.2))])
def P7:=fun a1 a2 (a0:X2) (k_:U→U→Q (U × V))=>∀{v6 v7} {zr},k_ v6 v7=N zr→Kh Z 123 L8 16 [1,3,8,22,23,24] [3] [] ⟨[pL 1 X4.row a1,pB 3,pI 8 v6,pL 22 rI a2,pI 23 (a2.length:U),pI 24 v7],[(3,(dm a0.row))],[]⟩ (A4 [6,7] [.sc (.v (.int .i64 zr.1)),.sc (.v (.bool zr.2))])
def UU:=fun a1 a2 (a0:X2) (k_:V→Q (U × V))=>∀{v4} {zr},k_ v4=N zr→Kh Z 123 L8 5 [1,2,3,21] [3] [] ⟨[pL 1 X4.row a1,pL 2 rI a2,pB 3,(21,vc (aB v4))],[(3,(dm a0.row))],[]⟩ (A4 [6,7] [.sc (.v (.int .i64 zr.1)),.sc (.v (.bool zr.2))])
theorem OV{a1 v6 a2 v7 a0}{Lk}(eh:P7 a1 a2 a0 Lk):UV a1 v6 a2 v7 a0 (FJ a1 v6 a2 v7 a0 Lk):=by
 intro v17 r h σ hσ;unfold FJ at h;have k0:= @eh;exact gc
theorem qn{a1 a2 a0}{n:W}:P7 a1 a2 a0 (E6 a1 a2 a0 n):=by
 induction n with
 | zero=>intro _ _ r h; cases h
 | succ n ih=>
  intro v6 v7 r h σ hσ S hS;refine ev hS ?_;rw[E6] at h;refine AF (An ?_);obtain⟨h8,h⟩|⟨h8,h⟩:=ic h
  ·obtain⟨x9,h9,h⟩:=ob h;obtain⟨h10,h⟩|⟨h10,h⟩:=ic h
   ·try simp only[hσ,h8,h9,h10,C,E,F,G,H,J]
    refine Af ?_;obtain⟨x11,h11,h⟩:=ob h;obtain⟨r12,h12,h⟩:=ob h;try simp only[h8,h9,h10,h11,C,E,F,G,H,J]
    refine AR (A6 nh h12) ?_;try simp only[h8,h9,h10,h11,C,E,F,G,H,J]
    refine OV ih h ?_ (by kernel_rfl);try simp only[h8,h9,h10,h11,C,E,F,G,H,J,pL,aM,I]
   ·obtain⟨h13,h⟩|⟨h13,h⟩:=ic h
    ·try simp only[hσ,h8,h9,h10,h13,C,E,F,G,H,J]
     refine Af ?_;obtain⟨x14,h14,h⟩:=ob h;obtain⟨x15,h15,h⟩:=ob h;obtain⟨r16,h16,h⟩:=ob h;try simp only[h8,h9,h10,h13,h14,h15,C,E,F,G,H,J]
     refine AR (A6 nn h16) ?_;try simp only[h8,h9,h10,h13,h14,h15,C,E,F,G,H,J]
     refine OV ih h ?_ (by kernel_rfl);try simp only[h8,h9,h10,h13,h14,h15,C,E,F,G,H,J,pL,aM,I]
    ·try simp only[hσ,h8,h9,h10,h13,C,E,F,G,H,J]
     refine OV ih h ?_ (by kernel_rfl);try simp only[h8,h9,h10,h13,C,E,F,G,H,J,pL,aM,I]
  ·try simp only[hσ,h8,C,E,F,G,H,J]
   cases h;trivial
theorem qo{a1 a2 a0}:UU a1 a2 a0 (H6 a1 a2 a0):=by
 intro v4 r h σ hσ;unfold H6 at h;have k0:= @qn;exact gc
instance tQ:Ct 123 (∀{a0} {a1} {a2} {r},H5 a0 a1 a2=N r→FC Z 123 [.ag (X2.row a0),.sc (.sl (Y X4.row a1)),.sc (.sl (Y rI a2))] [.sc (.v (.int .i64 r.1)),.sc (.v (.bool r.2))]):=by
 refine⟨fun h=> ?_⟩;unfold H5 at h;refine A2 mixed L8 [6,7] 60 ?_;have k0:= @qo;exact gc
abbrev C9(a0:X2)(a1:P X4)(f:V)(k:U)(b:P U):P (P D):= [X2.row a0,[.sl (Y X4.row a1)],[.bool f],[.int .i64 k],[.sl (Y rI b)]]
abbrev GT(a0:X2)(a1:P X4)(f:V)(k:U)(b:P U):P (W × P AC):= [(99999999999,Y AC.dat (X2.row a0)),(100000000000,[AC.dat (.sl (Y X4.row a1))]),(100000000001,[AC.dat (.bool f)]),(100000000002,[AC.dat (.int .i64 k)]),(100000000003,[AC.dat (.sl (Y rI b))])]
theorem oI{a0 a1 m f k b r}(h:Kj a0 a1 m f k b=N r):FCw Z 122 [.r,.p 0,.p 1,.p 2,.p 3,.p 4] 1 (C9 a0 a1 f k b) (Y rI m) (C9 a0 a1 r.1 r.2.1 r.2.2) (Y rI m):=by
 unfold Kj at h;refine P4 (σ:=⟨[(0,vc (.own 99999999999)),(1,vc (.pb 99999999999 0)),(2,vc (.pb 100000000000 0)),(3,vc (.pb 100000000001 0)),(4,vc (.pb 100000000002 0)),(5,vc (.pb 100000000003 0))],GT a0 a1 f k b,[(99999999999,1,Y rI m)]⟩) (c:=By Z 122 ([],[(5,2,(O,.frz 1728))])) (nt:=29) mixed (by kernel_rfl) X X ?_;refine BG ([],[(5,2,(O,.frz 1728))]) ?_;exact gc
def GU:Hw:=([(4,[0,1,4],[99999999999,100000000000,100000000001,100000000002,100000000003],[99999999999]),(13,[0,1,4],[99999999999,100000000000,100000000001,100000000002,100000000003],[99999999999]),(24,[0,1,4,5],[99999999999,100000000000,100000000001,100000000002,100000000003],[99999999999])],[])
def VY:=fun a0 a1 m f k b (k_:U→Q (P U × V × U × P U))=>∀{v zr},k_ v=N zr→Kh Z 121 GU 4 [0,1,4] [99999999999,100000000000,100000000001,100000000002,100000000003] [99999999999] ⟨[(0,vc (.own 99999999999)),(1,vc (.clo 122 [99999999999,100000000000,100000000001,100000000002,100000000003])),pI 4 v],GT a0 a1 f k b,[(99999999999,1,Y rI m)]⟩ (GP 1 (C9 a0 a1 zr.2.1 zr.2.2.1 zr.2.2.2) (Y rI zr.1))
def VZ:=fun a0 a1 m f k b (k_:U→Q (P U × V × U × P U))=>∀{v zr},k_ v=N zr→Kh Z 121 GU 13 [0,1,4] [99999999999,100000000000,100000000001,100000000002,100000000003] [99999999999] ⟨[(0,vc (.own 99999999999)),(1,vc (.clo 122 [99999999999,100000000000,100000000001,100000000002,100000000003])),pI 4 v],GT a0 a1 f k b,[(99999999999,1,Y rI m)]⟩ (GP 1 (C9 a0 a1 zr.2.1 zr.2.2.1 zr.2.2.2) (Y rI zr.1))
def W0:=fun a0 a1 i (k_:U→P U→V→U→P U→Q (P U × V × U × P U))=>∀{v m f k b zr},k_ v m f k b=N zr→Kh Z 121 GU 24 [0,1,4,5] [99999999999,100000000000,100000000001,100000000002,100000000003] [99999999999] ⟨[(0,vc (.own 99999999999)),(1,vc (.clo 122 [99999999999,100000000000,100000000001,100000000002,100000000003])),pI 4 i,pI 5 v],GT a0 a1 f k b,[(99999999999,1,Y rI m)]⟩ (GP 1 (C9 a0 a1 zr.2.1 zr.2.2.1 zr.2.2.2) (Y rI zr.1))
theorem gk{rec_:P U→V→U→P U→Q (P U × V × U × P U)}(l_rec:∀{m f k b r},rec_ m f k b=N r→r.1.length=m.length){i:U}:∀{n v m f k b r},Do rec_ i n v m f k b=N r→r.1.length=m.length:=by
 intro n
 induction n with
 | zero=>intro _ _ _ _ _ _ h; cases h
 | succ n ih=>
  intro v m f k b r h;rw[Do] at h;obtain⟨_,h⟩|⟨_,h⟩:=ic h
  ·obtain⟨x1,h1,h⟩:=ob h;obtain⟨_,h⟩|⟨_,h⟩:=ic h
   ·obtain⟨x2,h2,h⟩:=ob h;obtain⟨x3,h3,h⟩:=ob h;obtain⟨r4,h4,h⟩:=ob h;obtain⟨x5,h5,h⟩:=ob h;obtain⟨x6,h6,h⟩:=ob h;have:=l_rec h4;have:=ih h;simp only[List.length_set] at *
    omega
   ·exact ih h
  ·cases h; rfl
theorem S5{rec_:P U→V→U→P U→Q (P U × V × U × P U)}(l_rec:∀{m f k b r},rec_ m f k b=N r→r.1.length=m.length){a0 a1 m f k b v r}(h:Ea rec_ a0 a1 m f k b v=N r):r.1.length=m.length:=by
 unfold Ea at h;obtain⟨_,h⟩|⟨_,h⟩:=ic h
 ·obtain⟨r1,h1,h⟩:=ob h;cases h; rfl
 ·exact gk l_rec h
theorem gj{rec_:P U→V→U→P U→Q (P U × V × U × P U)}(l_rec:∀{m f k b r},rec_ m f k b=N r→r.1.length=m.length){a0 a1 m f k b}:∀{n v r},D8 rec_ a0 a1 m f k b n v=N r→r.1.length=m.length:=by
 intro n
 induction n with
 | zero=>intro _ _ h; cases h
 | succ n ih=>
  intro v r h;rw[D8] at h;obtain⟨_,h⟩|⟨_,h⟩:=ic h
  ·obtain⟨x1,h1,h⟩:=ob h;obtain⟨_,h⟩|⟨_,h⟩:=ic h
   ·exact ih h
   ·exact S5 l_rec h
  ·exact S5 l_rec h
theorem S6{a0 a1}:∀{n m f k b r},DL a0 a1 n m f k b=N r→r.1.length=m.length:=by
 intro n
 induction n with
 | zero=>intro _ _ _ _ _ h; cases h
 | succ n ih=>intro _ _ _ _ _ h; exact gj ih h
theorem gi{a0 a1 m f k b r}(h:G7 a0 a1 m f k b=N r):r.1.length=m.length:=S6 h
section
variable {a0 : X2} {a1 : P X4} {rec_ : P U → V → U → P U → Q (P U × V × U × P U)} (h_rec : ∀ {m f k b r},rec_ m f k b = N r → FCw Z 121 [.r,.clo 122 [0,1,2,3,4]] 1 (C9 a0 a1 f k b) (Y rI m) (C9 a0 a1 r.2.1 r.2.2.1 r.2.2.2) (Y rI r.1)) (l_rec : ∀ {m f k b r},rec_ m f k b = N r → r.1.length = m.length)
include h_rec l_rec
theorem qp{i:U}{n:W}:W0 a0 a1 i (Do rec_ i n):=by
 induction n with
 | zero=>intro _ _ _ _ _ _ h; cases h
 | succ n ih=>
  intro v m f k b zr h σ hσ S hS;refine ev hS ?_;rw[Do] at h;refine AF (An ?_);obtain⟨h71,h⟩|⟨h71,h⟩:=ic h
  ·obtain⟨x1,h1,h⟩:=ob h;obtain⟨h72,h⟩|⟨h72,h⟩:=ic h
   ·obtain⟨x2,h2,h⟩:=ob h;obtain⟨x3,h3,h⟩:=ob h;obtain⟨r4,h4,h⟩:=ob h;obtain⟨x5,h5,h⟩:=ob h;obtain⟨x6,h6,h⟩:=ob h;have n1:=Ah h1;have n2:=Ah h2;have n3:=Ah h3;have n5:=Ah h5;have n6:=Ah h6;try simp only[hσ,h71,h1,n1,h72,h2,n2,C,E,F,G,H,J]
    refine CC (row:=rI) (y:=v) X X n2 X X (by rfl) ?_;try simp only[hσ,h71,h1,n1,h72,h2,h3,C,E,F,G,H,J]
    refine CC (row:=rI) (y:=i) X X n3 X X (by rfl) ?_;try simp only[hσ,h71,h1,n1,h72,h2,h3,C,E,F,G,H,J]
    refine Ic (Qw (h_rec h4) [99999999999,100000000000,100000000001,100000000002,100000000003] 99999999999 ?_ (by rw[zG,zG]; exact l_rec h4));simp only[St.behindW,CL];try simp only[hσ,h71,h5,C,E,F,G,H,J]
    refine CC (row:=rI) (y:=(-1:U)) X X n5 X X (by rfl) ?_;try simp only[hσ,h71,h5,h6,C,E,F,G,H,J]
    refine CC (row:=rI) (y:=(-1:U)) X X n6 X X (by rfl) ?_;try simp only[hσ,h71,h5,h6,C,E,F,G,H,J]
    refine ih h ?_ (by kernel_rfl);(try simp only[C,E,F,G,H,J,pL,aM,I])<;>rfl
   ·have n1:=Ah h1;try simp only[hσ,h71,h1,n1,h72,C,E,F,G,H,J]
    refine ih h ?_ (by kernel_rfl);(try simp only[h71,h1,h72,C,E,F,G,H,J,pL,aM,I])<;>rfl
  ·try simp only[hσ,h71,C,E,F,G,H,J]
   cases h;repeat' constructor
theorem Un{m f k b}:VZ a0 a1 m f k b (Ea rec_ a0 a1 m f k b):=by
 intro v zr h σ hσ S hS;refine ev hS ?_;refine An ?_;unfold Ea at h;obtain⟨h71,h⟩|⟨h71,h⟩:=ic h
 ·obtain⟨r1,h1,h⟩:=ob h;try simp only[hσ,h71,C,E,F,G,H,J]
  refine dU (oI h1) [99999999999,100000000000,100000000001,100000000002,100000000003] 99999999999 ?_ X (by kernel_rfl);simp only[St.behindW,CL];try simp only[hσ,h71,C,E,F,G,H,J]
  cases h;repeat' constructor
 ·try simp only[hσ,h71,C,E,F,G,H,J]
  refine qp h_rec l_rec h ?_ (by kernel_rfl);(try simp only[h71,C,E,F,G,H,J,pL,aM,I])<;>rfl
theorem qr{m f k b}{n:W}:VY a0 a1 m f k b (D8 rec_ a0 a1 m f k b n):=by
 induction n with
 | zero=>intro _ _ h; cases h
 | succ n ih=>
  intro v zr h σ hσ S hS;refine ev hS ?_;rw[D8] at h;refine AF (An ?_);obtain⟨h71,h⟩|⟨h71,h⟩:=ic h
  ·obtain⟨x1,h1,h⟩:=ob h;obtain⟨h72,h⟩|⟨h72,h⟩:=ic h
   ·have n1:=Ah h1;try simp only[hσ,h71,h1,n1,h72,C,E,F,G,H,J]
    refine ih h ?_ (by kernel_rfl);(try simp only[h71,h1,h72,C,E,F,G,H,J,pL,aM,I])<;>rfl
   ·have n1:=Ah h1;try simp only[hσ,h71,h1,n1,h72,C,E,F,G,H,J]
    refine Un h_rec l_rec h ?_ (by kernel_rfl);(try simp only[h71,h1,h72,C,E,F,G,H,J,pL,aM,I])<;>rfl
  ·try simp only[hσ,h71,C,E,F,G,H,J]
   refine Un h_rec l_rec h ?_ (by kernel_rfl);(try simp only[h71,C,E,F,G,H,J,pL,aM,I])<;>rfl
end
theorem oH{a0 a1 m f k b r}{rec_:P U→V→U→P U→Q (P U × V × U × P U)}(h_rec:∀{m f k b r},rec_ m f k b=N r→FCw Z 121 [.r,.clo 122 [0,1,2,3,4]] 1 (C9 a0 a1 f k b) (Y rI m) (C9 a0 a1 r.2.1 r.2.2.1 r.2.2.2) (Y rI r.1))(l_rec:∀{m f k b r},rec_ m f k b=N r→r.1.length=m.length)(h:D8 rec_ a0 a1 m f k b bigN 0=N r):FCw Z 121 [.r,.clo 122 [0,1,2,3,4]] 1 (C9 a0 a1 f k b) (Y rI m) (C9 a0 a1 r.2.1 r.2.2.1 r.2.2.2) (Y rI r.1):=by
 refine P4 (σ:=⟨[(0,vc (.own 99999999999)),(1,vc (.clo 122 [99999999999,100000000000,100000000001,100000000002,100000000003]))],GT a0 a1 f k b,[(99999999999,1,Y rI m)]⟩) (c:=By Z 121 GU) (nt:=55) mixed (by kernel_rfl) X X ?_;refine BG GU ?_;intro S hS;refine ev hS ?_;try simp only[C,E,F,G,H,J]
 refine qr h_rec l_rec h ?_ (by kernel_rfl);(try simp only[C,E,F,G,H,J,pL,aM,I])<;>rfl
theorem oJ{a0 a1}:∀(n:W) {m f k b r},DL a0 a1 n m f k b=N r→FCw Z 121 [.r,.clo 122 [0,1,2,3,4]] 1 (C9 a0 a1 f k b) (Y rI m) (C9 a0 a1 r.2.1 r.2.2.1 r.2.2.2) (Y rI r.1):=by
 intro n
 induction n with
 | zero=>intro _ _ _ _ _ h; cases h
 | succ n ih=>intro _ _ _ _ _ h; exact oH ih S6 h
theorem oG{a0 a1 m f k b r}(h:G7 a0 a1 m f k b=N r):FCw Z 121 [.r,.clo 122 [0,1,2,3,4]] 1 (C9 a0 a1 f k b) (Y rI m) (C9 a0 a1 r.2.1 r.2.2.1 r.2.2.2) (Y rI r.1):=oJ bigN h
def QP:Hw:=([(16,[2,3,4,5,6,7,20,21],[2,3],[1152])],[])
def US:=fun(a0:X2) a1 y4 (k_:U→(P U)→Q ((P U) × U × V))=>∀{v5 v6} {zr},k_ v5 v6=N zr→Kh Z 82 QP 16 [2,3,4,5,6,7,20,21] [2,3] [1152] ⟨[pB 2,pB 3,(4,vc (.nil)),pI 5 (0:U),(6,vc (aB L)),pW 7 1152,pI 20 y4,pI 21 v5],[(2,(dm a0.row)),(3,[aM X4.row a1])],[(1152,1,Y rI v6)]⟩ (A4 [4,5,6] [.sc (.v (.sl (Y rI zr.1))),.sc (.v (.int .i64 zr.2.1)),.sc (.v (.bool zr.2.2))])
theorem qt{a0 a1 y4}{n:W}:US a0 a1 y4 (FI a0 a1 y4 n):=by
 induction n with
 | zero=>intro _ _ r h; cases h
 | succ n ih=>
  intro v5 v6 r h σ hσ S hS;refine ev hS ?_;rw[FI] at h;refine AF (An ?_);obtain⟨h7,h⟩|⟨h7,h⟩:=ic h
  ·obtain⟨x8,h8,h⟩:=ob h;have h8n:=Ah h8;try simp only[hσ,h7,h8,C,E,F,G,H,J]
   refine CC (row:=rI) (y:=(-1:U)) X X h8n X X (by rfl) ?_;try simp only[h7,h8,C,E,F,G,H,J]
   refine ih h ?_ (by kernel_rfl);try simp only[h7,h8,C,E,F,G,H,J,pL,aM,I]
  ·try simp only[hσ,h7,C,E,F,G,H,J]
   refine AI ?_;try simp only[h7,C,E,F,G,H,J]
   refine AI ?_;try simp only[h7,C,E,F,G,H,J]
   refine AI ?_;obtain⟨r9,h9,h⟩:=ob h;try simp only[h7,C,E,F,G,H,J]
   refine Ic (Qw (oG h9) [2,3,11,10,9] 1152 ?_ (by rw[zG,zG]; exact gi h9));simp only[St.behindW,CL];try simp only[h7,C,E,F,G,H,J]
   refine Af ?_;try simp only[h7,C,E,F,G,H,J]
   cases h;trivial
instance tO:Ct 82 (∀{a0} {a1} {r},H3 a0 a1=N r→FC Z 82 [.ag (X2.row a0),.sc (.sl (Y X4.row a1))] [.sc (.v (.sl (Y rI r.1))),.sc (.v (.int .i64 r.2.1)),.sc (.v (.bool r.2.2))]):=by
 refine⟨fun h=> ?_⟩;unfold H3 at h;refine A2 mixed QP [4,5,6] 34 ?_;have s0:= @CG _ rI (0:U);have k0:= @qt;exact gc
instance uw:Ct 124 (∀{a0} {r},Nz a0=N r→FC Z 124 [.sc (J8 a0)] [.sc (.v (.str r))]):=by
 refine⟨fun h=> ?_⟩;unfold Nz at h;refine A2 mixed h0 [2] 15 ?_;exact gc
def QQ:Hw:=([(8,[3,7,8,9],[],[384])],[])
def Wu:=fun a0 (k_:U→(P (P UInt8))→Q (P UInt8))=>∀{v1 v2} {zr},k_ v1 v2=N zr→Kh Z 83 QQ 8 [3,7,8,9] [] [384] ⟨[pW 3 384,pL 7 rA a0,pI 8 (a0.length:U),pI 9 v1],[],[(384,1,Y rS v2)]⟩ (A4 [2] [.sc (.v (.str zr))])
theorem qu{a0}{n:W}:Wu a0 (KQ a0 n):=by
 induction n with
 | zero=>intro _ _ r h; cases h
 | succ n ih=>
  intro v1 v2 r h σ hσ;rw[KQ] at h;have s0:=fun(r5:(P UInt8))=> @Ap (Y rS ([r5]:P (P UInt8)))
  exact gc
instance ov:Ct 83 (∀{a0} {r},EV a0=N r→FC Z 83 [.sc (.sl (Y rA a0))] [.sc (.v (.str r))]):=by
 refine⟨fun h=> ?_⟩;unfold EV at h;refine A2 mixed QQ [2] 21 ?_;have s0:= @Ap (Y rS ([]:P (P UInt8)));have k0:= @qu;exact gc
instance nP:Ct 54 (∀{a0} {a1} {r},EJ a0 a1=N r→FC Z 54 [.ag (X2.row a0),.sc (.sl (Y X4.row a1))] [.sc (.v (.str r))]):=by
 refine⟨fun h=> ?_⟩;unfold EJ at h;refine A2 mixed h0 [4] 44 ?_;have s0:=fun(r3:(P U) × U × V) (r5:(P U) × U × V)=> @Ap (Y rA ([(⟨T,([99,111,115,116]:P UInt8),0⟩:Xm),(⟨L,[],r3.2.1⟩:Xm),(⟨T,([98,111,117,110,100]:P UInt8),0⟩:Xm),(⟨L,[],r5.2.1⟩:Xm),(⟨T,([103,97,112]:P UInt8),0⟩:Xm),(⟨L,[],(IntKind.i64.wrap (r3.2.1 - r5.2.1))⟩:Xm)]:P Xm))
 exact gc
instance IU:Ct 53 (∀{a0} {r},CA a0=N r→FC Z 53 [.sc (.str a0)] [.sc (.v (.str r))]):=by
 refine⟨fun h=> ?_⟩;unfold CA at h;refine A2 mixed h0 [2] 6 ?_;exact gc
end Go.Vi
