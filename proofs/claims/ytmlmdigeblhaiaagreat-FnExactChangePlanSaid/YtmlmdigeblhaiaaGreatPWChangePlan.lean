/-
Walks of functions whose results tell the blocks of what is . No condition.
-/
import Derived.Test.YtmlmdigeblhaiaaGreatPWChangePlane
import Derived.Test.YtmlmdigeblhaiaaGreatPVi49
import Derived.KernelRfl
namespace Go.Vi
open Go.Proofs
set_option linter.all false
set_option maxRecDepth 4000
set_option maxHeartbeats 2000000
open Nat renaming reduceBEq → B, reduceMul → E, reduceAdd → F, reduceDiv → I, le_of_ble_eq_true → uf
open Int renaming reduceBEq → J
attribute [local irreducible] go B0 Gz
open List renaming map → zC, mem_singleton → zE, map_nil → zF, map_cons → zG, mem_cons → zH, pairwise_append → zI, nil_append → zJ, pairwise_singleton → zK, not_mem_nil → zL, cons_append → zM, getElem?_eq_some_iff → zN, mem_map → zO, pairwise_iff_getElem → zQ, length_map → zT, append_nil → zU, mem_append → zV, mem_of_getElem? → zW, pairwise_cons → zX, flatMap_cons → zY, flatMap_nil → zZ
open Tryz renaming prog → zD
open Option renaming map_eq_some_iff → zP, some → O, none → V
open Nat renaming lt_irrefl → zR
open Xc renaming row → zS
open IntKind renaming wrap → yA
open Bool renaming true → L, false → N
open _root_ renaming List → W, Option → X, Int → Y, Bool → Z, Nat → zA, rfl → zB
def Aa{G G':Prop}(h:G')(e:G'->G:=by
 intro w;repeat (first | refine N1 ?_ | refine MV ?_ | refine CC ?_ | refine Gn ?_ | simp only[*,-w,B,E,F,I,J,U,B5])
 exact w):G:=e h
def E3{G:Prop}(k:G:=by simp only[*,B,E,F,I,J,U,B5,pL,aM,List.map_nil]):G:=k
structure XT where
 o:X0
 b:zA
def XT.row(k:X zA)(t:XT):W D:= [.int .i64 t.o.Start,.int .i64 t.o.Arrival,.int .i64 t.o.Cost,D.tagW k t.b (.sl (zC X1.row t.o.Passages))]
instance {k:X zA}:Row (XT.row k) 4:=⟨fun _=>rfl,uf rfl⟩
def XT.row_eq{k:X zA}(t:XT):XT.row k t= [.int .i64 t.o.Start,.int .i64 t.o.Arrival,.int .i64 t.o.Cost,D.tagW k t.b (.sl (zC X1.row t.o.Passages))]:=rfl
def XT.tg(t:XT)(b:zA):Prop:=t.o.Passages≠ []/\t.b=b
def ApT(ts:W XT):Prop:=ts.Pairwise fun s t=>∀b,s.tg b->¬t.tg b
def VU{k:X zA}{b c:zA}{es:W (W D)}(hf:∀r∈es,∀d∈r,d.flat=L):Tg c (D.tagW k b (.sl es))↔es≠ []/\b=c:=by
 cases es with
 | nil=>exact⟨fun h=>(by cases h; simp_all),fun h=>absurd rfl h.1⟩
 | cons e es=>exact⟨fun h=>(by cases h; exact⟨d0,rfl⟩),fun h=>h.2▸Tg.here⟩
def K7{ps:W X1}:∀r∈zC X1.row ps,∀d∈r,d.flat=L:=fun r hr d hd=>by
 obtain⟨x,_,rfl⟩:=zO.1 hr;exact FlatRow.flat x d hd
def XT.tg_row{k:X zA}{t:XT}{b:zA}:(∃d∈XT.row k t,Tg b d)↔t.tg b:=by
 have h:Tg b (D.tagW k t.b (.sl (zC X1.row t.o.Passages)))↔t.tg b:=by
  rw[VU K7];simp[XT.tg]
 refine⟨fun⟨d,hd,ht⟩=> ?_,fun ht=>⟨_,by simp[XT.row],h.2 ht⟩⟩;simp only[XT.row,zH,zL,or_false] at hd
 rcases hd with rfl|rfl|rfl|rfl
 .cases ht
 .cases ht
 .cases ht
 .exact h.1 ht
def BT{k:X zA}{ts:W XT}{b:zA}:Ca b (zC (XT.row k) ts)↔∃t∈ts,t.tg b:=by
 refine⟨fun⟨r,hr,h⟩=> ?_,fun⟨t,ht,h⟩=>⟨_,zO.2 ⟨t,ht,zB⟩,XT.tg_row.2 h⟩⟩;obtain⟨t,ht,rfl⟩:=zO.1 hr;exact⟨t,ht,XT.tg_row.1 h⟩
def Ii(os:W X0)(rs:W R1):Prop:=∃ts:W XT,rs= [.sc (.o 4 (zC (XT.row (O 5)) ts))]/\ts.map XT.o=os/\ApT ts
def XT.un{k:X zA}{t:XT}:Uns (XT.row k t) (X0.row t.o):=by
 refine .cons .same (.cons .same (.cons .same (.cons ?_ .nil)));cases zC X1.row t.o.Passages with
 | nil=>exact .same
 | cons e es=>exact .slb .refl
def XT.uns{k:X zA}:∀{ts:W XT},UnRows (zC (XT.row k) ts) (zC X0.row (ts.map XT.o))
 | []=> .nil
 | _::_=> .cons XT.un XT.uns
abbrev hO:Hw:=([(28,[2,3,5,7,9,10],[2,3,7],[2560])],[])
def B6e{r3:(W Y) × Z}{a0:X3}{a1:X8}{r4:Xk × Z}{n:zA}:∀{v7:Y} {v8:W XT} {zr:W X0},ApT v8->EM r3 a0 a1 r4 n v7 (v8.map XT.o)=O zr->Kh zD 86 hO 28 [2,3,5,7,9,10] [2,3,7] [2560]
  ⟨[pB 2,pB 3,(5,vc (.mix (.sl (zC rI r3.1)))),pB 7,pW 9 2560,pI 10 v7],[(2,[aI a0.Forecast.Tide.Mean,.old (.sl (zC zS a0.Forecast.Tide.Parts)),.old (.sl (zC X9.row a0.Forecast.Surges)),.old (.sl (zC X7.row a0.Chart.Points)),.old (.sl (zC X2.row a0.Chart.Segments)),.old (.sl (zC X5.row a0.Fleet)),aI a0.Regime.Gap,aB a0.Regime.NoMeet,aI a0.Crew.Tugs,aI a0.Crew.Pilots,aI a0.Crew.Rest,.old (.sl (zC rI a0.Crew.Moves))]),(3,[aI a1.Ship,aI a1.From,aI a1.To,aI a1.Ready,aI a1.Due]),(7,[.mix (.sl (zC rB r4.1.waits)),.mix (.sl (zC rI r4.1.minutes)),.mix (.sl (zC (rL X6.row) r4.1.sure))])],[(2560,4,zC (XT.row (O 5)) v8)]⟩ (Fy [4] (Ii zr)):=by
 induction n with
 | zero=>intro _ _ _ _ h; cases h
 | succ n ih=>
  intro v7 v8 zr hap h M hσ S hS;refine ev hS ?_;rw[EM,zT] at h;refine AA (Av ?_);obtain⟨h9,h⟩|⟨h9,h⟩:=ic h
  .obtain⟨h10,h⟩|⟨h10,h⟩:=ic h
   .obtain⟨r11,h11,h⟩:=ob h;try simp only[hσ,h9,h10,B,E,F,I,J,U,B5]
    refine HN (FCf.tag ((Ag fo h11).newf (BL rfl ⟨rfl,rfl,rfl,AQ,rfl,⟨⟩⟩))) (ds':= [.ag (X3.row a0),.ag (X8.row a1),.ag (Xk.row r4.1),.sc (.sl (zC rI r3.1)),.sc (.int .i64 v7)]) (by first | rfl | kernel_rfl) .refl rfl (fun rs ⟨g,e⟩=>by subst e; exact uf rfl) ?_;rintro rs ⟨g,rfl⟩ hN
    have hnew:∀t∈v8,∀b,t.tg b->r11.1.Passages≠ []->b<g 3:=fun t ht b hb hp=>hN b (g 3) (St.tg_own (k:=9) rfl rfl (BT.2 ⟨t,ht,hb⟩)) ⟨.v (D.tagW (O 5) (g 3) (.sl (zC X1.row r11.1.Passages))),by simp[D6,Ib,RC.tagO,R1.cells],(VU K7).2 ⟨by simpa using hp,rfl⟩⟩
    clear hN
    simp only[D6,Ib,RC.tagO];try simp only[h9,h10,B,E,F,I,J,U,B5]
    refine MV ?_;obtain⟨h12,h⟩|⟨h12,h⟩:=ic h
    .try simp only[h9,h10,h12,B,E,F,I,J,U,B5]
     refine AU (es:=zC (XT.row (O 5)) ([⟨r11.1,g 3⟩]:W XT)) ?_;obtain⟨h13,h⟩:=AR h;have h13:Ab v8.length ([⟨r11.1,g 3⟩]:W XT).length 48=L:=h13;try simp only[h9,h10,h12,h13,B,E,F,I,J,U,B5]
     refine ih (v8:=v8++ [⟨r11.1,g 3⟩]) ?_ (by simpa[H5] using h) ?_ (by kernel_rfl)
     .refine zI.2 ⟨hap,zK _ _,fun s hs t ht b hb hb'=> ?_⟩;rw[zE.1 ht] at hb'
      have:=hnew s hs b hb hb'.1;exact absurd hb'.2 (by simp only; omega)
     try simp only[h9,h10,h12,h13,B,E,F,I,J,U,B5,pL,aM,zF]
    .try simp only[h9,h10,h12,B,E,F,I,J,U,B5]
     refine ih hap (by simpa[H5] using h) ?_ (by kernel_rfl);try simp only[h9,h10,h12,B,E,F,I,J,U,B5,pL,aM,zF]
   .try simp only[hσ,h9,h10,B,E,F,I,J,U,B5]
    cases h;exact⟨_,⟨v8,zB,zB,hap⟩,t0⟩
  .try simp only[hσ,h9,B,E,F,I,J,U,B5]
   cases h;exact⟨_,⟨v8,zB,zB,hap⟩,t0⟩
def re:AF zD 86=O ((By zD 86 hO).strip,[4],69):=by kernel_rfl
def A94{a0:X3}{a1:X8}{r:W X0}(h:IL a0 a1=O r):FCs zD 86 [.ag (X3.row a0),.ag (X8.row a1)] (Ii r):=by
 unfold IL at h;refine QN (M:=⟨[(0,va [aI a0.Forecast.Tide.Mean,.old (.sl (zC zS a0.Forecast.Tide.Parts)),.old (.sl (zC X9.row a0.Forecast.Surges)),.old (.sl (zC X7.row a0.Chart.Points)),.old (.sl (zC X2.row a0.Chart.Segments)),.old (.sl (zC X5.row a0.Fleet)),aI a0.Regime.Gap,aB a0.Regime.NoMeet,aI a0.Crew.Tugs,aI a0.Crew.Pilots,aI a0.Crew.Rest,.old (.sl (zC rI a0.Crew.Moves))]),(1,va [aI a1.Ship,aI a1.From,aI a1.To,aI a1.Ready,aI a1.Due])],[],[]⟩) A2 re zB zB ?_;refine BC hO ?_;intro S hS;refine ev hS ?_;obtain⟨r1,h1,h⟩:=ob h;refine Aa ?_;refine B8 (Ag Wr h1) zB (Br zB) zB (uf zB) ?_;obtain⟨h2,h⟩|⟨h2,h⟩:=ic h
 .obtain⟨r3,h3,h⟩:=ob h;refine Aa ?_;refine Zh (Ag A7h h3) zB zB ?_;obtain⟨r4,h4,h⟩:=ob h;refine Aa ?_;refine Zh (FC.asV (rs':= [.ag (Xk.row r4.1 |>.map .v),.sc (.v (.bool r4.2))]) (Ag A7s h4) zB) zB zB ?_;try simp only[h2,SR,D.fl,cond_true,cond_false,B,E,F,I,J,U,B5]
  refine Aa ?_;obtain⟨h5,h⟩|⟨h5,h⟩:=ic h
  .obtain⟨h6,h⟩|⟨h6,h⟩:=ic h
   .refine Aa ?_;refine AU (es:=zC (XT.row (O 5)) ([]:W XT)) ?_;refine Aa ?_;exact B6e (v8:= []) .nil h E3 kr
   .refine Aa ?_;cases h;exact⟨_,⟨[],zB,zB,.nil⟩,t0⟩
  .refine Aa ?_;cases h;exact⟨_,⟨[],zB,zB,.nil⟩,t0⟩
 .refine Aa ?_;cases h;exact⟨_,⟨[],zB,zB,.nil⟩,t0⟩
def Ig{k:X zA}{ts:W XT}:∀r∈zC (XT.row k) ts,∀d∈r,Sh d:=fun r hr d hd=>by
 obtain⟨t,_,rfl⟩:=zO.1 hr;simp only[XT.row,zH,zL,or_false] at hd
 rcases hd with rfl|rfl|rfl|rfl
 .exact .flat zB
 .exact .flat zB
 .exact .flat zB
 .have hp:=K7 (ps:=t.o.Passages);revert hp
  cases zC X1.row t.o.Passages with
  | nil=>exact fun _=> .nil
  | cons e es=>exact fun hp=> .slb hp
def EU:W X0->Y->X (Y × W X0)
 | [],k=>O (k,[])
 | o::os,k=>(He o.Passages (yA .i64 (yA .i64 (yA .i64 (k+1)+1)+1))).bind fun r=>(EU os r.1).bind fun q=>O (q.1,⟨k,yA .i64 (k+1),yA .i64 (yA .i64 (k+1)+1),r.2⟩::q.2)
def DB(os:W X0)(ts:W XT):W XT:=List.zipWith (fun o t=>⟨o,t.b⟩) os ts
def T3{α:Type}{l r:W α}{x y:α}:(l++x::r).set (Int.toNat (l.length:Y)) y=l++y::r:=by simp
def Gu{α:Type}{l r:W α}{x:α}:ix (l++x::r) (l.length:Y)=O x:=by simp[ix]
def uD{α:Type}{l r:W α}{x:α}:(l++x::r)[Int.toNat (l.length:Y)]?=O x:=by simp
def Wm{M:St}{c:AC}(h:M.Uses c):c∈(M.env.flatMap fun p=>p.2.cells)++M.bx.flatMap fun p=>p.2:=by
 rcases h with ⟨k,hk⟩|⟨id,cs,hf,hc⟩
 .obtain⟨p,hp,hc⟩:=St.get_mem hk;exact List.mem_append_left _ (List.mem_flatMap.2 ⟨p,hp,hc⟩)
 .exact List.mem_append_right _ (List.mem_flatMap.2 ⟨_,M8 hf,hc⟩)
def A1w{b:zA}{ps:W X1}{t:XT}(h:t.tg b->t.o.Passages=ps):∀d∈XT.row (O 5) t,GQ b 5 (zC X1.row ps) d:=fun d hd=>by
 refine⟨Ig (ts:= [t]) _ (by simp; rfl) d hd,fun k es e=> ?_⟩;subst e;simp only[XT.row,zH,reduceCtorEq,zL,or_false,false_or] at hd
 revert h hd
 cases hp:t.o.Passages with
 | nil=>intro _ hd; cases hd
 | cons p q=>
  intro h hd;simp only[zG,D.tagW,D.slb.injEq] at hd
  obtain⟨e1,e2,e3⟩:=hd;rw[<- h ⟨by rw[hp]; simp,e1.symm⟩];exact⟨e2,e3⟩
def A64{b:zA}{ps:W (W D)}{t:XT}(h:¬t.tg b):(XT.row (O 5) t).map (D.upd b ps)=XT.row (O 5) t:=by
 simp only[XT.row,zG,zF,D.upd,List.cons.injEq,and_true,true_and];cases hp:t.o.Passages with
 | nil=>rfl
 | cons p q=>
  have:(t.b==b)=N:=by simpa using fun e=>h ⟨by rw[hp]; simp,e⟩
  simp only[zG,D.tagW,D.upd,this,cond_false]
def fT{b:zA}{ps:W (W D)}{ts:W XT}(h:∀t∈ts,¬t.tg b):(zC (XT.row (O 5)) ts).map (zC (D.upd b ps))=zC (XT.row (O 5)) ts:=by
 rw[List.map_map];exact List.map_congr_left fun t ht=>A64 (h t ht)
def A63{o:X0}{ps:W X1}{b:zA}(h:o.Passages≠ [])(hl:ps.length=o.Passages.length):(XT.row (O 5) ⟨o,b⟩).map (D.upd b (zC X1.row ps))=XT.row (O 5) ⟨⟨o.Start,o.Arrival,o.Cost,ps⟩,b⟩:=by
 simp only[XT.row,zG,zF,D.upd,List.cons.injEq,and_true,true_and];cases hp:o.Passages with
 | nil=>exact absurd hp h
 | cons p q=>
  cases ps with
  | nil=>rw[hp] at hl; cases hl
  | cons p' q'=>simp only[zG,D.tagW,D.upd,beq_self_eq_true,cond_true]
def A8r{k:Y}:FC zD 54 [.sc (.sl []),.sc (.int .i64 k)] [.sc (.v (.int .i64 k))]:=by
 refine A3 A2 h0 [4] 50 ?_;intro S hS;refine ev hS ?_;refine Aa ?_;refine AA ?_;try simp only[List.length_nil,Int.ofNat_zero,Int.lt_irrefl,decide_false,B,E,F,I,J,U,B5]
 exact t0
def uY{P:Program}{k:W Fr}{Q:Xl->St->Prop}{its:W AItem}{d f sz b j:zA}{args:W Opd}{x r:D}{ps ps':W (W D)}{M τ:St}(H:FCx P f [.sc (.r 0),.sc (.d x)] [(sz,ps)] [(sz,ps')] r)(hl:ps'.length=ps.length)(hfl:∀r∈ps,∀d∈r,d.flat=L)(hfl':∀r∈ps',∀d∈r,d.flat=L)(hx:x.flat=L)
  (ha:args.map M.val= [.v (.sc (.dat (.slb b (O sz) ps))),.v (.sc (.dat x))]) (hnw:M.get j= .ev .nw) (hok:∀c,M.Uses c->∀d,c= .dat d->GQ b sz ps d) (hrows:∀id s es,A1 M.rows id=O (s,es)->∀r∈es,∀d∈r,GQ b sz ps d) (hτ:M.updT b ps'=τ)
  (h:go P (.ops its::k) Q .normal (O (τ.set d (.v (.sc (.dat r)))))):go P (.ops ((V,.call d f args)::its)::k) Q .normal (O M):=Pv (by rw[ha,<- hτ]; exact H.callT hl hfl hfl' hx hnw hok hrows) h
abbrev hM:Hw:=([(6,[0,1,5,77777],[],[99999999999])],[(27,6,(V,.keep [0,1,5,37,38,77777] [] [99999999999]))])
def B6d{ts:W XT}:∀{done:W XT} {k:Y} {r:Y × W X0},EU (ts.map XT.o) k=O r->ApT (done++ts)->(done++ts).length<=maxLen->Kh zD 17 hM 6 [0,1,5,77777] [] [99999999999]
  ⟨[pW 0 99999999999,pI 1 k,pI 5 (done.length:Y),(77777,.ev .nw)],[],[(99999999999,4,zC (XT.row (O 5)) (done++ts))]⟩ (CZ [4] (.int .i64 r.1) [(4,zC (XT.row (O 5)) (done++DB r.2 ts))] [(0,0)]):=by
 induction ts with
 | nil=>
  intro done k r h hap hlen M hσ S hS;refine ev hS ?_;cases h;refine AA (Av ?_);try simp only[hσ,zU,Int.lt_irrefl,decide_false,B,E,F,I,J,U,B5]
  refine⟨⟨zB,⟨⟩⟩,⟨⟨⟨_,zB,zB⟩,?_⟩,⟨⟩⟩⟩;simp[DB,A1]
 | cons t ts ih=>
  intro done k r h hap hlen M hσ S hS;refine ev hS ?_;rw[zG,EU] at h;obtain⟨r1,hr1,h⟩:=ob h;obtain⟨q,hq,h⟩:=ob h;cases h;have hlt:decide ((done.length:Y)<((done++t::ts).length:Y))=L:=decide_eq_true (by simp only[List.length_append,List.length_cons]; omega);refine AA (Av ?_);try simp only[hσ,hlt,Gu,T3,B,E,F,I,J,U,B5]
  refine AM (row:=XT.row (O 5)) (y:=⟨⟨k,t.o.Arrival,t.o.Cost,t.o.Passages⟩,t.b⟩) zB zB (Ah Gu) zB zB (by rfl) ?_;try simp only[Gu,T3,B,E,F,I,J,U,B5]
  refine AM (row:=XT.row (O 5)) (y:=⟨⟨k,yA .i64 (k+1),t.o.Cost,t.o.Passages⟩,t.b⟩) zB zB (Ah Gu) zB zB (by rfl) ?_;try simp only[Gu,T3,B,E,F,I,J,U,B5]
  refine AM (row:=XT.row (O 5)) (y:=⟨⟨k,yA .i64 (k+1),yA .i64 (yA .i64 (k+1)+1),t.o.Passages⟩,t.b⟩) zB zB (Ah Gu) zB zB (by rfl) ?_;try simp only[Gu,T3,B,E,F,I,J,U,B5]
  try simp only[uD,XT.row_eq,Gu,B,E,F,I,J,U,B5]
  have hw:yA .i64 ((done.length:Y)+1)=((done.length+1:zA):Y):=gD (n:=(done++t::ts).length) d0 hlen;have hu:=zI.1 hap;have hd1:∀s∈done,∀b,s.tg b->¬t.tg b:=fun s hs b=>hu.2.2 s hs t List.mem_cons_self b
  have hd2:∀s∈ts,∀b,s.tg b->¬t.tg b:=fun s hs b h1 h2=>(zX.1 hu.2.1).1 s hs b h2 h1
  have hfin:∀{M':St},M'.kept [0,1,5,77777] [] [99999999999]=⟨[pW 0 99999999999,pI 1 r1.1,pI 5 ((done.length+1:zA):Y),(77777,.ev .nw)],[],[(99999999999,4,zC (XT.row (O 5)) (done++⟨⟨k,yA .i64 (k+1),yA .i64 (yA .i64 (k+1)+1),r1.2⟩,t.b⟩::ts))]⟩->
    ∀{S:W Fr},S=sk zD 17 hM 6->go zD S (CZ [4] (.int .i64 q.1) [(4,zC (XT.row (O 5)) (done++DB (⟨k,yA .i64 (k+1),yA .i64 (yA .i64 (k+1)+1),r1.2⟩::q.2) (t::ts)))] [(0,0)]) .normal (O M'):=fun{M'} hs {S} hS=>by
   have:=ih (done:=done++ [⟨⟨k,yA .i64 (k+1),yA .i64 (yA .i64 (k+1)+1),r1.2⟩,t.b⟩]) hq ?_ ?_ (M:=M') ?_ hS
   .simpa[DB] using this
   .have hl:=V6 _ _ _ hr1;have hb:∀b,XT.tg ⟨⟨k,yA .i64 (k+1),yA .i64 (yA .i64 (k+1)+1),r1.2⟩,t.b⟩ b->t.tg b:=fun b h=>⟨fun e=>h.1 (List.length_eq_zero_iff.1 (by rw[hl,e]; rfl)),h.2⟩
    rw[List.append_assoc]
    exact zI.2 ⟨hu.1,zX.2 ⟨fun s hs b h1 h2=>hd2 s hs b h2 (hb b h1),(zX.1 hu.2.1).2⟩,fun s hs s' hs' b h1 h2=>by
     rcases zH.1 hs' with rfl|hs'
     .exact hd1 s hs b h1 (hb b h2)
     .exact hu.2.2 s hs s' (List.mem_cons_of_mem _ hs') b h1 h2⟩
   .simpa using hlen
   .simpa using hs
  cases hp:t.o.Passages with
  | nil=>
   rw[hp] at hr1
   have e1:∀x,He [] x=O (x,[]):=fun x=>by kernel_rfl
   rw[e1] at hr1
   cases hr1;refine B8 A8r zB (Br zB) zB (uf zB) ?_;refine Aa ?_;exact hfin E3 kr
  | cons p ps=>
   rw[hp] at hr1
   have hl:=V6 _ _ _ hr1;have htb:t.tg t.b:=⟨by rw[hp]; simp,rfl⟩;refine uY (j:=77777) (b:=t.b) (A8h _ _ _ hr1) (by simpa using hl) K7 K7 zB zB zB (fun c hu d e=> ?_) (fun id s es hf r hr d hd=> ?_) (τ:=⟨[(0,vc (.own 99999999999)),(1,vc (aI (yA .i64 (yA .i64 (yA .i64 (k+1)+1)+1)))),(5,vc (aI (done.length:Y))),(37,vc (.dat (.slb t.b (O 5) (zC X1.row r1.2)))),(38,vc (aI (yA .i64 (yA .i64 (yA .i64 (k+1)+1)+1)))),(77777,.ev .nw)],[],[(99999999999,4,zC (XT.row (O 5)) (done++⟨⟨k,yA .i64 (k+1),yA .i64 (yA .i64 (k+1)+1),r1.2⟩,t.b⟩::ts))]⟩) ?_ ?_
   .subst e;have:=Wm hu;simp only[zY,zZ,AV.cells,V1.cells,zU,zM,zJ,zH,zL,or_false,reduceCtorEq,false_or,AC.dat.injEq] at this
    rcases this with rfl|rfl|rfl|rfl
    .exact⟨.flat zB,fun k es e=>by cases e⟩
    .exact⟨.flat zB,fun k es e=>by cases e⟩
    .exact⟨.slb (K7 (ps:=p::ps)),fun k es e=>by cases e; exact⟨zB,zB⟩⟩
    .exact⟨.flat zB,fun k es e=>by cases e⟩
   .simp only[A1] at hf
    by_cases hid:99999999999=id
    .subst hid;simp only[beq_self_eq_true,cond_true,Option.some.injEq,Prod.mk.injEq] at hf
     obtain⟨rfl,rfl⟩:=hf;obtain⟨s,hs,rfl⟩:=zO.1 hr;refine A1w (fun hsb=> ?_) d hd;rcases zV.1 hs with hs|hs
     .exact absurd htb (hd1 s hs _ hsb)
     .rcases zH.1 hs with rfl|hs
      .rfl
      .exact absurd htb (hd2 s hs _ hsb)
    .have:(99999999999==id)=N:=by simpa using hid
     rw[this] at hf
     cases hf
   .have e2:=A63 (o:=⟨k,yA .i64 (k+1),yA .i64 (yA .i64 (k+1)+1),p::ps⟩) (ps:=r1.2) (b:=t.b) d0 hl;simp only[St.updT,St.map,zG,zF,AV.map,V1.map,AC.mapD,D.upd,D.tagW,beq_self_eq_true,cond_true,List.map_append,fT fun s hs h=>hd1 s hs _ h htb,fT fun s hs h=>hd2 s hs _ h htb,e2]
   .refine Aa ?_;exact hfin E3 kr
def rd:AF zD 17=O ((By zD 17 hM).strip,[4],41):=by kernel_rfl
def SP:∀{ts:W XT} {k:Y} {r:Y × W X0},EU (ts.map XT.o) k=O r->r.2.length=ts.length/\∀t∈DB r.2 ts,∀b,t.tg b->∃s∈ts,s.tg b
 | [],k,r,h=>by cases h; exact⟨rfl,fun t ht=>by simp[DB] at ht⟩
 | s::ts,k,r,h=>by
  rw[zG,EU] at h;obtain⟨r1,hr1,h⟩:=ob h;obtain⟨q,hq,h⟩:=ob h;cases h;obtain⟨h1,h2⟩:=SP hq;have hl:=V6 _ _ _ hr1;refine⟨by simp[h1],fun t ht b hb=> ?_⟩;rcases zH.1 ht with rfl|ht
  .exact⟨s,List.mem_cons_self,fun e=>hb.1 (List.length_eq_zero_iff.1 (by rw[hl,e]; rfl)),hb.2⟩
  .obtain⟨s',hs',h3⟩:=h2 t ht b hb;exact⟨s',List.mem_cons_of_mem _ hs',h3⟩
def dS:∀{os:W X0} {ts:W XT},os.length=ts.length->(DB os ts).map XT.o=os
 | [],[],_=>rfl
 | o::os,t::ts,h=>by simpa[DB] using dS (os:=os) (ts:=ts) (by simpa using h)
def dR{os:W X0}{ts:W XT}(h:os.length=ts.length):(DB os ts).length=ts.length:=by simp[DB,h]
def gA{ts:W XT}{k:Y}{r:Y × W X0}(h:EU (ts.map XT.o) k=O r)(hap:ApT ts)(hlen:ts.length<=maxLen):FCm zD 17 (.int .i64 k) 4 (zC (XT.row (O 5)) ts) (zC (XT.row (O 5)) (DB r.2 ts)) (.int .i64 r.1):=by
 refine iN (p:=(0,0)) A2 rd zB zB zB Ig (fun b hb=> ?_) zB ?_
 .obtain⟨t,ht,hb⟩:=BT.1 hb;obtain⟨s,hs,h3⟩:=(SP h).2 t ht b hb;exact BT.2 ⟨s,hs,h3⟩
 refine BC hM ?_;intro S hS;refine ev hS ?_;unfold St.initM;refine Aa ?_;refine B6d (done:= []) h (by simpa using hap) (by simpa using hlen) ?_ (by kernel_rfl);try simp only[B,E,F,I,J,U,B5,pL,aM,zF,List.length_nil,zJ]
 try rfl
def ei:∀{bs:W zA} {os:W X0},bs.length=os.length->∃us:W XT,us.map XT.o=os/\Ic V bs (zC X0.row os)=zC (XT.row V) us
 | [],[],_=>⟨[],rfl,rfl⟩
 | b::bs,o::os,h=>by
  obtain⟨us,h1,h2⟩:=ei (bs:=bs) (os:=os) (by simpa using h);refine⟨⟨o,b⟩::us,by simp[h1],?_⟩;simp only[Ic,zG,List.zipWith_cons_cons] at h2 ⊢
  rw[h2];rfl
def A13{os:W X0}:∀r∈zC X0.row os,KI r:=fun r hr=>by
 obtain⟨o,_,rfl⟩:=zO.1 hr;refine⟨[.int .i64 o.Start,.int .i64 o.Arrival,.int .i64 o.Cost],_,[],zB,fun d hd=> ?_,fun d hd=>by cases hd⟩;simp only[zH,zL,or_false] at hd
 rcases hd with rfl|rfl|rfl<;>rfl
def L5(a0:W (W XT))(a1:W Y):zA->Y->(W XT)->X (W XT)
| 0,_,_=>V
| n+1,v1,v2=>
 if(decide (v1<(a1.length:Y))) then(
 (ix a1 v1).bind fun x4=>
 (ix a0 v1).bind fun x5=>
 (ix x5 x4).bind fun x6=>
 if Ab v2.length ([x6]:W XT).length 48 then(
  L5 a0 a1 n (yA .i64 (v1+(1:Y))) (v2++([x6]:W XT)))
 else V)
 else(
 O v2)
def U8(a0:W (W XT))(a1:W Y):X (W XT):= L5 a0 a1 bigN (0:Y) ([]:W XT)
def hZ:Hw:=([(8,[0,5,9,10,11],[],[512])],[])
def iW:=fun a0 a1 (k_:Y->(W XT)->X (W XT))=>∀{v1 v2} {zr},k_ v1 v2=O zr->Kh zD 42 hZ 8 [0,5,9,10,11] [] [512] ⟨[pL 0 (rL (XT.row (O 5))) a0,pW 5 512,pL 9 rI a1,pI 10 (a1.length:Y),pI 11 v1],[],[(512,4,zC (XT.row (O 5)) v2)]⟩ (A5 [4] [.sc (.o 4 (zC (XT.row (O 5)) zr))])
def B6a{a0 a1}{n:zA}:iW a0 a1 (L5 a0 a1 n):=by
 induction n with
 | zero=>intro _ _ r h; cases h
 | succ n ih=>
  intro v1 v2 r h M hσ S hS;refine ev hS ?_;rw[L5] at h;refine AA (Av ?_);obtain⟨h3,h⟩|⟨h3,h⟩:=ic h
  .obtain⟨x4,h4,h⟩:=ob h;obtain⟨x5,h5,h⟩:=ob h;obtain⟨x6,h6,h⟩:=ob h;refine Aa ?_;refine AU (es:=zC (XT.row (O 5)) ([x6]:W XT)) ?_;obtain⟨h7,h⟩:=AR h;refine Aa ?_;exact ih h E3 kr
  .refine Aa ?_;cases h;exact t0
def A7g{a0}{a1}{r}(h:U8 a0 a1=O r):FC zD 42 [.sc (.sl (zC (rL (XT.row (O 5))) a0)),.sc (.sl (zC rI a1))] [.sc (.o 4 (zC (XT.row (O 5)) r))]:=by
 unfold U8 at h;refine A3 A2 hZ [4] 28 ?_;intro S hS;refine ev hS ?_;refine Aa ?_;refine AU (es:=zC (XT.row (O 5)) ([]:W XT)) ?_;refine Aa ?_;exact B6a h E3 kr
def A6d{tss:W (W XT)}{b:zA}:Ca b (zC (rL (XT.row (O 5))) tss)↔∃ts∈tss,∃t∈ts,t.tg b:=by
 refine⟨fun⟨r,hr,d,hd,h⟩=> ?_,fun⟨ts,h1,t,h2,h3⟩=>⟨_,zO.2 ⟨ts,h1,zB⟩,.sl (zC (XT.row (O 5)) ts),zE.2 zB,?_⟩⟩
 .obtain⟨ts,hts,rfl⟩:=zO.1 hr;obtain rfl:=zE.1 hd;cases h with | sl a c e=>exact⟨ts,hts,BT.1 ⟨_,a,_,c,e⟩⟩
 .obtain⟨r,hr,d,hd,h⟩:=BT (k:=some 5).2 ⟨t,h2,h3⟩;exact .sl hr hd h
def XT.unss:∀{tss:W (W XT)},UnRows (zC (rL (XT.row (O 5))) tss) (zC (rL X0.row) (tss.map (zC XT.o)))
 | []=> .nil
 | _::_=> .cons (.cons (.sl XT.uns) .nil) XT.unss
def Sw{α β:Type}{f:α->β}{l:W α}{i:Y}:ix (l.map f) i=(ix l i).map f:=by unfold ix; split<;>simp
def V0{α:Type}{l:W α}{i:Y}{x:α}(h:ix l i=O x):∃j:zA,i=j/\l[j]?=O x:=by
 unfold ix at h;split at h
 .exact⟨i.toNat,a9,h⟩
 .cases h
def WL(tss:W (W XT)):Prop:=(∀ts∈tss,ApT ts)/\tss.Pairwise fun l m=>∀s∈l,∀t∈m,∀b,s.tg b->¬t.tg b
def Yw{tss:W (W XT)}{ch:W Y}(hap:WL tss):∀(n:zA) (v:Y) (acc:W XT) (r:W X0),0<=v->v<=9223372036854775807->DE (tss.map (zC XT.o)) ch n v (acc.map XT.o)=O r->ApT acc->(∀s∈acc,∃(j:zA) (l:W XT),(j:Y)<v/\tss[j]?=O l/\s∈l)->
  ∃ts,L5 tss ch n v acc=O ts/\ts.map XT.o=r/\ApT ts
 | 0,_,_,_,_,_,h,_,_=>by cases h
 | n+1,v,acc,r,hv,hv2,h,ha,hj=>by
  rw[DE] at h;rw[L5];by_cases hlt:v<(ch.length:Y)
  .simp only[hlt,decide_true,if_true] at h ⊢
   obtain⟨x4,h4,h⟩:=ob h;obtain⟨x5,h5,h⟩:=ob h;obtain⟨x6,h6,h⟩:=ob h;rw[Sw,zP] at h5
   obtain⟨l,h5,rfl⟩:=h5;rw[Sw,zP] at h6
   obtain⟨t,h6,rfl⟩:=h6;obtain⟨hg,h⟩:=AR h;have hg:Ab acc.length ([t]:W XT).length 48=L:=by simpa using hg
   simp only[h4,h5,h6,Option.bind_some,hg,if_true];obtain⟨j,rfl,hjl⟩:=V0 h5;obtain⟨q,_,hq⟩:=V0 h6;have htl:t∈l:=zW hq
   have hap':ApT (acc++ [t]):=zI.2 ⟨ha,zK _ _,fun s hs t' ht' b hb hb'=>by
    rw[zE.1 ht'] at hb'
    obtain⟨j',l',hlt',hl',hs'⟩:=hj s hs;have hp:=zQ.1 hap.2;obtain⟨g1,g2⟩:=zN.1 hl';obtain⟨g3,g4⟩:=zN.1 hjl;exact hp j' j g1 g3 a9 s (g2▸hs') t (g4▸htl) b hb hb'⟩
   by_cases hw:(j:Y)+1<=9223372036854775807
   .rw[Ai a9 hw] at h ⊢
    refine Yw hap n _ (acc++ [t]) r a9 hw (by simpa using h) hap' fun s hs=> ?_
    rcases zV.1 hs with hs|hs
    .obtain⟨j',l',h1,h2⟩:=hj s hs;exact⟨j',l',a9,h2⟩
    .rw[zE.1 hs];exact⟨j,l,a9,hjl,htl⟩
   .exfalso
    have e:(j:Y)+1=9223372036854775808:=by omega
    rw[e,show yA .i64 9223372036854775808= -9223372036854775808 by decide +kernel] at h;cases n with
    | zero=>cases h
    | succ n=>
     rw[DE,if_pos (by rw[decide_eq_true_eq]; omega)] at h;simp[ix] at h
  .simp only[hlt,decide_false,Bool.false_eq_true,if_false] at h ⊢
   cases h;exact⟨acc,zB,zB,ha⟩
abbrev hF:Hw:=([(18,[3,4,5,7],[3,4,5],[896]),(22,[5,7,26,27,28],[5],[896,1664])],[])
def xCh{us:W XT}{a2:X0}(hus:ApT us){n:zA}:∀{v10:Y} {v11:W XT} {zr:W X0},0<=v10->v10<=9223372036854775807->ApT v11->(∀s∈v11,(∃j:zA,(j:Y)<v10/\us[j]?=O s)\/∀t∈us,∀b,s.tg b->¬t.tg b)->Dp (us.map XT.o) a2 n v10 (v11.map XT.o)=O zr->
  Kh zD 38 hF 22 [5,7,26,27,28] [5] [896,1664] ⟨[pB 5,pW 7 896,pW 26 1664,pI 27 (us.length:Y),pI 28 v10],[(5,[aI a2.Start,aI a2.Arrival,aI a2.Cost,.old (.sl (zC X1.row a2.Passages))])],[(896,4,zC (XT.row (O 5)) v11),(1664,4,zC (XT.row (O 5)) us)]⟩ (Fy [6] (Ii zr)):=by
 induction n with
 | zero=>intro _ _ _ _ _ _ _ h; cases h
 | succ n ih=>
  intro v10 v11 zr h0 h9 hap hsep h M hσ S hS;refine ev hS ?_;rw[Dp,zT] at h;refine AA (Av ?_);obtain⟨hb12,h⟩|⟨hb12,h⟩:=ic h
  .obtain⟨x,hx,h⟩:=ob h;rw[Sw,zP] at hx
   obtain⟨x13,hx13,rfl⟩:=hx;have hx13n:=Ah hx13;obtain⟨r14,hr14,h⟩:=ob h;refine Aa ?_;refine B8 ((Ag fg hr14).un (.cons (.ag XT.un) (.cons .refl .nil))) zB (Br zB) zB (uf zB) ?_;obtain⟨j,rfl,hj⟩:=V0 hx13;have hmem:x13∈us:=zW hj
   have hw:(j:Y)+1<=9223372036854775807\/∀(v:W X0),Dp (us.map XT.o) a2 n (yA .i64 ((j:Y)+1)) v=V:=by
    by_cases hw:(j:Y)+1<=9223372036854775807
    .exact .inl hw
    .refine .inr fun v=> ?_
     have e:(j:Y)+1=9223372036854775808:=by omega
     rw[e,show yA .i64 9223372036854775808= -9223372036854775808 by decide +kernel];cases n with
     | zero=>rfl
     | succ n=>
      rw[Dp,if_pos (by rw[decide_eq_true_eq]; omega)];simp[ix]
   obtain⟨hb15,h⟩|⟨hb15,h⟩:=ic h
   .rcases hw with hw|hw
    .rw[Ai a9 hw] at h;refine Aa ?_;rw[Ai a9 hw];refine ih a9 hw hap (fun s hs=> ?_) h ?_ (by kernel_rfl)
     .rcases hsep s hs with ⟨k,hk,e⟩|hk
      .exact .inl ⟨k,a9,e⟩
      .exact .inr hk
     .try simp only[hx13,hx13n,hb15,B,E,F,I,J,U,B5,pL,aM,zF]
    .rw[hw] at h; cases h
   .obtain⟨hg16,h⟩:=AR h;have hg16:Ab v11.length ([x13]:W XT).length 48=L:=by simpa using hg16
    rcases hw with hw|hw
    .rw[Ai a9 hw] at h;refine Aa ?_;refine AU (es:=zC (XT.row (O 5)) ([x13]:W XT)) ?_;refine Aa ?_;rw[Ai a9 hw];refine ih (v11:=v11++ [x13]) a9 hw ?_ (fun s hs=> ?_) (by simpa using h) ?_ (by kernel_rfl)
     .refine zI.2 ⟨hap,zK _ _,fun s hs t ht b hb hb'=> ?_⟩;rw[zE.1 ht] at hb'
      rcases hsep s hs with ⟨k,hk,e⟩|hk
      .obtain⟨g1,g2⟩:=zN.1 e;obtain⟨g3,g4⟩:=zN.1 hj;have:=zQ.1 hus k j g1 g3 a9 b;rw[g2,g4] at this
       exact this hb hb'
      .exact hk x13 hmem b hb hb'
     .rcases zV.1 hs with hs|hs
      .rcases hsep s hs with ⟨k,hk,e⟩|hk
       .exact .inl ⟨k,a9,e⟩
       .exact .inr hk
      .rw[zE.1 hs];exact .inl ⟨j,a9,hj⟩
     .try simp only[hx13,hx13n,hb15,hg16,B,E,F,I,J,U,B5,pL,aM,zF]
    .rw[show((v11.map XT.o)++ [x13.o])=(v11++ [x13]).map XT.o by simp] at h;rw[hw] at h; cases h
  .refine Aa ?_;cases h;exact⟨_,⟨v11,zB,zB,hap⟩,t0⟩
def iA{a0:X3}{a1:X8}{a2:X0}{v7:W XT}{zr:W X0}(hap:ApT v7)(h:IC a0 a1 a2 (v7.map XT.o)=O zr) :
  Kh zD 38 hF 18 [3,4,5,7] [3,4,5] [896] ⟨[pB 3,pB 4,pB 5,pW 7 896],[(3,[aI a0.Forecast.Tide.Mean,.old (.sl (zC zS a0.Forecast.Tide.Parts)),.old (.sl (zC X9.row a0.Forecast.Surges)),.old (.sl (zC X7.row a0.Chart.Points)),.old (.sl (zC X2.row a0.Chart.Segments)),.old (.sl (zC X5.row a0.Fleet)),aI a0.Regime.Gap,aB a0.Regime.NoMeet,aI a0.Crew.Tugs,aI a0.Crew.Pilots,aI a0.Crew.Rest,.old (.sl (zC rI a0.Crew.Moves))]),(4,[aI a1.Ship,aI a1.From,aI a1.To,aI a1.Ready,aI a1.Due]),(5,[aI a2.Start,aI a2.Arrival,aI a2.Cost,.old (.sl (zC X1.row a2.Passages))])],[(896,4,zC (XT.row (O 5)) v7)]⟩ (Fy [6] (Ii zr)):=by
 intro M hσ S hS;refine ev hS ?_;refine Av ?_;unfold IC at h;obtain⟨r9,hr9,h⟩:=ob h;refine Aa ?_;refine HN (A94 hr9) (ds':= [.ag (X3.row a0),.ag (X8.row a1)]) (by first | rfl | kernel_rfl) .refl rfl (fun rs ⟨_,e,_⟩=>by subst e; exact uf rfl) ?_;rintro rs ⟨us,rfl,rfl,hus⟩ hN
 have hnew:∀s∈v7,∀t∈us,∀b,s.tg b->¬t.tg b:=fun s hs t ht b h1 h2=>zR b (hN b b (St.tg_own (k:=7) rfl rfl (BT.2 ⟨s,hs,h1⟩)) ⟨.o 4 (zC (XT.row (O 5)) us),by simp[R1.cells],BT.2 ⟨t,ht,h2⟩⟩)
 clear hN
 refine Aa ?_;refine xCh hus (Int.le_refl 0) a9 hap (fun s hs=> .inr (hnew s hs)) h ?_ (by kernel_rfl);try simp only[B,E,F,I,J,U,B5,pL,aM,zF,zT]
def rZ:AF zD 38=O ((By zD 38 hF).strip,[6],42):=by kernel_rfl
def A93{a0:X3}{a1:X8}{a2:X0}{r:W X0}(h:EL a0 a1 a2=O r):FCs zD 38 [.ag (X3.row a0),.ag (X8.row a1),.ag (X0.row a2)] (Ii r):=by
 unfold EL at h;refine QN (M:=⟨[(0,va [aI a0.Forecast.Tide.Mean,.old (.sl (zC zS a0.Forecast.Tide.Parts)),.old (.sl (zC X9.row a0.Forecast.Surges)),.old (.sl (zC X7.row a0.Chart.Points)),.old (.sl (zC X2.row a0.Chart.Segments)),.old (.sl (zC X5.row a0.Fleet)),aI a0.Regime.Gap,aB a0.Regime.NoMeet,aI a0.Crew.Tugs,aI a0.Crew.Pilots,aI a0.Crew.Rest,.old (.sl (zC rI a0.Crew.Moves))]),(1,va [aI a1.Ship,aI a1.From,aI a1.To,aI a1.Ready,aI a1.Due]),(2,va [aI a2.Start,aI a2.Arrival,aI a2.Cost,.old (.sl (zC X1.row a2.Passages))])],[],[]⟩) A2 rZ zB zB ?_;refine BC hF ?_;intro S hS;refine ev hS ?_;obtain⟨r1,h1,h⟩:=ob h;refine Aa ?_;refine B8 (Ag Wr h1) zB (Br zB) zB (uf zB) ?_;obtain⟨h2,h⟩|⟨h2,h⟩:=ic h
 .obtain⟨r3,h3,h⟩:=ob h;refine Aa ?_;refine AU (es:=zC (XT.row (O 5)) ([]:W XT)) ?_;refine Aa ?_;refine B8 (Ag fb h3) zB (Br zB) zB (uf zB) ?_;obtain⟨h4,h⟩|⟨h4,h⟩:=ic h
  .obtain⟨r5,h5,h⟩:=ob h;refine Aa ?_;refine HN (FCf.tag ((Ag fk h5).newf (BL rfl ⟨rfl,rfl,rfl,AQ,⟨⟩⟩))) (ds':= [.ag (X0.row a2)]) (by first | rfl | kernel_rfl) .refl rfl (fun rs ⟨g,e⟩=>by subst e; exact uf rfl) ?_;rintro rs ⟨g,rfl⟩ _
   simp only[D6,Ib,RC.tagO];refine Aa ?_;refine AU (es:=zC (XT.row (O 5)) ([⟨r5,g 3⟩]:W XT)) ?_;obtain⟨h6,h⟩:=AR h;have h6:Ab ([]:W XT).length ([⟨r5,g 3⟩]:W XT).length 48=L:=h6;refine Aa ?_;exact iA (v7:= [⟨r5,g 3⟩]) (zK _ _) h E3 kr
  .refine Aa ?_;exact iA (v7:= []) .nil h E3 kr
 .refine Aa ?_;cases h;exact⟨_,⟨[],zB,zB,.nil⟩,t0⟩
abbrev sT(a1:W X8)(a0:X3)(a2:W X0)(v5:Y)(x8:X8)(x9:X0)(ws9_ wo0_:AV)(wo7_ wu10_:AV)(c0_ c1_:Z)(c2_ c3_:Z)(c4_ c5_:Z)(c6_ c7_:Z)(c8_ c9_:Z)(rs_:Rows):St:=⟨[(3,vc (.pb 3 0)),(5,vc (.pb 5 0)),(9,ws9_),(10,vc (aI v5)),(11,vc (.pb 11 0)),(27,vc (.old (.sl (zC X8.row a1)))),(28,vc (aI (a1.length:Y))),(29,vc (aI v5)),(41,bif c0_ then wo0_ else .undef),(42,bif c1_ then va [aI a0.Forecast.Tide.Mean,.old (.sl (zC zS a0.Forecast.Tide.Parts)),.old (.sl (zC X9.row a0.Forecast.Surges)),.old (.sl (zC X7.row a0.Chart.Points)),.old (.sl (zC X2.row a0.Chart.Segments)),.old (.sl (zC X5.row a0.Fleet)),aI a0.Regime.Gap,aB a0.Regime.NoMeet,aI a0.Crew.Tugs,aI a0.Crew.Pilots,aI a0.Crew.Rest,.old (.sl (zC rI a0.Crew.Moves))] else .undef),(43,bif c2_ then va [aI x8.Ship,aI x8.From,aI x8.To,aI x8.Ready,aI x8.Due] else .undef),(44,bif c3_ then vc (.old (.sl (zC X0.row a2))) else .undef),(45,bif c4_ then vc (aI v5) else .undef),(46,bif c5_ then vc (.old (.pd [.int .i64 x9.Start,.int .i64 x9.Arrival,.int .i64 x9.Cost,.sl (zC X1.row x9.Passages)])) else .undef),(47,bif c6_ then va [aI x9.Start,aI x9.Arrival,aI x9.Cost,.old (.sl (zC X1.row x9.Passages))] else .undef),(48,bif c7_ then wo7_ else .undef),(49,bif c8_ then vc (.own 3136) else .undef),(50,bif c9_ then vc (.own 1664) else .undef),(9,wu10_)],[(3,[aI a0.Forecast.Tide.Mean,.old (.sl (zC zS a0.Forecast.Tide.Parts)),.old (.sl (zC X9.row a0.Forecast.Surges)),.old (.sl (zC X7.row a0.Chart.Points)),.old (.sl (zC X2.row a0.Chart.Segments)),.old (.sl (zC X5.row a0.Fleet)),aI a0.Regime.Gap,aB a0.Regime.NoMeet,aI a0.Crew.Tugs,aI a0.Crew.Pilots,aI a0.Crew.Rest,.old (.sl (zC rI a0.Crew.Moves))]),(5,[.old (.sl (zC X0.row a2))]),(11,[aI x8.Ship,aI x8.From,aI x8.To,aI x8.Ready,aI x8.Due])],rs_⟩
abbrev tT(a1:W X8)(a0:X3)(a2:W X0)(v5:Y)(tss:W (W XT))(x8:X8)(x9:X0)(ts:W XT):St:=sT a1 a0 a2 v5 x8 x9 (vc (.own 1664)) (vc (.undef)) (vc (aL (zC (XT.row (O 5)) ts))) (vc (.own 1664)) L L L L L L L L L L [(1664,1,zC (rL (XT.row (O 5))) (tss++([ts]:W (W XT)))),(3136,1,zC (rL (XT.row (O 5))) ([ts]:W (W XT)))]
def OT(a1:W X8)(a0:X3)(a2:W X0)(v5:Y)(tss:W (W XT))(x8:X8)(x9:X0)(r:W X0)(M:St):Prop:=∃ts:W XT,(ts.map XT.o=r/\ApT ts/\∀l∈tss,∀s∈l,∀t∈ts,∀b,s.tg b->¬t.tg b)/\M=tT a1 a0 a2 v5 tss x8 x9 ts
section
variable {a1 : W X8} {a0 : X3} {a2 : W X0} {v5 : Y} {tss : W (W XT)} {x8 : X8} {x9 : X0} {r12 : W X0}
def xY0{ts:W XT}(hK:ts.map XT.o=r12/\ApT ts/\∀l∈tss,∀s∈l,∀t∈ts,∀b,s.tg b->¬t.tg b):∀(f:zA),CL zD QI (OT a1 a0 a2 v5 tss x8 x9 r12) f [L,L,L,L,L,L,L,L,L,L,L] (tT a1 a0 a2 v5 tss x8 x9 ts):=by
 intro f
 induction f with
 | zero=>exact fun _=>⟨ts,hK,rfl⟩
 | succ f ih=>
  refine Ae ⟨?_,?_,?_,?_,?_,?_,?_,?_,?_,?_,?_,⟨⟩⟩<;>(intro h; cases h; done)
def xY1(hx9:ix a2 v5=O x9){ts:W XT}(hK:ts.map XT.o=r12/\ApT ts/\∀l∈tss,∀s∈l,∀t∈ts,∀b,s.tg b->¬t.tg b):∀(f:zA) (b3 b4 b5:Z),CL zD QI (OT a1 a0 a2 v5 tss x8 x9 r12) f [L,L,L,b3,b4,b5,L,L,L,L,N] (sT a1 a0 a2 v5 x8 x9 (vc (.undef)) (vc (.undef)) (vc (aL (zC (XT.row (O 5)) ts))) (vc (.undef)) L L L b3 b4 b5 L L L L [(1664,1,zC (rL (XT.row (O 5))) (tss++([ts]:W (W XT)))),(3136,1,zC (rL (XT.row (O 5))) ([ts]:W (W XT)))]):=by
 intro f
 induction f with
 | zero=>intro b3 b4 b5 h; simp at h
 | succ f ih=>
  intro b3 b4 b5;refine Ae ⟨?_,?_,?_,?_,?_,?_,?_,?_,?_,?_,?_,⟨⟩⟩<;>try first | (intro h; cases h; done) | (intro _ hw; simp at hw; done) | (intro h0 hw; obtain rfl:=hz h0 rfl; (try obtain rfl:=hq hw 3 rfl rfl); (try obtain rfl:=hq hw 4 rfl rfl); (try obtain rfl:=hq hw 5 rfl rfl); refine np ?_; simp only[hx9,A7,A8,A4,B,E,F,I,J,U,B5]; exact ih _ _ _)
  .intro h0 hw;obtain rfl:=hq hw 3 rfl rfl;obtain rfl:=hq hw 4 rfl rfl;obtain rfl:=hq hw 5 rfl rfl;refine⟨[],[(V,.keep [3,5,9,10,11,27,28,29,41,42,43,44,45,46,47,48,49,50,9] [3,5,11] [1664,3136])],zB,zB,?_⟩;try simp only[A7,A8,zJ,zM,A4,B,E,F,I,J,U,B5]
   exact xY0 hK _
def xY2(hx9:ix a2 v5=O x9){ts:W XT}(hg13:Ab tss.length ([ts]:W (W XT)).length 24=L)(hK:ts.map XT.o=r12/\ApT ts/\∀l∈tss,∀s∈l,∀t∈ts,∀b,s.tg b->¬t.tg b):∀(f:zA) (b0 b3 b4 b5:Z),CL zD QI (OT a1 a0 a2 v5 tss x8 x9 r12) f [b0,L,L,b3,b4,b5,L,L,L,N,N] (sT a1 a0 a2 v5 x8 x9 (vc (.own 1664)) (vc (.own 1664)) (vc (aL (zC (XT.row (O 5)) ts))) (vc (.own 1664)) b0 L L b3 b4 b5 L L L N [(1664,1,zC (rL (XT.row (O 5))) tss),(3136,1,zC (rL (XT.row (O 5))) ([ts]:W (W XT)))]):=by
 intro f
 induction f with
 | zero=>intro b0 b3 b4 b5 h; simp at h
 | succ f ih=>
  intro b0 b3 b4 b5;refine Ae ⟨?_,?_,?_,?_,?_,?_,?_,?_,?_,?_,?_,⟨⟩⟩<;>try first | (intro h; cases h; done) | (intro _ hw; simp at hw; done) | (intro h0 hw; obtain rfl:=hz h0 rfl; (try obtain rfl:=hq hw 3 rfl rfl); (try obtain rfl:=hq hw 4 rfl rfl); (try obtain rfl:=hq hw 5 rfl rfl); refine np ?_; simp only[hx9,A7,A8,A4,B,E,F,I,J,U,B5]; exact ih _ _ _ _)
  .intro h0 hw;obtain rfl:=hq hw 0 rfl rfl;refine⟨[],[(V,.keep [3,5,9,10,11,27,28,29,41,42,43,44,45,46,47,48,49,50,9] [3,5,11] [1664,3136])],zB,zB,?_⟩;try simp only[hg13,A7,A8,zJ,zM,A4,B,E,F,I,J,U,B5]
   exact xY1 hx9 hK _ b3 b4 b5
def xY3(hx9:ix a2 v5=O x9){ts:W XT}(hg13:Ab tss.length ([ts]:W (W XT)).length 24=L)(hK:ts.map XT.o=r12/\ApT ts/\∀l∈tss,∀s∈l,∀t∈ts,∀b,s.tg b->¬t.tg b):∀(f:zA) (b0 b3 b4 b5:Z),CL zD QI (OT a1 a0 a2 v5 tss x8 x9 r12) f [b0,L,L,b3,b4,b5,L,L,N,N,N] (sT a1 a0 a2 v5 x8 x9 (vc (.own 1664)) (vc (.own 1664)) (vc (.own 3072)) (vc (.own 1664)) b0 L L b3 b4 b5 L L N N [(1664,1,zC (rL (XT.row (O 5))) tss),(3072,4,zC (XT.row (O 5)) ts)]):=by
 intro f
 induction f with
 | zero=>intro b0 b3 b4 b5 h; simp at h
 | succ f ih=>
  intro b0 b3 b4 b5;refine Ae ⟨?_,?_,?_,?_,?_,?_,?_,?_,?_,?_,?_,⟨⟩⟩<;>try first | (intro h; cases h; done) | (intro _ hw; simp at hw; done) | (intro h0 hw; obtain rfl:=hz h0 rfl; (try obtain rfl:=hq hw 3 rfl rfl); (try obtain rfl:=hq hw 4 rfl rfl); (try obtain rfl:=hq hw 5 rfl rfl); refine np ?_; simp only[hx9,A7,A8,A4,B,E,F,I,J,U,B5]; exact ih _ _ _ _)
  .intro h0 hw;refine⟨[(V,.frz 3072)],[(V,.keep [3,5,9,10,11,27,28,29,41,42,43,44,45,46,47,48,49,50,9] [3,5,11] [1664,3136])],zB,zB,?_⟩;try simp only[A7,A8,zJ,zM,A4,B,E,F,I,J,U,B5]
   refine Gn ?_;try simp only[A4,B,E,F,I,J,U,B5]
   refine S7 (es:=zC (rL (XT.row (O 5))) ([ts]:W (W XT))) zB (by simp only[St.fresh,List.all_cons,List.all_nil,Cu]; simp[AV.cells,V1.cells,AC.uses]) ?_;try simp only[A4,B,E,F,I,J,U,B5]
   exact xY2 hx9 hg13 hK _ b0 b3 b4 b5
def xY4(hx9:ix a2 v5=O x9)(hr12:EL a0 x8 x9=O r12)(hg13:Ab tss.length 1 24=L):∀(f:zA) (b0 b1 b2 b3 b4 b5 b6:Z),CL zD QI (OT a1 a0 a2 v5 tss x8 x9 r12) f [b0,b1,b2,b3,b4,b5,b6,N,N,N,N] (sT a1 a0 a2 v5 x8 x9 (vc (.own 1664)) (vc (.own 1664)) (vc (.own 3072)) (.undef) b0 b1 b2 b3 b4 b5 b6 N N N [(1664,1,zC (rL (XT.row (O 5))) tss)]):=by
 intro f
 induction f with
 | zero=>intro b0 b1 b2 b3 b4 b5 b6 h; simp at h
 | succ f ih=>
  intro b0 b1 b2 b3 b4 b5 b6;refine Ae ⟨?_,?_,?_,?_,?_,?_,?_,?_,?_,?_,?_,⟨⟩⟩<;>try first | (intro h; cases h; done) | (intro _ hw; simp at hw; done) | (intro h0 hw; obtain rfl:=hz h0 rfl; (try obtain rfl:=hq hw 3 rfl rfl); (try obtain rfl:=hq hw 4 rfl rfl); (try obtain rfl:=hq hw 5 rfl rfl); refine np ?_; simp only[hx9,A7,A8,A4,B,E,F,I,J,U,B5]; exact ih _ _ _ _ _ _ _)
  .intro h0 hw;obtain rfl:=hq hw 1 rfl rfl;obtain rfl:=hq hw 2 rfl rfl;obtain rfl:=hq hw 6 rfl rfl;refine⟨[],[(V,.keep [3,5,9,10,11,27,28,29,41,42,43,44,45,46,47,48,49,50,9] [3,5,11] [1664,3072])],zB,zB,?_⟩;try simp only[A7,A8,zJ,zM,A4,B,E,F,I,J,U,B5]
   refine HN (A93 hr12) (ds':= [.ag (X3.row a0),.ag (X8.row x8),.ag (X0.row x9)]) (by first | rfl | kernel_rfl) .refl (by simp only[St.fresh,List.all_cons,List.all_nil,Cu]; simp[AV.cells,V1.cells,AC.uses]) (fun rs ⟨_,e,_⟩=>by subst e; exact uf rfl) ?_;rintro rs ⟨ts,rfl,et,hts⟩ hN
   have hnew:∀l∈tss,∀s∈l,∀t∈ts,∀b,s.tg b->¬t.tg b:=fun l hl s hs t ht b h1 h2=>zR b (hN b b (St.tg_own (k:=9) rfl rfl (A6d.2 ⟨l,hl,s,hs,h1⟩)) ⟨.o 4 (zC (XT.row (O 5)) ts),by simp[R1.cells],BT.2 ⟨t,ht,h2⟩⟩)
   clear hN
   try simp only[A4,B,E,F,I,J,U,B5]
   exact xY3 hx9 hg13 ⟨et,hts,hnew⟩ _ b0 b3 b4 b5
end
def Tu(q:W X0 × Y × Z)(rs:W R1):Prop:=∃ts:W XT,rs= [.sc (.o 4 (zC (XT.row (O 5)) ts)),.sc (.v (.int .i64 q.2.1)),.sc (.v (.bool q.2.2))]/\ts.map XT.o=q.1/\ApT ts
abbrev hP:Hw:=([(5,[1,3,5,25],[3,5],[]),(16,[3,5,9,27,28,29],[3,5],[1664])],[(38,4,(V,.frz 3584)),(41,2,(V,.frz 1664))])
def xCp{a2:W X0}{a1:W X8}{a0:X3}{n:zA}:∀{v5:Y} {tss:W (W XT)} {zr:W X0 × Y × Z},WL tss->GY a1 a0 a2 n v5 (tss.map (zC XT.o))=O zr->
  Kh zD 11 hP 16 [3,5,9,27,28,29] [3,5] [1664] ⟨[pB 3,pB 5,pW 9 1664,(27,vc (.old (.sl (zC X8.row a1)))),pI 28 (a1.length:Y),pI 29 v5],[(3,[aI a0.Forecast.Tide.Mean,.old (.sl (zC zS a0.Forecast.Tide.Parts)),.old (.sl (zC X9.row a0.Forecast.Surges)),.old (.sl (zC X7.row a0.Chart.Points)),.old (.sl (zC X2.row a0.Chart.Segments)),.old (.sl (zC X5.row a0.Fleet)),aI a0.Regime.Gap,aB a0.Regime.NoMeet,aI a0.Crew.Tugs,aI a0.Crew.Pilots,aI a0.Crew.Rest,.old (.sl (zC rI a0.Crew.Moves))]),(5,[.old (.sl (zC X0.row a2))])],[(1664,1,zC (rL (XT.row (O 5))) tss)]⟩ (Fy [6,7,8] (Tu zr)):=by
 induction n with
 | zero=>intro _ _ _ _ h; cases h
 | succ n ih=>
  intro v5 tss zr hap h M hσ S hS;refine ev hS ?_;rw[GY,zT] at h;refine AA (Av ?_);obtain⟨h7,h⟩|⟨h7,h⟩:=ic h
  .obtain⟨x8,h8,h⟩:=ob h;refine Aa ?_;obtain⟨x9,h9,h⟩:=ob h;obtain⟨r10,h10,h⟩:=ob h;refine Aa ?_;refine B8 (Ag fm h10) zB (Br zB) zB (uf zB) ?_;obtain⟨h11,h⟩|⟨h11,h⟩:=ic h
   .refine Aa ?_;obtain⟨r12,h12,h⟩:=ob h;obtain⟨h13,h⟩:=AR h;have h13:Ab tss.length 1 24=L:=h13;refine uK (ks:= [3,5,9,10,11,27,28,29]) (bs:= [3,5,11]) (rs:= [1664]) (T:=OT a1 a0 a2 v5 tss x8 x9 r12) zB (xY4 h9 h12 h13 _ N N N N N N N) ?_;rintro τ ⟨ts,⟨rfl,hts,hnew⟩,rfl⟩
    simp only[tT,sT,A7];refine Aa ?_;refine ih (tss:=tss++ [ts]) ⟨fun l hl=> ?_,zI.2 ⟨hap.2,zK _ _,fun l hl m hm=> ?_⟩⟩ (by simpa using h) ?_ (by kernel_rfl)
    .rcases zV.1 hl with hl|hl
     .exact hap.1 l hl
     .rw[zE.1 hl]; exact hts
    .rw[zE.1 hm];exact hnew l hl
    try simp only[B,E,F,I,J,U,B5,pL,aM,zF]
   .refine Aa ?_;cases h;exact⟨_,⟨[],zB,zB,.nil⟩,⟨zB,zB,zB,⟨⟩⟩,zB⟩
  .obtain⟨r14,h14,h⟩:=ob h;refine Aa ?_;refine B8 ((A71 40 [.pd ((rL X0.row) a2)] (by kernel_rfl) (fun z0 zr zh=>A7j zh) h14).un (.cons .refl (.cons (.sc (.sl XT.unss)) .refl))) zB (BL zB ⟨AQ,zB,zB,zB,⟨⟩⟩) zB (uf zB) ?_;refine Aa ?_;obtain⟨h15,h⟩|⟨h15,h⟩:=ic h
   .refine Aa ?_;obtain⟨r16,h16,h⟩:=ob h;obtain⟨ts,hts,e16,hats⟩:=Yw hap bigN 0 [] r16 a9 a9 h16 .nil (fun s hs=>by cases hs);have hts:U8 tss r14.1=O ts:=hts;refine Aa ?_;refine CO (A7g hts) ?_;refine Aa ?_;cases h;exact⟨_,⟨ts,zB,e16,hats⟩,⟨zB,zB,zB,⟨⟩⟩,zB⟩
   .refine Aa ?_;cases h;exact⟨_,⟨[],zB,zB,.nil⟩,⟨zB,zB,zB,⟨⟩⟩,zB⟩
def iB{a2:W X0}{a1:W X8}{a0:X3}{v3:Z}{zr:W X0 × Y × Z}(h:Nb a1 a0 a2 v3=O zr) :
  Kh zD 11 hP 5 [1,3,5,25] [3,5] [] ⟨[(1,vc (.old (.sl (zC X8.row a1)))),pB 3,pB 5,(25,vc (aB v3))],[(3,[aI a0.Forecast.Tide.Mean,.old (.sl (zC zS a0.Forecast.Tide.Parts)),.old (.sl (zC X9.row a0.Forecast.Surges)),.old (.sl (zC X7.row a0.Chart.Points)),.old (.sl (zC X2.row a0.Chart.Segments)),.old (.sl (zC X5.row a0.Fleet)),aI a0.Regime.Gap,aB a0.Regime.NoMeet,aI a0.Crew.Tugs,aI a0.Crew.Pilots,aI a0.Crew.Rest,.old (.sl (zC rI a0.Crew.Moves))]),(5,[.old (.sl (zC X0.row a2))])],[]⟩ (Fy [6,7,8] (Tu zr)):=by
 intro M hσ S hS;refine ev hS ?_;refine Av ?_;unfold Nb at h;obtain⟨h4,h⟩|⟨h4,h⟩:=ic h
 .refine Aa ?_;cases h;exact⟨_,⟨[],zB,zB,.nil⟩,⟨zB,zB,zB,⟨⟩⟩,zB⟩
 .refine Aa ?_;refine AU (es:=zC (rL (XT.row (O 5))) ([]:W (W XT))) ?_;refine Aa ?_;exact xCp (tss:= []) ⟨fun l hl=>(by cases hl),.nil⟩ h E3 kr
def ra:AF zD 11=O ((By zD 11 hP).strip,[6,7,8],67):=by kernel_rfl
def gE{a0:X3}{a1:W X8}{a2:W X0}{r:W X0 × Y × Z}(h:GX a0 a1 a2=O r):FCs zD 11 [.ag (X3.row a0),.sc (.sl (zC X8.row a1)),.sc (.sl (zC X0.row a2))] (Tu r):=by
 unfold GX at h;refine QN (M:=⟨[(0,va [aI a0.Forecast.Tide.Mean,.old (.sl (zC zS a0.Forecast.Tide.Parts)),.old (.sl (zC X9.row a0.Forecast.Surges)),.old (.sl (zC X7.row a0.Chart.Points)),.old (.sl (zC X2.row a0.Chart.Segments)),.old (.sl (zC X5.row a0.Fleet)),aI a0.Regime.Gap,aB a0.Regime.NoMeet,aI a0.Crew.Tugs,aI a0.Crew.Pilots,aI a0.Crew.Rest,.old (.sl (zC rI a0.Crew.Moves))]),(1,vc (.old (.sl (zC X8.row a1)))),(2,vc (.old (.sl (zC X0.row a2))))],[],[]⟩) A2 ra zB zB ?_;refine BC hP ?_;intro S hS;refine ev hS ?_;obtain⟨r1,h1,h⟩:=ob h;refine Aa ?_;refine B8 (Ag A7i h1) zB (Br zB) zB (uf zB) ?_;obtain⟨h2,h⟩|⟨h2,h⟩:=ic h
 .refine Aa ?_;exact iB h E3 kr
 .refine Aa ?_;exact iB h E3 kr
def FCs.untell{P:Program}{f:FuncId}{ds:W DV}{RS:W R1->Prop}{d:D}(H:FCs P f ds RS)(hu:∀rs,RS rs->∃sz es,rs= [.sc (.o sz es)]/\Un (.sl es) d):FCf P f ds [.sc (.v d)]:=by
 intro w A vs hG hvs;refine(H w A vs hG hvs).mono fun e w' h=> ?_
 obtain⟨rs,v,bs,hr,rfl,h2,h3,h4,_⟩:=h;obtain⟨sz,es,rfl,hu⟩:=hu rs hr;have:=h3.asV (h':=Al (fun b fr=>O b∉bs.map (fun _=>(V:X zA))/\((w.heap.size<=b/\fr=(0,0))\/False)) w') (fun b C ⟨c,t,fr,⟨_,k2⟩,k3⟩=>⟨c,t,fr,⟨DU,k2⟩,k3⟩) (fun k hk C t hC=>⟨C,t,_,⟨DU,.inl ⟨(h4 k hk).1,rfl⟩⟩,hC,rfl⟩);refine⟨v,bs.map fun _=>V,zB,h2,?_,fun b hb=>absurd hb DU,fun i j b hi _=>absurd (zW hi) DU⟩;simp only[zG,zF,R1.asV,RC.asV] at this
 generalize bs.map (fun _=>(V:X zA))=bs' at this ⊢
 cases this with
 | one a=>
  cases a with | sc a=>
  cases a with | v a=>exact .one (.sc (.v (a.un hu)))
 | many hl=>simp at hl
def ApT.put{ts:W XT}{t:XT}(h:ApT ts)(i:zA)(hn:∀s∈ts,∀b,s.tg b->¬t.tg b):ApT (ts.set i t):=by
 unfold ApT at h ⊢
 rw[zQ] at h ⊢
 intro a c ha hc hac b h1 h2;simp only[List.length_set] at ha hc
 simp only[List.getElem_set] at h1 h2
 split at h1
 .split at h2
  .omega
  .exact hn _ (List.getElem_mem hc) b h2 h1
 .split at h2
  .exact hn _ (List.getElem_mem ha) b h1 h2
  .exact h a c ha hc hac b h1 h2
abbrev Ul:Hw:=([(8,[0,3,4],[],[448])],[])
def xTo{a0:W X0}{n:zA}:∀{v2:Y} {v3:W XT} {zr:W X0},ApT v3->Jn a0 n v2 (v3.map XT.o)=O zr->
  Kh zD 10 Ul 8 [0,3,4] [] [448] ⟨[(0,vc (.old (.sl (zC X0.row a0)))),pW 3 448,pI 4 v2],[],[(448,4,zC (XT.row (O 5)) v3)]⟩ (Fy [2] (Ii zr)):=by
 induction n with
 | zero=>intro _ _ _ _ h; cases h
 | succ n ih=>
  intro v2 v3 zr hap h M hσ S hS;refine ev hS ?_;rw[Jn] at h;refine AA (Av ?_);obtain⟨h4,h⟩|⟨h4,h⟩:=ic h
  .obtain⟨x5,h5,h⟩:=ob h;obtain⟨r6,h6,h⟩:=ob h;refine Aa ?_;refine HN (FCf.tag ((Ag A8q h6).newf (BL rfl ⟨rfl,rfl,rfl,AQ,⟨⟩⟩))) (ds':= [.ag (X0.row x5)]) (by first | rfl | kernel_rfl) .refl rfl (fun rs ⟨g,e⟩=>by subst e; exact uf rfl) ?_;rintro rs ⟨g,rfl⟩ hN
   have hnew:∀t∈v3,∀b,t.tg b->¬(⟨r6,g 3⟩:XT).tg b:=fun t ht b hb hp=>by
    have:=hN b (g 3) (St.tg_own (k:=3) rfl rfl (BT.2 ⟨t,ht,hb⟩)) ⟨.v (D.tagW (O 5) (g 3) (.sl (zC X1.row r6.Passages))),by simp[D6,Ib,RC.tagO,R1.cells],(VU K7).2 ⟨by simpa using hp.1,rfl⟩⟩;have e:=hp.2;simp only at e
    omega
   clear hN
   simp only[D6,Ib,RC.tagO];obtain⟨x,hx,h⟩:=ob h;rw[Sw,zP] at hx
   obtain⟨x7,h7,rfl⟩:=hx;have h7n:=Ah h7;refine Aa ?_;refine AM (row:=XT.row (O 5)) (y:=⟨r6,g 3⟩) zB zB h7n zB zB (by rfl) ?_;refine Aa ?_;exact ih (v3:=v3.set (Int.toNat v2) ⟨r6,g 3⟩) (hap.put _ hnew) (by rw[List.map_set]; exact h) E3 kr
  .refine Aa ?_;cases h;exact⟨_,⟨v3,zB,zB,hap⟩,t0⟩
def rf:AF zD 10=O ((By zD 10 Ul).strip,[2],23):=by kernel_rfl
def gF{a0 r:W X0}(h:Ei a0=O r):FCs zD 10 [.sc (.sl (zC X0.row a0))] (Ii r):=by
 unfold Ei at h;refine QN (M:=⟨[(0,vc (.old (.sl (zC X0.row a0))))],[],[]⟩) A2 rf zB zB ?_;refine BC Ul ?_;intro S hS;refine ev hS ?_;obtain⟨n1,hn1,h⟩:=ob h;refine Aa ?_;refine Sa (es:=zC (XT.row (O 5)) (List.replicate n1 (⟨⟨(0:Y),(0:Y),(0:Y),([]:W X1)⟩,0⟩:XT))) zB zB hn1 zB (Qn zB) zB ?_;refine Aa ?_;exact xTo (v3:=List.replicate n1 (⟨⟨(0:Y),(0:Y),(0:Y),([]:W X1)⟩,0⟩:XT)) (List.pairwise_replicate.2 (.inr fun b h=>absurd zB h.1)) (by rw[List.map_replicate]; exact h) E3 kr
def Wu{a0 r:W X0}(h:Ei a0=O r):FCf zD 10 [.sc (.sl (zC X0.row a0))] [.sc (.v (.sl (zC X0.row r)))]:=(gF h).untell fun rs ⟨ts,e,e2,_⟩=>⟨4,_,e,by rw[<- e2]; exact .sl XT.uns⟩
def Rp(a0:X3)(a1:W X8)(a2:W X0):X Z:=
 (Jj a0 1048576).bind fun s1=>if decide (s1<0) then O L else
 (Ji a1 s1).bind fun s2=>if decide (s2<0) then O L else
 (Jk a2 s2).bind fun s3=>if decide (s3<0) then O L else
 (EW a0).bind fun h1=>(EV a1).bind fun c1=>(Ei a2).bind fun l1=>
 (OH h1 c1 l1).bind fun w0=>
 (EW a0).bind fun x0=>(EV a1).bind fun x1=>(Ei a2).bind fun x2=>
 (GX x0 x1 x2).bind fun g0=>
 (ET g0.1 w0.1).bind fun b1=>if b1 then if g0.2.1 !=w0.2.1 then O N else if !(g0.2.2==w0.2.2) then O N else
  (EW a0).bind fun h2=>(NX x0 h2).bind fun b2=>if b2 then
   (EV a1).bind fun c2=>(NU x1 c2).bind fun b3=>if b3 then
    (Ei a2).bind fun l2=>(ET x2 l2).bind fun b4=>if b4 then
     (Jg x0 1).bind fun k1=>(Lu x1 k1.1).bind fun k2=>(EU x2 k2.1).bind fun k3=>
     if decide (k3.1<0) then O N else
     (ET g0.1 w0.1).bind fun b5=>if b5 then if g0.2.1 !=w0.2.1 then O N else if !(g0.2.2==w0.2.2) then O N else
      (EU g0.1 1).bind fun m=>(Lt m.2 1).bind fun q1=>
      if decide (q1<0) then O N else if q1 !=m.1 then O N else
      (EW a0).bind fun h3=>(EV a1).bind fun c3=>(Ei a2).bind fun l3=>
      (GX h3 c3 l3).bind fun g1=>
      (ET g1.1 w0.1).bind fun b6=>if b6 then if g1.2.1 !=w0.2.1 then O N else if !(g1.2.2==w0.2.2) then O N else
       (Lt m.2 1).bind fun q2=>if decide (q2<0) then O N else if q2 !=m.1 then O N else O L
      else O N
     else O N
    else O N
   else O N
  else O N
 else O N
def Zg{P:Program}{k:W Fr}{Q:Xl->St->Prop}{M M':St}{its:W AItem}{d f:zA}{args:W Opd}{l:W AV}{r:AV}(hf:CallC P f l M M' r)(ha:args.map M.val=l)(h:go P (.ops its::k) Q .normal (O (M'.set d r))):go P (.ops ((V,.call d f args)::its)::k) Q .normal (O M):=Pv (by rw[ha]; exact hf) h
abbrev Zj:Hw:=([],[(83,2,(V,.keep [1,2,3,8,9,10,13,14,15,16,17,98,99] [3] [2880,3456,3776])),(95,2,(V,.keep [1,2,3,8,9,10,14,15,16,18,119,120] [3] [2880,3776]))])
def rc:AF zD 3=O ((By zD 3 Zj).strip,[6],163):=by kernel_rfl
def w_laws_FnExactChangePlan(a0:X3)(a1:W X8)(a2:W X0)(r:Z)(h:Rp a0 a1 a2=O r/\∀s1 s2 s3,Jj a0 1048576=O s1->decide (s1<0)=N->Ji a1 s1=O s2->decide (s2<0)=N->Jk a2 s2=O s3->decide (s3<0)=N->
   ∀h c l,EW a0=O h->EV a1=O c->Ei a2=O l->l.length<=maxLen/\∀g,GX h c l=O g->g.1.length<=maxLen) :
  FC zD 3 [.ag (X3.row a0),.sc (.sl (zC X8.row a1)),.sc (.sl (zC X0.row a2))] [.sc (.v (.bool r))]:=by
 obtain⟨h,hd⟩:=h;unfold Rp at h;refine FCf.fc (iK (M:=⟨[(0,va [aI a0.Forecast.Tide.Mean,.old (.sl (zC zS a0.Forecast.Tide.Parts)),.old (.sl (zC X9.row a0.Forecast.Surges)),.old (.sl (zC X7.row a0.Chart.Points)),.old (.sl (zC X2.row a0.Chart.Segments)),.old (.sl (zC X5.row a0.Fleet)),aI a0.Regime.Gap,aB a0.Regime.NoMeet,aI a0.Crew.Tugs,aI a0.Crew.Pilots,aI a0.Crew.Rest,.old (.sl (zC rI a0.Crew.Moves))]),(1,vc (.old (.sl (zC X8.row a1)))),(2,vc (.old (.sl (zC X0.row a2))))],[],[]⟩) A2 rc zB zB ?_);refine BC Zj ?_;intro S hS;refine ev hS ?_;obtain⟨s1,hs1,h⟩:=ob h;refine Aa ?_;refine B8 (A8o hs1) zB (Br zB) zB (uf zB) ?_;obtain⟨hb1,h⟩|⟨hb1,h⟩:=ic h
 .refine Aa ?_;cases h;exact t0
 obtain⟨s2,hs2,h⟩:=ob h;refine Aa ?_;refine B8 (A8n hs2) zB (Br zB) zB (uf zB) ?_;obtain⟨hb2,h⟩|⟨hb2,h⟩:=ic h
 .refine Aa ?_;cases h;exact t0
 obtain⟨s3,hs3,h⟩:=ob h;refine Aa ?_;refine B8 (A8p hs3) zB (Br zB) zB (uf zB) ?_;obtain⟨hb3,h⟩|⟨hb3,h⟩:=ic h
 .refine Aa ?_;cases h;exact t0
 have hd:=hd s1 s2 s3 hs1 hb1 hs2 hb2 hs3 hb3;obtain⟨h1,hh1,h⟩:=ob h;obtain⟨c1,hc1,h⟩:=ob h;obtain⟨l1,hl1,h⟩:=ob h;obtain⟨⟨wo,wp,wk⟩,hw0,h⟩:=ob h;refine Aa ?_;refine Pw (FCf.asV (rs':= [.ag ((X3.row h1).map .v)]) ((Te hh1).newf (BL zB ⟨zB,AQ,AQ,AQ,AQ,AQ,zB,zB,zB,zB,zB,AQ,⟨⟩⟩)) zB) zB zB (uf zB) ?_;try simp only[zG,zF,B,E,F,I,J,U,B5]
 refine Pw (FCf.asV (rs':= [.sc (.v (.sl (zC X8.row c1)))]) ((Td hc1).newf (BL zB ⟨AQ,⟨⟩⟩)) zB) zB zB (uf zB) ?_;refine Aa ?_;refine Pw (Wu hl1) zB zB (uf zB) ?_;refine Aa ?_;refine uZ (ds:= [.ag (X3.row h1),.sc (.sl (zC X8.row c1)),.sc (.sl (zC X0.row l1))]) (FC.stamp (A8w hw0) A13) rfl rfl (fun rs ⟨_,_,e⟩=>by subst e; exact uf rfl) ?_;rintro rs ⟨bs,hbl,rfl⟩
 obtain⟨us,eu,eus⟩:=ei (os:=wo) (by simpa using hbl);rw[eus];subst eu;clear hbl eus
 obtain⟨x0,hx0,h⟩:=ob h;refine Aa ?_;refine B8 (Te hx0) zB (BL zB ⟨zB,AQ,AQ,AQ,AQ,AQ,zB,zB,zB,zB,zB,AQ,⟨⟩⟩) zB (uf zB) ?_;obtain⟨x1,hx1,h⟩:=ob h;refine Aa ?_;refine B8 (Td hx1) zB (BL zB ⟨AQ,⟨⟩⟩) zB (uf zB) ?_;obtain⟨x2,hx2,h⟩:=ob h;refine Aa ?_;have hdx:=hd _ _ _ hx0 hx1 hx2;refine HN (gF hx2) (ds':= [.sc (.sl (zC X0.row a2))]) (by first | rfl | kernel_rfl) .refl rfl (fun rs ⟨_,e,_⟩=>by subst e; exact uf rfl) ?_;rintro rs ⟨vs,rfl,rfl,hvs⟩ hN
 have hs1:∀b,(∃u∈us,u.tg b)->¬∃t∈vs,t.tg b:=fun b h1 h2=>zR b (hN b b (St.tg_own (k:=8) rfl rfl (BT.2 h1)) ⟨.o 4 (zC (XT.row (O 5)) vs),by simp[R1.cells],BT.2 h2⟩)
 clear hN
 obtain⟨⟨AL,gp,gk⟩,hg0,h⟩:=ob h;refine Aa ?_;refine HN (gE hg0) (ds':= [.ag (X3.row x0),.sc (.sl (zC X8.row x1)),.sc (.sl (zC (XT.row (O 5)) vs))]) (by first | rfl | kernel_rfl) (.cons .refl (.cons .refl (.cons (.sc (.sl XT.uns)) .nil))) rfl (fun rs ⟨_,e,_⟩=>by subst e; exact uf rfl) ?_;rintro rs ⟨ts,rfl,et,hap⟩ hN
 simp only at et
 subst et;have hs2:∀b,(∃u∈us,u.tg b)->¬∃t∈ts,t.tg b:=fun b h1 h2=>zR b (hN b b (St.tg_own (k:=8) rfl rfl (BT.2 h1)) ⟨.o 4 (zC (XT.row (O 5)) ts),by simp[R1.cells],BT.2 h2⟩)
 have hs3:∀b,(∃u∈vs,u.tg b)->¬∃t∈ts,t.tg b:=fun b h1 h2=>zR b (hN b b (St.tg_own (k:=13) rfl rfl (BT.2 h1)) ⟨.o 4 (zC (XT.row (O 5)) ts),by simp[R1.cells],BT.2 h2⟩)
 clear hN
 obtain⟨b1,hq1,h⟩:=ob h;refine Aa ?_;refine B8 ((Tc hq1).un (.cons (.sc (.sl XT.uns)) (.cons (.sc (.sl XT.uns)) .nil))) zB (Br zB) zB (uf zB) ?_;obtain⟨f1,h⟩|⟨f1,h⟩:=ic h
 rotate_left
 .refine Aa ?_;cases h;exact t0
 refine Aa ?_;obtain⟨f1a,h⟩|⟨f1a,h⟩:=ic h
 .refine Aa ?_;cases h;exact t0
 refine Aa ?_;obtain⟨f1b,h⟩|⟨f1b,h⟩:=ic h
 .refine Aa ?_;cases h;exact t0
 obtain⟨h2,F3,h⟩:=ob h;refine Aa ?_;refine Ui (Te F3) (by first | rfl | kernel_rfl) (BL zB ⟨zB,AQ,AQ,AQ,AQ,AQ,zB,zB,zB,zB,zB,AQ,⟨⟩⟩) zB (uf zB) ?_;obtain⟨b2,hq2,h⟩:=ob h;refine Aa ?_;refine B8 (A79 hq2) zB (Br zB) zB (uf zB) ?_;obtain⟨f2,h⟩|⟨f2,h⟩:=ic h
 rotate_left
 .refine Aa ?_;cases h;exact t0
 obtain⟨c2,hc2,h⟩:=ob h;refine Aa ?_;refine B8 (Td hc2) zB (BL zB ⟨AQ,⟨⟩⟩) zB (uf zB) ?_;obtain⟨b3,hq3,h⟩:=ob h;refine Aa ?_;refine B8 (A78 hq3) zB (Br zB) zB (uf zB) ?_;obtain⟨f3,h⟩|⟨f3,h⟩:=ic h
 rotate_left
 .refine Aa ?_;cases h;exact t0
 obtain⟨l2,hl2,h⟩:=ob h;refine Aa ?_;refine Pw (Wu hl2) zB zB (uf zB) ?_;obtain⟨b4,hq4,h⟩:=ob h;refine Aa ?_;refine B8 ((Tc hq4).un (.cons (.sc (.sl XT.uns)) (.cons .refl .nil))) zB (Br zB) zB (uf zB) ?_;obtain⟨f4,h⟩|⟨f4,h⟩:=ic h
 rotate_left
 .refine Aa ?_;cases h;exact t0
 obtain⟨k1,hk1,h⟩:=ob h;refine Aa ?_;refine DM (ids:= [3201,3202,3203,3204,3205,3211]) (A8e hk1) zB zB zB (AW (AW (AW (AW (AW (AW BF)))))) (Cl (Mr hk1).1 (Cl (Mr hk1).2.1 (Cl (Mr hk1).2.2.1 (Cl (Mr hk1).2.2.2.1 (Cl (Mr hk1).2.2.2.2.1 (Cl (Mr hk1).2.2.2.2.2 E0)))))) ?_;obtain⟨k2,hk2,h⟩:=ob h;refine Aa ?_;refine DM (ids:= [3328]) (A8a _ _ _ hk2) zB zB zB (AW BF) (Cl (yy _ _ _ hk2) E0) ?_;obtain⟨k3,hk3,h⟩:=ob h;refine Aa ?_;have hml3:=(SP hk3).1;refine Zg (FCm.callC (gA hk3 hvs (by simpa using hdx.1)) (by simp[dR hml3]) zB Ig zB (fun R=>R.isNewB (id:=3) zB zB) (fun c hu=> ?_)) zB ?_
 .have:=Wm hu;simp only[zY,zZ,AV.cells,V1.cells,zU,zM,zJ,zH,zL,or_false] at this
  repeat' (rcases this with rfl | this)
  all_goals first | exact trivial | exact .inl rfl | exact⟨.flat rfl,fun b hb=>by cases hb⟩ | (subst this; exact⟨.flat rfl,fun b hb=>by cases hb⟩) | (subst this; exact trivial) | exact .inr fun s es hf=>by cases hf; exact⟨Ig,fun b h1 h2=>hs1 b (BT.1 h1) (BT.1 h2)⟩ | exact .inr fun s es hf=>by cases hf; exact⟨Ig,fun b h1 h2=>(fun b h1 h2=>hs3 b h2 h1) b (BT.1 h1) (BT.1 h2)⟩
 refine Aa ?_;obtain⟨f5,h⟩|⟨f5,h⟩:=ic h
 .refine Aa ?_;cases h;exact t0
 obtain⟨b5,hq5,h⟩:=ob h;refine Aa ?_;refine B8 ((Tc hq5).un (.cons (.sc (.sl XT.uns)) (.cons (.sc (.sl XT.uns)) .nil))) zB (Br zB) zB (uf zB) ?_;obtain⟨f6,h⟩|⟨f6,h⟩:=ic h
 rotate_left
 .refine Aa ?_;cases h;exact t0
 refine Aa ?_;simp only[f1a,f1b,Bool.false_eq_true,if_false] at h;obtain⟨m,hm,h⟩:=ob h;refine Aa ?_;have hml:=(SP hm).1;have hun:UnRows (zC (XT.row (O 5)) (DB m.2 ts)) (zC X0.row m.2):=by have:=XT.uns (k:=some 5) (ts:=DB m.2 ts); rwa [dS hml] at this
 refine Zg (FCm.callC (gA hm hap (by simpa using hdx.2 _ hg0)) (by simp[dR hml]) zB Ig zB (fun R=>R.isNewB (id:=3) zB zB) (fun c hu=> ?_)) zB ?_
 .have:=Wm hu;simp only[zY,zZ,AV.cells,V1.cells,zU,zM,zJ,zH,zL,or_false] at this
  repeat' (rcases this with rfl | this)
  all_goals first | exact trivial | exact .inl rfl | exact⟨.flat rfl,fun b hb=>by cases hb⟩ | (subst this; exact⟨.flat rfl,fun b hb=>by cases hb⟩) | (subst this; exact trivial) | exact .inr fun s es hf=>by cases hf; exact⟨Ig,fun b h1 h2=>hs2 b (BT.1 h1) (BT.1 h2)⟩ | exact .inr fun s es hf=>by cases hf; exact⟨Ig,fun b h1 h2=>hs2 b (BT.1 h1) (BT.1 h2)⟩
 obtain⟨q1,hh1',h⟩:=ob h;refine Aa ?_;refine B8 ((fp _ _ _ hh1').un (.cons (.sc (.sl hun)) (.cons (.sc .same) .nil))) zB (Br zB) zB (uf zB) ?_;obtain⟨f7,h⟩|⟨f7,h⟩:=ic h
 .refine Aa ?_;cases h;exact t0
 refine Aa ?_;obtain⟨f8,h⟩|⟨f8,h⟩:=ic h
 .refine Aa ?_;cases h;exact t0
 obtain⟨h3,hh3,h⟩:=ob h;obtain⟨c3,hc3,h⟩:=ob h;obtain⟨l3,hl3,h⟩:=ob h;obtain⟨⟨go1,gp1,gk1⟩,hg1,h⟩:=ob h;refine Aa ?_;refine B8 (Te hh3) zB (BL zB ⟨zB,AQ,AQ,AQ,AQ,AQ,zB,zB,zB,zB,zB,AQ,⟨⟩⟩) zB (uf zB) ?_;refine Aa ?_;refine B8 (Td hc3) zB (BL zB ⟨AQ,⟨⟩⟩) zB (uf zB) ?_;refine Aa ?_;refine Pw (Wu hl3) zB zB (uf zB) ?_;refine Aa ?_;refine HN (gE hg1) (ds':= [.ag (X3.row h3),.sc (.sl (zC X8.row c3)),.sc (.sl (zC X0.row l3))]) (by first | rfl | kernel_rfl) .refl rfl (fun rs ⟨_,e,_⟩=>by subst e; exact uf rfl) ?_;rintro rs ⟨ts',rfl,et',_⟩ _
 simp only at et'
 subst et';obtain⟨b6,hq6,h⟩:=ob h;refine Aa ?_;refine B8 ((Tc hq6).un (.cons (.sc (.sl XT.uns)) (.cons (.sc (.sl XT.uns)) .nil))) zB (Br zB) zB (uf zB) ?_;obtain⟨f9,h⟩|⟨f9,h⟩:=ic h
 rotate_left
 .refine Aa ?_;cases h;exact t0
 refine Aa ?_;obtain⟨f9a,h⟩|⟨f9a,h⟩:=ic h
 .refine Aa ?_;cases h;exact t0
 refine Aa ?_;obtain⟨f9b,h⟩|⟨f9b,h⟩:=ic h
 .refine Aa ?_;cases h;exact t0
 obtain⟨q2,hh2',h⟩:=ob h;refine Aa ?_;refine B8 ((fp _ _ _ hh2').un (.cons (.sc (.sl hun)) (.cons (.sc .same) .nil))) zB (Br zB) zB (uf zB) ?_;obtain⟨f10,h⟩|⟨f10,h⟩:=ic h
 .refine Aa ?_;cases h;exact t0
 refine Aa ?_;obtain⟨f11,h⟩|⟨f11,h⟩:=ic h
 .refine Aa ?_;cases h;exact t0
 .refine Aa ?_;cases h;exact t0
end Go.Vi
