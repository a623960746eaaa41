/-
The value level. No condition.
-/
import Derived.Test.YtkkaabmffppplaaGreatCVi29
import Derived.DataReads
import Derived.KernelRfl
import Derived.MapKept
namespace Go.Vi
set_option linter.all false
open And renaming intro → zF
open Option renaming map_eq_some_iff → zG, bind_eq_some_iff → zU, bind_eq_bind → yQ, map_some → yX, pure_def → yY, some → O, none → U
open List renaming map → zH, getElem?_eq_getElem → zI, getElem?_eq_some_iff → zJ, mem_of_getElem? → zK, length_eq_zero_iff → zL, mem_cons_of_mem → zO, mem_cons_self → zP, mem_cons → zR, length_eq_one_iff → zT, mem_map → zV, getElem?_map → zX, mem_singleton → zZ, length_map → yA, append_nil → yB, replicate → yD, getElem?_eq_none → yE, all_cons → yF, map_append → yG, mapM_cons → yI, mapM_toArray → yJ, take_succ_eq_append_getElem → yN, take_append_drop → yO, getElem?_of_mem → yP, map_cons → yS, getElem?_inj → yU, pairwise_iff_getElem → yV, length → yZ, drop_drop → kA, drop_zero → kB, map_take → kC
open Nat renaming le_of_ble_eq_true → zM, le_trans → zN, lt_of_lt_of_le → zS, ble → zY, eq_of_mul_eq_mul_right → yC, one_pos → yK, le_refl → yL, zero_le → yR, sub_zero → yW
open Bool renaming and_eq_true → zQ, false_eq_true → yH, and_self → yM, not_true → yT, true → T, false → F
open Option.some renaming inj → zW
open _root_ renaming List → Z, Option → I, Int → zA, Bool → zB, Nat → zC, UInt8 → zD, rfl → zE
section
abbrev S(n:zC):Opd:= .t n
abbrev K(n:zA):Opd:= .c (.v (.sc (.dat (.int .i64 n))))
abbrev K8(n:zA):Opd:= .c (.v (.sc (.dat (.int .u8 n))))
abbrev KB(b:zB):Opd:= .c (.v (.sc (.dat (.bool b))))
abbrev KS(s:Z zD):Opd:= .c (.v (.sc (.dat (.str s))))
abbrev KN:Opd:= .c (.v (.sc .nil))
abbrev aI(n:zA):AC:= .dat (.int .i64 n)
abbrev a8(n:zA):AC:= .dat (.int .u8 n)
abbrev aB(b:zB):AC:= .dat (.bool b)
abbrev aS(s:Z zD):AC:= .dat (.str s)
abbrev aL(es:Z (Z D)):AC:= .dat (.sl es)
abbrev vc(c:AC):AV:= .v (.sc c)
abbrev va(cs:Z AC):AV:= .v (.ag cs)
def rI(n:zA):Z D:= [.int .i64 n]
def r8(n:zA):Z D:= [.int .u8 n]
def rB(b:zB):Z D:= [.bool b]
def rS(s:Z zD):Z D:= [.str s]
def rL{α:Type}(row:α→Z D)(xs:Z α):Z D:= [.sl (xs.map row)]
class Row {α:Type} (row:α→Z D) (sz:zC):Prop where
 len:∀x,(row x).length=sz
 pos:0<sz
instance:Row rI 1:=⟨fun _=>rfl,yK⟩
instance:Row r8 1:=⟨fun _=>rfl,yK⟩
instance:Row rB 1:=⟨fun _=>rfl,yK⟩
instance:Row rS 1:=⟨fun _=>rfl,yK⟩
instance {α:Type} (row:α→Z D):Row (rL row) 1:=⟨fun _=>rfl,yK⟩
theorem ce(n:zA):rI n= [.int .i64 n]:=rfl
def eK(n:zA):zD:=UInt8.ofNat n.toNat
theorem Y2:∀{xs:Z zA},Dk (zH r8 xs)=O (zH eK xs)
 | []=>rfl
 | n::xs=>by
  show(Dk (zH r8 xs)).map _=_
  rw[Y2];rfl
theorem A1u(n:zA):r8 n= [.int .u8 n]:=rfl
theorem A1v(b:zB):rB b= [.bool b]:=rfl
theorem A1x(s:Z zD):rS s= [.str s]:=rfl
theorem A1w{α:Type}(row:α→Z D)(xs:Z α):rL row xs= [.sl (xs.map row)]:=rfl
theorem XD{α:Type}{row:α→Z D}{sz:zC}(h:∀x,(row x).length=sz)(xs:Z α):(xs.map row).all (fun d=>d.length==sz)=T:=by
 simp[List.all_map,Function.comp_def,h]
@[irreducible] def bigN:zC:=1208925819614629174706176
def bnd(m h l:zA)(n:zC):I (zC × zC):=if 0≤l∧l≤h∧h≤m∧m≤n then O (l.toNat,h.toNat) else U
def BM(l c:zA)(bytes:zC):I zC:=if 0≤l∧l≤c∧c*bytes≤140737488355328∧c≤4611686018427387904 then O l.toNat else U
def Ad(n m bytes:zC):zB:=decide ((n+m)*bytes≤140737488355328∧n+m≤4611686018427387904)
def Ft(n m:zC):zB:=decide (n+m≤4611686018427387904)
theorem Sb{α β:Type}{f:α→β}{l:Z α}{i:zA}:ix (l.map f) i=(ix l i).map f:=by
 unfold ix;split<;>simp
theorem Am{α:Type}{l:Z α}{i:zA}{x:α}(h:ix l i=O x):l[i.toNat]?=O x:=by
 unfold ix at h;split at h
 ·exact h
 ·cases h
theorem ob{α β:Type}{o:I α}{f:α→I β}{r:β}(h:o.bind f=O r):∃a,o=O a∧f a=O r:=zU.1 h
class FlatRow {α:Type} (row:α→Z D):Prop where
 flat:∀x,∀d∈row x,d.flat=T
instance:FlatRow rI:=⟨fun _ d h=>by rw[zZ.1 h]; rfl⟩
instance:FlatRow r8:=⟨fun _ d h=>by rw[zZ.1 h]; rfl⟩
instance:FlatRow rB:=⟨fun _ d h=>by rw[zZ.1 h]; rfl⟩
instance:FlatRow rS:=⟨fun _ d h=>by rw[zZ.1 h]; rfl⟩
def Wv:Z RC→Prop
 | []=>True
 | c::cs=>c.flat∧Wv cs
theorem BD{rs:Z R1}{cs:Z RC}(h:rs.flatMap R1.cells=cs)(hf:Wv cs):Cu rs:=by
 subst h;unfold Cu;generalize rs.flatMap R1.cells=l at hf
 induction l with
 | nil=>intro c hc; simp at hc
 | cons a l ih=>
  intro c hc;rcases zR.1 hc with rfl|hc
  ·exact hf.1
  ·exact ih hf.2 c hc
theorem AN{α:Type}{row:α→Z D} [FlatRow row]{sz:zC}{xs:Z α}:RC.flat (.o sz (zH row xs)):=by
 intro r hr;obtain⟨x,_,rfl⟩:=zV.1 hr;exact FlatRow.flat x
theorem SE{α:Type}{row:α→Z D}{z:α}{zs:Z D}{n:zC}(h:row z=zs):yD n zs=zH row (yD n z):=by rw[List.map_replicate,h]
theorem B2{α:Type}{b:zB}{x:I α}{r:α}(h:(if b=T then x else U)=O r):b=T∧x=O r:=by
 cases b
 ·rw[if_neg Bool.false_ne_true] at h; cases h
 ·exact⟨zE,by simpa using h⟩
theorem K7{α:Type}{b:zB}{x:I α}{r:α}(h:(if b=T then U else x)=O r):b=F∧x=O r:=by
 cases b
 ·exact⟨zE,by simpa using h⟩
 ·rw[if_pos rfl] at h; cases h
theorem ic{α:Type}{b:zB}{x y:I α}{r:α}(h:(if b=T then x else y)=O r):(b=T∧x=O r)∨(b=F∧y=O r):=by
 cases b with
 | true=>exact .inl ⟨rfl,h⟩
 | false=>exact .inr ⟨rfl,h⟩
section
variable {P : Program} {k : Z Fr} {Q : Xl → St → Prop} {σ : St} {its : Z AItem} {ds : Z AZ} {o : AOp} {d : zC}
theorem AB{c:Xg}(h:go P (.code c:: .code (.loop c)::k) Q .normal (O σ)):go P (.code (.loop c)::k) Q .normal (O σ):=by
 intro X hX;refine hX σ (XR c (fun e σ' h=> ?_) h);cases e with
 | normal=>exact h X hX
 | exit id=>exact h
 | ret=>exact h
 | pan d=>exact h
theorem gN(hm:P.follows .mixedOrders=T){f:FuncId}{c:Xg}{ts:Z RV}{nt:zC}{ds:Z DV}{rs:Z R1}{σ:St}(he:AE P f=O (c.strip,ts,nt))(hl:zY ds.length nt=T)(hσ:St.init ds=σ)
  (h:go P [.code c] (A5 ts rs) .normal (O σ)):FC P f ds rs:=gP hm he (zM hl) fun _=>JV (hσ▸h)
theorem gM(hm:P.follows .mixedOrders=T){f:FuncId}{c:Xg}{ts:Z RV}{nt:zC}{ds:Z DV}{rs:Z R1}(he:AE P f=O (c.strip,ts,nt))(hl:zY ds.length nt=T)
  (h:go P [.code c] (A5 ts rs) .normal (O (St.init ds))):FC P f ds rs:=gN hm he hl rfl h
theorem V6{sz:zC}{es:Z (Z D)}(hf:σ.fresh d=T):σ.make (.row d sz es)=O {(σ.set d (.v (.sc (.own (d*64))))) with rows:=put σ.rows (d*64) (sz,es)}:=by simp[St.make,hf]
theorem Su{cs:Z AC}(hf:σ.fresh d=T)(hu:cs.all (fun c=> !c.uses d)=T):σ.make (.box d cs)=O {(σ.set d (.v (.sc (.pb d 0)))) with bx:=put σ.bx d cs}:=by simp only[St.make,hf,hu,yM,if_true]
theorem RM{m:Mk}(ho:o.isMade=T)(hm:σ.made o=O m){σ':St}(hs:σ.make m=O σ')(H:go P (.ops its::k) Q .normal (O σ')):go P (.ops ((U,o)::its)::k) Q .normal (O σ):=by
 have hc:o.isCall=F:=by cases o<;>first | rfl | (simp[AOp.isMade] at ho; done)
 rw[B8 hc,A36 ho,hm];show go P (.ops its::k) Q .normal (σ.make m)
 rw[hs];exact H
theorem tY{X:Opd}{y:V1}(hX:σ.val X= .v y)(hf:σ.fresh d=T)(hu:y.cells.all (fun c=> !c.uses d)=T)(H:go P (.ops its::k) Q .normal (O {(σ.set d (.v (.sc (.pb d 0)))) with bx:=put σ.bx d y.cells })) :
  go P (.ops ((U,.box d X)::its)::k) Q .normal (O σ):=RM rfl (by simp only[St.made,hX]) (Su hf hu) H
theorem tM{cs:Z AC}(hf:σ.fresh d=T)(hu:cs.all (fun c=> !c.uses d)=T)(H:go P (.ops its::k) Q .normal (O {(σ.set d (.v (.sc (.pb d 0)))) with bx:=put σ.bx d cs })) :
  go P (.ops ((U,.alloc d cs)::its)::k) Q .normal (O σ):=RM rfl rfl (Su hf hu) H
theorem U2{sz:zC}{zs:Z D}{len:zC}{ps:Z (zC × Opd)}{es:Z (Z D)}(hm:σ.made (.bslice d sz zs len ps)=O (.row d sz es))(hf:σ.fresh d=T)
  (H:go P (.ops its::k) Q .normal (O {(σ.set d (.v (.sc (.own (d*64))))) with rows:=put σ.rows (d*64) (sz,es) })):go P (.ops ((U,.bslice d sz zs len ps)::its)::k) Q .normal (O σ):=RM rfl hm (V6 hf) H
theorem bY{L C:Opd}{l c:zA}{bytes n sz:zC}{zs:Z D}{es:Z (Z D)}(hl:C4 (σ.val L)=O l)(hc:C4 (σ.val C)=O c)(hb:BM l c bytes=O n)(hz:zs.length=sz)(he:yD n zs=es) :
  σ.made (.mksl d sz bytes zs L C)=O (.row d sz es):=by
 unfold BM at hb
 split at hb
 ·rename_i h
  cases hb;subst he;simp only[St.made,hl,hc];rw[if_pos ⟨h.1,h.2.1,h.2.2.1,h.2.2.2,hz⟩]
 ·cases hb
theorem U7{L C:Opd}{l c:zA}{bytes n sz:zC}{zs:Z D}{es:Z (Z D)}(hl:C4 (σ.val L)=O l)(hc:C4 (σ.val C)=O c)(hb:BM l c bytes=O n)(hz:zs.length=sz)(he:yD n zs=es)(hf:σ.fresh d=T)
  (H:go P (.ops its::k) Q .normal (O {(σ.set d (.v (.sc (.own (d*64))))) with rows:=put σ.rows (d*64) (sz,es) })):go P (.ops ((U,.mksl d sz bytes zs L C)::its)::k) Q .normal (O σ):=
 RM rfl (bY hl hc hb hz he) (V6 hf) H
theorem U6{n:zC}{N:Z zC}{m:Mk}(hm:(σ.less (n::N)).made o=O m)(hv:bk (n::N) m=T){σ':St}(hs:σ.make m=O σ')(H:go P (.dops ds::k) Q .normal (O σ')) :
  go P (.dops ((O (n::N),U,o)::ds)::k) Q .normal (O σ):=tj hm hv hs H
theorem AK{α:Type}{env bx rows}{id sz i off n:zC}{xs:Z α}{row:α→Z D}{x y:α}{yv:V1}{dd:Z D}(hd:yv.toDs=O dd)(hf:A1 rows id=O (sz,zH row xs))
  (hx:xs[i]?=O x) (hn:dd.length=n) (ho:zY (off+n) (row x).length=T) (hy:Gt (row x) off dd=row y) (H:go P k Q .normal (O ⟨env,bx,put rows id (sz,zH row (xs.set i y))⟩)) :
  go P k Q .normal (St.storeV ⟨env,bx,rows⟩ n (.v (.sc (.pe id i off))) (.v yv)):=by
 have e:St.storeV ⟨env,bx,rows⟩ n (.v (.sc (.pe id i off))) (.v yv)=O ⟨env,bx,put rows id (sz,zH row (xs.set i y))⟩:=by
  simp only[St.storeV,hf,zX,hx,yX,hd];rw[if_pos ⟨hn,zM ho⟩,hy,List.map_set]
 rw[e];exact H
end
def DD{α:Type}:zC→Z α→I (Z α)
 | 0,l=>O l
 | _+1,[]=>U
 | n+1,_::l=>DD n l
def Gw{α:Type}:zC→Z α→I (Z α)
 | 0,_=>O []
 | _+1,[]=>U
 | n+1,c::l=>(Gw n l).map (c:: ·)
def DL{α:Type}:Z α→zC→zB
 | [],0=>T
 | _::l,n+1=>DL l n
 | _,_=>F
def C8{α:Type}:Z α→zC→zB
 | _,0=>T
 | _::l,n+1=>C8 l n
 | [],_+1=>F
theorem MV{α:Type}:∀(n:zC) (l:Z α),DD n l=if n≤l.length then O (l.drop n) else U
 | 0,l=>by simp[DD]
 | n+1,[]=>by simp[DD]
 | n+1,c::l=>by simp[DD,MV n l]
theorem dw{α:Type}:∀(n:zC) (l:Z α),Gw n l=if n≤l.length then O (l.take n) else U
 | 0,l=>by simp[Gw]
 | n+1,[]=>by simp[Gw]
 | n+1,c::l=>by simp only[Gw,dw n l]; split<;>simp_all
theorem V3{α:Type}:∀(l:Z α) (n:zC),DL l n=decide (l.length=n)
 | [],0=>by simp[DL]
 | [],n+1=>by simp[DL]
 | _::l,0=>by simp[DL]
 | _::l,n+1=>by simp[DL,V3 l n]
theorem PL{α:Type}:∀(l:Z α) (n:zC),C8 l n=decide (n≤l.length)
 | [],0=>by simp[C8]
 | [],n+1=>by simp[C8]
 | _::l,0=>by simp[C8]
 | _::l,n+1=>by simp[C8,PL l n]
theorem pm{α:Type}{l:Z α}:DD 0 l=O l:=by cases l<;>rfl
theorem pp{α:Type}{n:zC}{c:α}{l:Z α}:DD (n+1) (c::l)=DD n l:=rfl
theorem A4z{α:Type}{l:Z α}:Gw 0 l=O []:=by cases l<;>rfl
theorem A40{α:Type}{n:zC}{c:α}{l:Z α}:Gw (n+1) (c::l)=(Gw n l).map (c:: ·):=rfl
theorem xx{α:Type}:DL ([]:Z α) 0=T:=rfl
theorem xy{α:Type}{n:zC}{c:α}{l:Z α}:DL (c::l) (n+1)=DL l n:=rfl
theorem xv{α:Type}{l:Z α}:C8 l 0=T:=by cases l<;>rfl
theorem xw{α:Type}{n:zC}{c:α}{l:Z α}:C8 (c::l) (n+1)=C8 l n:=rfl
theorem nX{cs:Z AC}{off n:zC}:CV cs off T n=(DD off cs).bind fun l=>(Gw n l).map fun l=> .v (.ag l):=by
 simp only[CV,cond_true,MV,dw];by_cases h:off≤cs.length
 ·rw[if_pos h];by_cases h2:off+n≤cs.length
  ·rw[if_pos h2,Option.bind_some,if_pos (by simp; omega)]; rfl
  ·rw[if_neg h2,Option.bind_some,if_neg (by simp; omega)]; rfl
 ·rw[if_neg h,if_neg (by omega)]; rfl
theorem A2z{cs:Z AC}:BQ cs 0 []=cs:=by simp[BQ]
theorem A21{c:AC}{cs ds:Z AC}{n:zC}:BQ (c::cs) (n+1) ds=c::BQ cs n ds:=by
 simp only[BQ,List.take_succ_cons,List.cons_append];rw[show n+1+ds.length=(n+ds.length)+1 by omega,List.drop_succ_cons]
theorem A22{c d:AC}{cs ds:Z AC}:BQ (c::cs) 0 (d::ds)=d::BQ cs 0 ds:=by simp[BQ]
theorem Ky{α β:Type}{a:α}{f:α→I β}:(O a).bind f=f a:=rfl
theorem nB{α β:Type}{f:α→I β}:(U:I α).bind f=U:=rfl
theorem get_map{α β:Type}{f:α→β}{l:Z α}{i:zC}:(zH f l)[i]?=(l[i]?).map f:=zX
theorem tJ{α:Type}{a:α}{l:Z α}:(a::l)[0]?=O a:=rfl
theorem tI{α:Type}{a:α}{l:Z α}{n:zC}:(a::l)[n+1]?=l[n]?:=by simp
theorem pg:zH AC.dat []= []:=rfl
theorem pf{d:D}{l:Z D}:zH AC.dat (d::l)= .dat d::zH AC.dat l:=rfl
section
variable {P : Program} {k : Z Fr} {Q : Xl → St → Prop} {σ : St} {its : Z AItem} {env : Z (zC × AV)} {bx : Z (zC × Z AC)} {rows : Rows}
theorem ve{α:Type}{rs:Rows}{sz:zC}{xs:Z α}{row:α→Z D} [Row row sz]{kd:IntKind}{i:zA}:Da rs sz (.v (.sc (.dat (.sl (zH row xs))))) (.v (.sc (.dat (.int kd i))))=(ix xs i).map fun x=> .v (.sc (.dat (.pd (row x)))):=by
 simp only[Da,Sb];cases ix xs i with
 | none=>rfl
 | some x=>simp[Row.len (row:=row) (sz:=sz),Row.pos row]
theorem vd{rs:Rows}{sz id:zC}{kd:IntKind}{i:zA}:Da rs sz (.v (.sc (.own id))) (.v (.sc (.dat (.int kd i))))=(A1 rs id).bind fun p=>(ix p.2 i).bind fun _=>bif p.1==sz then O (.v (.sc (.pe id i.toNat 0))) else U:=by
 simp only[Da];cases A1 rs id with
 | none=>rfl
 | some p=>
  obtain⟨a,es⟩:=p;simp only[Ky];cases ix es i with
  | none=>rfl
  | some x=>
   by_cases h:a=sz
   ·simp[h]
   ·have h':(a==sz)=F:=by simpa using h
    simp[h,h']
theorem yq{g:zB}{n id off:zC}:CL ⟨env,bx,rows⟩ g n (.v (.sc (.pb id off)))=(A1 bx id).bind fun cs=>CV cs off g n:=by
 show(match A1 bx id with | some cs=>_ | none=>U)=_
 cases A1 bx id<;>rfl
theorem yu{g:zB}{n id i off:zC}:CL ⟨env,bx,rows⟩ g n (.v (.sc (.pe id i off)))=(A1 rows id).bind fun p=>(p.2[i]?).bind fun d=>CV (zH AC.dat d) off g n:=by
 simp only[CL];cases A1 rows id with
 | none=>rfl
 | some p=>
  simp only[Ky];cases p.2[i]?<;>rfl
theorem yr{g:zB}{n:zC}{cs:Z D}:CL σ g n (.v (.sc (.dat (.pd cs))))=CV (zH AC.dat cs) 0 g n:=rfl
theorem sH{rs:Rows}{off id i o:zC}:Cs rs off (.v (.sc (.pe id i o)))=(A1 rs id).map fun _=> .v (.sc (.pe id i (o+off))):=by
 simp only[Cs];cases A1 rs id<;>rfl
theorem sG{rs:Rows}{off:zC}{cs:Z D}:Cs rs off (.v (.sc (.dat (.pd cs))))=(DD off cs).map fun cs=> .v (.sc (.dat (.pd cs))):=by
 simp only[Cs,MV];split<;>rfl
theorem sD{l:Z V1}{i:zC}:KJ i (.tup l)=(l[i]?).map .v:=rfl
theorem A0g{id off:zC}:Gl (.v (.sc (.pb id off)))=O (.v (.sc (.pb id off))):=rfl
theorem A0h{cs:Z D}:Gl (.v (.sc (.dat (.pd cs))))=O (.v (.sc (.dat (.pd cs)))):=rfl
theorem A53:zH (St.val σ) []= []:=rfl
theorem A52{x:Opd}{l:Z Opd}:zH (St.val σ) (x::l)=σ.val x::zH (St.val σ) l:=rfl
theorem zu{f:FuncId}:Gk f []=O []:=rfl
theorem zm{f:FuncId}:Gi f []=O (.clo f []):=rfl
theorem zn{f:FuncId}{id:zC}{r:Z AV}:Gi f (.v (.sc (.pb id 0))::r)=(Gk f (.v (.sc (.pb id 0))::r)).map (.clo f):=rfl
theorem zl{f:FuncId}{d:D}{r:Z AV}:Gi f (.v (.sc (.dat d))::r)=(Gj (.v (.sc (.dat d))::r)).map fun q=> .dat (.clo f q):=rfl
theorem zq:Gj []=O []:=rfl
theorem zp{ds:Z D}{r:Z AV}:Gj (.v (.sc (.dat (.pd ds)))::r)=(Gj r).map (.pd ds:: ·):=rfl
theorem zt{f:FuncId}{id:zC}{r:Z AV}:Gk f (.v (.sc (.pb id 0))::r)=(Gk f r).map (id:: ·):=rfl
def QG(K:Z AC→I (Z AC))(off n:zC)(cs:Z AC):AV→I (Z AC)
 | .v x=>bif DL x.cells n&&C8 cs (off+n) then K (BQ cs off x.cells) else U
 | _=>U
def GF(σ:St):Z (zC × zC × Opd)→Z AC→I (Z AC)
 | [],cs=>O cs
 | (off,n,x)::r,cs=>QG (GF σ r) off n cs (σ.val x)
theorem Ty:∀(ps:Z (zC × zC × Opd)) (cs:Z AC),D9 cs (ps.map fun p=>(p.1,p.2.1,σ.val p.2.2))=GF σ ps cs
 | [],cs=>rfl
 | (off,n,x)::r,cs=>by
  simp only[yS,GF];generalize σ.val x=v
  cases v with
  | v y=>
   simp only[D9,QG,V3,PL];by_cases h1:y.cells.length=n
   ·by_cases h2:off+n≤cs.length
    ·subst h1;simp only[h2,and_self,if_true,decide_true,yM,cond_true];exact Ty r _
    ·simp[h1,h2]
   ·simp[h1]
  | _=>rfl
theorem nE{cs:Z AC}:GF σ [] cs=O cs:=rfl
theorem nD{off n:zC}{x:Opd}{r:Z (zC × zC × Opd)}{cs:Z AC}:GF σ ((off,n,x)::r) cs=QG (GF σ r) off n cs (σ.val x):=rfl
theorem nC{K:Z AC→I (Z AC)}{off n:zC}{cs:Z AC}{x:V1}:QG K off n cs (.v x)=bif DL x.cells n&&C8 cs (off+n) then K (BQ cs off x.cells) else U:=rfl
theorem tR{d zs ps}:go P (.ops ((U,.build d zs ps)::its)::k) Q .normal (O σ)=go P (.ops its::k) Q .normal (AD σ d ((GF σ ps zs).map fun cs=> .v (.ag cs))):=by rw[tX,Ty]
theorem A31{d zs ps}:σ.step (.build d zs ps)=AD σ d ((GF σ ps zs).map fun cs=> .v (.ag cs)):=by rw[dQ,Ty]
theorem A4a{n id off:zC}{y:V1}:St.storeV ⟨env,bx,rows⟩ n (.v (.sc (.pb id off))) (.v y)=(A1 bx id).bind fun cs=>bif DL y.cells n&&C8 cs (off+n) then O ⟨env,put bx id (BQ cs off y.cells),rows⟩ else U:=by
 simp only[St.storeV,V3,PL];cases A1 bx id with
 | none=>rfl
 | some cs=>
  simp only[Ky];by_cases h1:y.cells.length=n
  ·by_cases h2:off+n≤cs.length
   ·simp[h1,h2]
   ·simp[h1,h2]
  ·simp[h1]
def SG(sz:zC)(es:Z (Z D)):zB:=es.all fun r=>r.length==sz
theorem A2l{α:Type}{sz:zC}{row:α→Z D} [Row row sz]{xs:Z α}:SG sz (zH row xs)=T:=XD (Row.len (row:=row)) xs
theorem mC{d sz bytes id:zC}{y:AV}:St.appV ⟨env,bx,rows⟩ d sz bytes (.v (.sc (.own id))) y=bif id / 99999999999==0 then((A1 rows id).bind fun p=>(appSrc rows y).bind fun es'=>
  bif (p.1==sz)&&(SG sz es'&&Ad p.2.length es'.length bytes) then O ⟨put (env.map fun p=>(p.1,p.2.map (AC.kill id))) d (.v (.sc (.own id))),bx.map fun p=>(p.1,p.2.map (AC.kill id)),put rows id (sz,p.2++es')⟩ else U) else U:=by
 simp only[St.appV];by_cases h0:id / 99999999999=0
 rotate_left
 ·rw[if_neg h0,show(id / 99999999999==0)=F by simpa using h0];rfl
 rw[if_pos h0,show(id / 99999999999==0)=T by simpa using h0,cond_true];cases A1 rows id with
 | none=>rfl
 | some p=>
  obtain⟨a,es⟩:=p;simp only[Ky];cases appSrc rows y with
  | none=>rfl
  | some es'=>
   simp only[Ky];by_cases h1:a=sz
   ·by_cases h2:SG sz es'=T
    ·by_cases h3:Ad es.length es'.length bytes=T
     ·have h3':=of_decide_eq_true h3;rw[if_pos ⟨h1,h2,h3'.1,h3'.2⟩];simp only[h1,beq_self_eq_true,h2,h3,yM,cond_true];rfl
     ·have h3':Ad es.length es'.length bytes=F:=by simpa using h3
      rw[if_neg (fun h=>h3 (decide_eq_true ⟨h.2.2.1,h.2.2.2⟩))];simp[h3']
    ·have h2':SG sz es'=F:=by simpa using h2
     rw[if_neg (fun h=>h2 h.2.1)];simp[h2']
   ·have h1':(a==sz)=F:=by simpa using h1
    rw[if_neg (fun h=>h1 h.1)];simp[h1']
theorem A3r{rs:Rows}{es:Z (Z D)}:appSrc rs (.v (.sc (.dat (.sl es))))=O es:=rfl
theorem A3s{rs:Rows}:appSrc rs (.v (.sc .nil))=O []:=rfl
theorem A3t{rs:Rows}{id:zC}:appSrc rs (.v (.sc (.own id)))=(A1 rs id).map fun p=>p.2:=by
 simp only[appSrc,toD0];cases A1 rs id<;>rfl
theorem zb{α:Type}{f:α→Z D}{a b:Z α}:zH f a++zH f b=zH f (a++b):=List.map_append.symm
def Ex(σ:St)(n:zC):I Opd→I zA
 | none=>O n
 | some x=>C4 (σ.val x)
def GG(n:zC):I zA→I zA→I zA→I (zC × zC)
 | some m,O h,O l=>bnd m h l n
 | _,_,_=>U
theorem QH{lo hi mx:I Opd}{n:zC}:E6 σ lo hi mx n=GG n (Ex σ n mx) (Ex σ n hi) (match lo with | none=>O 0 | some x=>C4 (σ.val x)):=by
 cases mx<;>cases hi<;>cases lo<;>(simp only[E6,GG,Ex]; first | rfl | (split<;>simp_all[GG,bnd]))
def PV(σ:St):I Opd→I zA
 | none=>O 0
 | some x=>C4 (σ.val x)
theorem A29{α:Type}{sz:zC}{lo hi mx:I Opd}{xs:Z α}{row:α→Z D} [Row row sz]:Dd σ sz (.v (.sc (.dat (.sl (zH row xs))))) lo hi mx=(GG xs.length (Ex σ xs.length mx) (Ex σ xs.length hi) (PV σ lo)).map fun p=> .v (.sc (.dat (.sl (zH row ((xs.drop p.1).take (p.2 - p.1)))))):=by
 have h:(zH row xs).all (fun d=>d.length==sz)=T:=XD (Row.len (row:=row)) xs;simp only[Dd,h,Row.pos row (sz:=sz),decide_true,yM,if_true,yA,QH];cases lo<;>simp[PV,List.map_drop,kC]
theorem A30{lo hi:I Opd}{s:Z zD}:HW σ (.v (.sc (.dat (.str s)))) lo hi=(GG s.length (Ex σ s.length U) (Ex σ s.length hi) (PV σ lo)).map fun p=> .v (.sc (.dat (.str ((s.drop p.1).take (p.2 - p.1))))):=by
 simp only[HW,QH];cases lo<;>rfl
theorem A02{n:zC}:Ex σ n U=O (n:zA):=rfl
theorem A03{n:zC}{x:Opd}:Ex σ n (O x)=C4 (σ.val x):=rfl
theorem A00:PV σ U=O 0:=rfl
theorem A01{x:Opd}:PV σ (O x)=C4 (σ.val x):=rfl
theorem mF{kd:IntKind}{i:zA}:C4 (.v (.sc (.dat (.int kd i))))=O i:=rfl
theorem nH{n:zC}{m h l:zA}:GG n (O m) (O h) (O l)=bnd m h l n:=rfl
theorem A4g{x y:Z zD}:HX .add x y=bif Ft x.length y.length then O (.str (x++y)) else U:=by
 simp only[HX,Ft];by_cases h:x.length+y.length≤4611686018427387904
 ·simp[h]
 ·simp[h]
theorem wc{k:IntKind}{x y:zA}:AU .and k x y=O (.int k (Bk .and k x y)):=rfl
theorem wn{k:IntKind}{x y:zA}:AU .or k x y=O (.int k (Bk .or k x y)):=rfl
theorem xA{k:IntKind}{x y:zA}:AU .xor k x y=O (.int k (Bk .xor k x y)):=rfl
theorem mf:(T==T)=T:=rfl
theorem me:(T==F)=F:=rfl
theorem mc:(F==T)=F:=rfl
theorem mb:(F==F)=T:=rfl
theorem lj{b:zB}:(F&&b)=F:=rfl
end
def cS{α:Type}(k:zC):I α→Z (zC × α)→Z (zC × α)
 | some v,r=>(k,v)::r
 | none,r=>r
theorem A1g{α:Type}{l:Z (zC × α)}:Cn l []= []:=rfl
theorem A1f{α:Type}{l:Z (zC × α)}{k:zC}{ks:Z zC}:Cn l (k::ks)=cS k (A1 l k) (Cn l ks):=by
 show(match A1 l k with | some v=>_ | none=>_)=_
 cases A1 l k<;>rfl
theorem A1e{α:Type}{k:zC}{v:α}{r:Z (zC × α)}:cS k (O v) r=(k,v)::r:=rfl
theorem xG{env bx rows ks bs rs}:(St.mk env bx rows).kept ks bs rs=⟨Cn env ks,Cn bx bs,Cn rows rs⟩:=rfl
theorem uK{P:Program}{k:Z Fr}{Q:Xl→St→Prop}{σ:St}{its:Z AItem}{ks bs rs:Z zC}:go P (.ops ((U,.keep ks bs rs)::its)::k) Q .normal (O σ)=go P (.ops its::k) Q .normal (O (σ.kept ks bs rs)):=B8 rfl
theorem A1h{b:zB}{x y:AV}:Mp (.v (.sc (.dat (.bool b)))) x y=O (bif b then x else y):=rfl
theorem ma{g x y:zB}:Kx g (.v (.sc (.dat (.bool x)))) (.v (.sc (.dat (.bool y))))=O (.v (.sc (.dat (.bool (bif g then !(x==y) else x==y))))):=rfl
theorem A0a{m:zB}{k:IntKind}{x y:zA}:K3 m (.v (.sc (.dat (.int k x)))) (.v (.sc (.dat (.int k y))))=O (.v (.sc (.dat (.int k (bif m then(if x<y then y else x) else(if y<x then y else x)))))):=by simp[K3]
theorem A5p{k:IntKind}{x:zA}:Kk .neg (.v (.sc (.dat (.int k x))))=O (.v (.sc (.dat (.int k (k.wrap (0 - x)))))):=rfl
theorem sF{rs:Rows}{off id o:zC}:Cs rs off (.v (.sc (.pb id o)))=O (.v (.sc (.pb id (o+off)))):=rfl
theorem yc{rs:Rows}{id:zC}:Ep rs (.v (.sc (.own id)))=(A1 rs id).map fun p=> .v (.sc (.dat (.int .i64 p.2.length))):=by
 show(match A1 rs id with | some (_,es)=>_ | none=>_)=_
 cases A1 rs id<;>rfl
theorem wM{k:zC}:Gd k []= []:=rfl
theorem wL{k:zC}{d:DV}{ds:Z DV}:Gd k (d::ds)=(k,d.av)::Gd (k+1) ds:=rfl
theorem wO{ds:Z DV}:St.init ds=⟨Gd 0 ds,[],[]⟩:=rfl
theorem qZ{d:D}:DV.av (.sc d)= .v (.sc (.dat d)):=rfl
theorem qY{ds:Z D}:DV.av (.ag ds)= .v (.ag (ds.map .dat)):=rfl
theorem yo{f:AC→AC}:zH (V1.map f) []= []:=rfl
theorem yn{f:AC→AC}{x:V1}{l:Z V1}:zH (V1.map f) (x::l)=x.map f::zH (V1.map f) l:=rfl
theorem xZ{f:AC→AC}:zH (fun p:zC × AV=>(p.1,p.2.map f)) []= []:=rfl
theorem xY{f:AC→AC}{k:zC}{v:AV}{l:Z (zC × AV)}:zH (fun p:zC × AV=>(p.1,p.2.map f)) ((k,v)::l)=(k,v.map f)::zH (fun p:zC × AV=>(p.1,p.2.map f)) l:=rfl
theorem nG{f:AC→AC}:zH (fun p:zC × Z AC=>(p.1,p.2.map f)) []= []:=rfl
theorem nF{f:AC→AC}{k:zC}{v:Z AC}{l:Z (zC × Z AC)}:zH (fun p:zC × Z AC=>(p.1,p.2.map f)) ((k,v)::l)=(k,v.map f)::zH (fun p:zC × Z AC=>(p.1,p.2.map f)) l:=rfl
theorem nq{f:AC→AC}:zH f ([]:Z AC)= []:=rfl
theorem nl{f:AC→AC}{c:AC}{l:Z AC}:zH f (c::l)=f c::zH f l:=rfl
theorem ym{α β:Type}{f:α→β}{l:Z α}:(zH f l).length=l.length:=yA ..
theorem nW{c:AC}:V1.cells (.sc c)= [c]:=rfl
theorem nS{cs:Z AC}:V1.cells (.ag cs)=cs:=rfl
theorem zd{f:AC→AC}{env bx rows}:(St.mk env bx rows).map f=⟨env.map fun p=>(p.1,p.2.map f),bx.map fun p=>(p.1,p.2.map f),rows⟩:=rfl
theorem mS{f:AC→AC}{c:AC}:AV.map f (.v (.sc c))= .v (.sc (f c)):=rfl
theorem mR{f:AC→AC}{cs:Z AC}:AV.map f (.v (.ag cs))= .v (.ag (cs.map f)):=rfl
theorem mU{f:AC→AC}:AV.map f .undef= .undef:=rfl
theorem mQ{f:AC→AC}:AV.map f .no= .no:=rfl
theorem mT{f:AC→AC}{l:Z V1}:AV.map f (.tup l)= .tup (l.map (V1.map f)):=rfl
theorem A5x{f:AC→AC}{c:AC}:V1.map f (.sc c)= .sc (f c):=rfl
theorem A5w{f:AC→AC}{cs:Z AC}:V1.map f (.ag cs)= .ag (cs.map f):=rfl
theorem xL{id:zC}{d:D}:AC.kill id (.dat d)= .dat d:=rfl
theorem xP{id:zC}:AC.kill id .nil= .nil:=rfl
theorem xU{id:zC}:AC.kill id .undef= .undef:=rfl
theorem xQ{id i:zC}:AC.kill id (.own i)=bif i==id then .undef else .own i:=rfl
theorem xS{id i a b:zC}:AC.kill id (.osub i a b)=bif i==id then .undef else .osub i a b:=rfl
theorem xM{id i a b:zC}:AC.kill id (.pe i a b)=bif i==id then .undef else .pe i a b:=rfl
theorem xJ{id i a:zC}:AC.kill id (.pb i a)= .pb i a:=rfl
theorem xK{id f:zC}{is:Z zC}:AC.kill id (.clo f is)= .clo f is:=rfl
theorem sb{id:zC}{es:Z (Z D)}{d:D}:AC.frz id es (.dat d)= .dat d:=rfl
theorem sj{id:zC}{es:Z (Z D)}:AC.frz id es .nil= .nil:=rfl
theorem sv{id:zC}{es:Z (Z D)}:AC.frz id es .undef= .undef:=rfl
theorem sr{id i:zC}{es:Z (Z D)}:AC.frz id es (.own i)=bif i==id then .dat (.sl es) else .own i:=rfl
theorem su{id i a b:zC}{es:Z (Z D)}:AC.frz id es (.osub i a b)=bif i==id then .undef else .osub i a b:=rfl
theorem sd{id i a b:zC}{es:Z (Z D)}:AC.frz id es (.pe i a b)=bif i==id then .undef else .pe i a b:=rfl
theorem sY{id i a:zC}{es:Z (Z D)}:AC.frz id es (.pb i a)= .pb i a:=rfl
theorem sZ{id f:zC}{es:Z (Z D)}{is:Z zC}:AC.frz id es (.clo f is)= .clo f is:=rfl
theorem tx{P:Program}{k:Z Fr}{Q:Xl→St→Prop}{σ:St}{its:Z AItem}{id sz:zC}{es:Z (Z D)}(hf:A1 σ.rows id=O (sz,es))(H:go P (.ops its::k) Q .normal (O {(σ.map (AC.frz id es)) with rows:=erase σ.rows [id] }))(h0:(id / 99999999999==0)=T:=by rfl) :
  go P (.ops ((U,.frz id)::its)::k) Q .normal (O σ):=by
 rw[tw];simp only[St.step,hf,h0,yT,yH,if_false];exact H
theorem G9{P:Program}{k:Z Fr}{Q:Xl→St→Prop}{σ:St}{its:Z AItem}{b j id sz:zC}{cs cs':Z AC}(h1:σ.has id=F)(h2:A1 σ.bx b=O cs)(h3:cs[j]?=O .nil)(h4:cs.set j (.own id)=cs')
  (H:go P (.ops its::k) Q .normal (O {σ with bx:=put σ.bx b cs',rows:=put σ.rows id (sz,[]) })) (h0:(id / 99999999999==0)=T:=by rfl):go P (.ops ((U,.ownb b j id sz)::its)::k) Q .normal (O σ):=by
 rw[uW];subst h4;simp only[St.step,h1,h2,h3,h0,yT,Bool.or_self,yH,if_false];exact H
theorem rr{α:Type}{ks:Z zC}:erase ([]:Z (zC × α)) ks= []:=rfl
theorem ru{α:Type}{k n:zC}{v:α}{r:Z (zC × α)}:erase ((k,v)::r) [n]=bif k==n then erase r [n] else(k,v)::erase r [n]:=by
 by_cases h:k=n
 ·simp[erase,h]
 ·have h':(k==n)=F:=by simpa using h
  simp[erase,h,h']
theorem A2b{ts:Z RV}{rs:Z R1}{σ:St}:A5 ts rs .ret σ=(OutVs σ ts rs∧F5 (D1 σ ts rs)=T):=rfl
theorem A2a{ts:Z RV}{rs:Z R1}{σ:St}:A5 ts rs .normal σ=(OutVs σ ts rs∧F5 (D1 σ ts rs)=T):=rfl
theorem A08{σ:St}{t:RV}{ts:Z RV}{r:R1}{rs:Z R1}:OutVs σ (t::ts) (r::rs)=(Qv σ.rows (Mn σ t) r∧OutVs σ ts rs):=rfl
theorem A07{σ:St}{t:RV}{ts:Z RV}{r:R1}{rs:Z R1}:D1 σ (t::ts) (r::rs)=Vj (Mn σ t) r++D1 σ ts rs:=rfl
theorem A06{σ:St}{a n:zC}{g:zB}:Mn σ (.c a g n)=(CL σ g n (σ.get a)).getD .undef:=rfl
def Q5:=zF @A2b (zF @A2a (zF @A08 (zF @A07 @A06)))
set_option maxRecDepth 4000 in
def A2n:=zF @uT (zF @uR (zF @uk (zF @ud (zF @tl (zF @tr (zF @uj (zF @tW (zF @tm (zF @uh (zF @te (zF @uc (zF @ub (zF @uY (zF @ua (zF @tS (zF @tV (zF @uV (zF @tk (zF @Vq (zF @uH (zF @uG (zF @uE (zF @uD (zF @uC (zF @sS (zF @sR (zF @A1t (zF @A1s (zF @A5z (zF @A5y (zF @tH (zF @A23 (zF @getD_some (zF @getD_none (zF @map_some (zF @map_none (zF @A3b (zF @yd (zF @A2u (zF @A2t (zF @ya (zF @nx (zF @mq (zF @nA (zF @wb (zF @wz (zF @wk (zF @wo (zF @wq (zF @we (zF @wm (zF @wj (zF @wi (zF @wh (zF @wg (zF @A4h (zF @A4i (zF @A5q (zF @vj (zF @xC (zF @sO (zF @nT (zF @nu (zF @nr (zF @uQ (zF @uU (zF @uM (zF @uS (zF @tQ (zF @tP (zF @uu (zF @tf (zF @um (zF @uq (zF @tp (zF @tq (zF @uI (zF @uJ (zF @tn (zF @uL (zF @ui (zF @uo (zF @uP (zF @uN (zF @ur (zF @tN (zF @tT (zF @wX (zF @wP (zF @wQ (zF @wU (zF @wT (zF @A8k (zF @A8j (zF @wa (zF @wY (zF @wZ (zF @wW (zF @wS (zF @wR (zF @A2d (zF @A2e (zF @A2g (zF @nV (zF @nR (zF @A2i (zF @A2k (zF @A2j (zF @A1p (zF @A1o (zF @mB (zF @mA (zF @nI (zF @md (zF @oc (zF @oe (zF @oM (zF @oV (zF @od (zF @oJ (zF @oI (zF @oo (zF @oN (zF @oi (zF @ol (zF @oP (zF @oQ (zF @oS (zF @oG (zF @oT (zF @oO (zF @oU (zF @oh (zF @oj (zF @oZ (zF @oW (zF @oK (zF @oH (zF @oL (zF @oY (zF @pK (zF @pN (zF @ov (zF @pF (zF @pM (zF @ou (zF @ot (zF @pT (zF @ow (zF @pP (zF @pR (zF @oy (zF @oz (zF @pC (zF @oq (zF @pD (zF @ox (zF @pE (zF @pO (zF @pQ (zF @pJ (zF @pG (zF @pV (zF @pU (zF @pc (zF @pZ (zF @pY (zF @yi (zF @zj (zF @zi (zF @xF (zF @xE (zF @xD (zF @A41 (zF @A5s (zF @mI (zF @mJ (zF @mL (zF @mM (zF @mN (zF @mH (zF @mG (zF @A0l (zF @A0m (zF @lq (zF @tv (zF @tO (zF @qO (zF @qQ (zF @py (zF @qJ (zF @qP (zF @pv (zF @pu (zF @qW (zF @qB (zF @qS (zF @qU (zF @qD (zF @qE (zF @qG (zF @pq (zF @qH (zF @qC (zF @qI (zF @qR (zF @qT (zF @qN (zF @qK (zF @pw (zF @pr (zF @px (zF @qM (zF @pz (zF @qA (zF @de (zF @dh (zF @dZ (zF @dg (zF @dP (zF @dO (zF @dq (zF @dR (zF @dk (zF @dn (zF @dT (zF @dU (zF @dW (zF @dX (zF @dS (zF @dY (zF @dj (zF @dl (zF @dc (zF @da (zF @A1g (zF @A1f (zF @A1e (zF @xG (zF @uK (zF @A1h (zF @ma (zF @A0a (zF @A5p (zF @sF (zF @yc (zF @wM (zF @wL (zF @wO (zF @qZ (zF @qY (zF @ym (zF @nW (zF @nS (zF @zd (zF @mS (zF @mR (zF @mU (zF @mT (zF @A5x (zF @A5w (zF @xL (zF @xP (zF @xU (zF @xQ (zF @xS (zF @xM (zF @xJ (zF @xK (zF @sb (zF @sj (zF @sv (zF @sr (zF @su (zF @sd (zF @sY (zF @sZ (zF @rr (zF @ru (zF @pm (zF @pp (zF @A4z (zF @A40 (zF @xx (zF @xy (zF @xv (zF @xw (zF @nX (zF @A2z (zF @A21 (zF @A22 (zF @Ky (zF @nB (zF @get_map (zF @tJ (zF @tI (zF @pg (zF @pf (zF @ve (zF @vd (zF @yq (zF @yu (zF @yr (zF @sH (zF @sG (zF @sD (zF @A0g (zF @A0h (zF @A53 (zF @A52 (zF (zF @zu (zF @zm (zF @zn (zF @zl (zF @zq @zp))))) (zF @zt (zF @nE (zF @nD (zF @nC (zF @tR (zF @A31 (zF @A4a (zF @A2l (zF @mC (zF @A3r (zF @A3s (zF @A3t (zF @zb (zF @A29 (zF @A30 (zF @A02 (zF @A03 (zF @A00 (zF @A01 (zF @mF (zF @nH (zF @A4g (zF @wc (zF @wn (zF @xA (zF @mf (zF @me (zF @mc (zF @mb (zF @lj (zF @Sb (zF @ce (zF @Y2 (zF @A1u (zF @A1v (zF @A1x (zF @A1w (zF @yo (zF @yn (zF @xZ (zF @xY (zF @nG (zF @nF (zF @nq (zF @nl (zF @pX (zF @uB @mQ))))))))))))))))))))))))))))))))))))))))))))))))))))))))))))))))))))))))))))))))))))))))))))))))))))))))))))))))))))))))))))))))))))))))))))))))))))))))))))))))))))))))))))))))))))))))))))))))))))))))))))))))))))))))))))))))))))))))))))))))))))))))))))))))))))))))))))))))))))))))))))))))))))))))))))))))))))))))))))))))))))))))))))))))))))))))))))))))))))))
theorem D3{P:Program}(hm:P.follows .mixedOrders=T){f:FuncId}{c:Xg}{ts:Z RV}{nt:zC}{xs:Z XV}{R0 R1:Ap}{r:D}{ps:Z (zC × zC)}{σ:St}(he:AE P f=O (c.strip,ts,nt))(hl:zY xs.length nt=T)(hlen:R1.length=R0.length)(hrf:r.flat=T)(hR1:DJ R1)(hσ:St.initX xs R0=σ)
  (h:go P [.code c] (CD ts r R1 ps) .normal (O σ)):FCx P f xs R0 R1 r:=gY hm he (zM hl) hlen hrf hR1 (JV (hσ▸h))
theorem Bw:DJ []:=fun p hp=>by simp at hp
theorem AS{α:Type}{row:α→Z D} [FlatRow row]{sz:zC}{xs:Z α}{R:Ap}(h:DJ R):DJ ((sz,zH row xs)::R):=fun p hp=>by
 rcases zR.1 hp with rfl|hp
 ·intro e he d hd;obtain⟨x,_,rfl⟩:=zV.1 he;exact FlatRow.flat x d hd
 ·exact h p hp
theorem DA:DT [] []=T:=rfl
theorem Cd{α β:Type}{row:α→Z D}{row':β→Z D}{z:zC}{xs:Z α}{ys:Z β}{R R':Ap}(hl:ys.length=xs.length)(h:DT R R'=T):DT ((z,zH row xs)::R) ((z,zH row' ys)::R')=T:=by
 simp[DT,hl,h]
theorem wV{env:Z (zC × AV)}{bx:Z (zC × Z AC)}{rows:Rows}{d:zC}{ids:Z zC}{R1:Ap}{r:D}:St.instX ⟨env,bx,rows⟩ d ids R1 r=⟨put env d (.v (.sc (.dat r))),bx,CN rows ids R1⟩:=rfl
theorem A1q{rs:Rows}{id:zC}{ids:Z zC}{r:zC × Z (Z D)}{R:Ap}:CN rs (id::ids) (r::R)=CN (put rs id r) ids R:=rfl
theorem A1r{rs:Rows}:CN rs [] []=rs:=rfl
theorem XQ{N:Z zC}:AV.avoids N (.v (.sc .z))=T:=by simp[AV.avoids,AV.cells,V1.cells,AC.avoids,AC.uses]
theorem B5n{P:Program}{k:Z Fr}{Q:Xl→St→Prop}{σ:St}{N:Z zC}{d:zC}{its:Z AZ}:go P (.dops ((O N,U,.zsl d)::its)::k) Q .normal (O σ)=go P (.dops its::k) Q .normal (O (σ.set d (.v (.sc .z)))):=by
 rw[BC rfl];show go P _ Q .normal (bif (((σ.less N).set d (.v (.sc .z))).get d).avoids N then O (σ.set d (((σ.less N).set d (.v (.sc .z))).get d)) else U)=_
 rw[St.get_set_same,XQ];rfl
theorem mP{N:Z zC}:AV.avoids N (.tup [])=T:=rfl
theorem mO{N:Z zC}{x:V1}{l:Z V1}:AV.avoids N (.tup (x::l))=((AV.v x).avoids N&&(AV.tup l).avoids N):=by simp[AV.avoids,AV.cells]
theorem zw{t:TypeId}{d:D}:HM t (.v (.sc (.dat d)))=O (.v (.sc (.dat (.ifc t d)))):=rfl
theorem A42{t u:TypeId}{zc:AC}{d:D}:Ms t zc (.v (.sc (.dat (.ifc u d))))=bif u==t then O (.tup [.sc (.dat d),.sc (.dat (.bool T))]) else O (.tup [.sc zc,.sc (.dat (.bool F))]):=rfl
theorem sy{id:zC}{ds:Z D}{d:D}:AC.frzb id ds (.dat d)= .dat d:=rfl
theorem tB{id:zC}{ds:Z D}:AC.frzb id ds .nil= .nil:=rfl
theorem tE{id:zC}{ds:Z D}:AC.frzb id ds .undef= .undef:=rfl
theorem tC{id i:zC}{ds:Z D}:AC.frzb id ds (.own i)= .own i:=rfl
theorem tD{id i a b:zC}{ds:Z D}:AC.frzb id ds (.osub i a b)= .osub i a b:=rfl
theorem tA{id i a b:zC}{ds:Z D}:AC.frzb id ds (.pe i a b)= .pe i a b:=rfl
theorem sx{id i a:zC}{ds:Z D}:AC.frzb id ds (.pb i a)=bif i==id then .dat (.pd (ds.drop a)) else .pb i a:=rfl
theorem A14{a b:zC}{d:D}:AC.ren a b (.dat d)= .dat d:=rfl
theorem A16{a b:zC}:AC.ren a b .nil= .nil:=rfl
theorem A19{a b:zC}:AC.ren a b .undef= .undef:=rfl
theorem A17{a b i:zC}:AC.ren a b (.own i)= .own (bif i==a then b else i):=rfl
theorem A18{a b i x y:zC}:AC.ren a b (.osub i x y)= .osub (bif i==a then b else i) x y:=rfl
theorem A15{a b i x y:zC}:AC.ren a b (.pe i x y)= .pe (bif i==a then b else i) x y:=rfl
theorem A12{a b i x:zC}:AC.ren a b (.pb i x)= .pb i x:=rfl
theorem ug{P:Program}{k:Z Fr}{Q:Xl→St→Prop}{σ:St}{its:Z AItem}{a b:zC}{r:zC × Z (Z D)}(h1:σ.has b=F)(hf:A1 σ.rows a=O r)(H:go P (.ops its::k) Q .normal (O {(σ.map (AC.ren a b)) with rows:=put (erase σ.rows [a]) b r }))
  (h0:(a / 99999999999==0)=T:=by rfl) (h2:(b / 99999999999==0)=T:=by rfl):go P (.ops ((U,.ren a b)::its)::k) Q .normal (O σ):=by
 rw[ue];simp only[St.step,h1,hf,h0,h2,yM,yT,Bool.or_self,yH,if_false];exact H
theorem zv{t:TypeId}{a b:D}:HM t (.v (.ag [.dat a,.dat b]))=O (.v (.sc (.dat (.ifs t [a,b])))):=rfl
def FCq(P:Program)(f:FuncId)(ds:Z DV)(rs:Z R1):I D→Prop
 | none=>FC P f ds rs
 | some d=>MD P f ds d
theorem FCq.none{P:Program}{f:FuncId}{ds:Z DV}{rs:Z R1}{pd:I D}(h:FCq P f ds rs pd)(hp:pd=U):FC P f ds rs:=by subst hp; exact h
theorem FCq.some{P:Program}{f:FuncId}{ds:Z DV}{rs:Z R1}{pd:I D}{d:D}(h:FCq P f ds rs pd)(hp:pd=O d):MD P f ds d:=by subst hp; exact h
theorem zy{t:TypeId}{id:zC}:HM t (.v (.sc (.pb id 0)))=O (.v (.sc (.ipb t id))):=rfl
theorem xN{id i:zC}{t:TypeId}:AC.kill id (.ipb t i)= .ipb t i:=rfl
theorem se{id i:zC}{t:TypeId}{es:Z (Z D)}:AC.frz id es (.ipb t i)= .ipb t i:=rfl
theorem uA{P:Program}{k:Z Fr}{Q:Xl→St→Prop}{σ:St}{its:Z AItem}{id:zC}{cs:Z AC}{ds:Z D}(hf:A1 σ.bx id=O cs)(hd:CQ cs=O ds)(H:go P (.ops its::k) Q .normal (O (({σ with bx:=erase σ.bx [id]}:St).map (AC.frzb id ds))))(h0:(id / 99999999999==0)=T:=by rfl) :
  go P (.ops ((U,.frzb id)::its)::k) Q .normal (O σ):=by
 rw[tz];simp only[St.step,hf,hd,h0,yT,yH,if_false];exact H
theorem tF{g:zB}{ks:Z FK}{cs ds:Z AC}:LX g ks (.v (.ag cs)) (.v (.ag ds))=(Bu ks cs ds).map fun b=> .v (.sc (.dat (.bool (bif g then !b else b)))):=rfl
theorem rp:Bu [] [] []=O T:=rfl
theorem ro{k:IntKind}{x y:zA}{ks:Z FK}{cs ds:Z AC}:Bu (.i::ks) (.dat (.int k x)::cs) (.dat (.int k y)::ds)=(Bu ks cs ds).map fun b=>(x==y)&&b:=if_pos rfl
theorem rn{x y:zB}{ks:Z FK}{cs ds:Z AC}:Bu (.b::ks) (.dat (.bool x)::cs) (.dat (.bool y)::ds)=(Bu ks cs ds).map fun b=>(x==y)&&b:=rfl
theorem rq{x y:Z zD}{ks:Z FK}{cs ds:Z AC}:Bu (.s::ks) (.dat (.str x)::cs) (.dat (.str y)::ds)=(Bu ks cs ds).map fun b=>(x==y)&&b:=rfl
def A2p:=zF @XQ (zF @B5n (zF @mP (zF @mO (zF @wV (zF @A1q (zF @A1r (zF @uO (zF @ut (zF @db (zF @dp (zF @oX (zF @pH (zF @qL (zF @om (zF @pS (zF @qV (zF @zw (zF @A42 (zF @sy (zF @tB (zF @tE (zF @tC (zF @tD (zF @tA (zF @sx (zF @zy (zF @xN (zF @se (zF @A14 (zF @A16 (zF @A19 (zF @A17 (zF @A18 (zF @A15 (zF @A12 (zF @uX (zF @tZ (zF @uZ (zF @tU (zF @zv (zF @dV (zF @uF (zF @oR (zF @pA (zF @qF (zF @tF (zF @rp (zF @ro (zF @rn @rq)))))))))))))))))))))))))))))))))))))))))))))))))
end
section
def Cj(P:Program):zC→TypeId→Z D→Prop
 | 0,_,_=>False
 | n+1,t,ds=>match P.underlying t with
  | some .bool=>∃b,ds= [.bool b]
  | some (.int k)=>∃i,ds= [.int k i]
  | some .string=>∃s,ds= [.str s]
  | some (.slice e)=>∃es,ds= [.sl es]∧∀r∈es,Cj P n e r
  | some (.struct fs)=>ds.length=P.cellsOf t∧∀f∈fs.toList,Cj P n f.type ((ds.drop f.offset).take (P.cellsOf f.type))
  | _=>False
def De(P:Program):zC→Z Field→zC→zB
 | off,[],n=>off==n
 | off,f::fs,n=>(f.offset==off)&&De P (off+P.cellsOf f.type) fs n
def Gp(P:Program):zC→TypeId→zB
 | 0,_=>F
 | n+1,t=>match P.underlying t with
  | some .bool | some (.int _) | some .string=>decide (P.cellsOf t=1)
  | some (.slice e)=>Gp P n e&&(decide (0<P.cellsOf e)&&decide (P.cellsOf t=1))
  | some (.struct fs)=>De P 0 fs.toList (P.cellsOf t)&&fs.toList.all fun f=>Gp P n f.type
  | _=>F
theorem Reps.of_take{h:A6}:∀{ds:Z D} {vs:Z Value} {n:zC},Reps h ds (vs.take n)→Reps h ds vs
 | _,vs,n,H=>by
  have:=H.more (vs.drop n);rwa [yO] at this
section
variable {H : Type} {enc : TypeId × Value → H} {P : Program} {w : World} {sp : zC → zB} {held : zB}
theorem Y5{a:Addr}{n:zC}{cs:Z Value}(hc:w.cells? 0 a n=O cs)(hn:0<n) :
  ∃C:Z Value,B7 w a.block C∧a.spot=U∧cs=(C.drop a.off).take n∧cs.length=n:=by
 obtain⟨_,hl,hi⟩:=World.cells?_some hc;have h0:=hi 0 hn;have e0:a.add 0=a:=by simp[Addr.add]
 rw[e0] at h0
 have hne:cs[0]?≠U:=by
  rw[zI (by omega)]; simp
 unfold World.cell? at h0
 split at h0
 ·rename_i c t fr hb
  split at h0
  ·rw[← h0] at hne; exact absurd rfl hne
  ·rename_i hs
   have hs':a.spot=U:=by simpa using hs
   refine⟨c.toList,⟨c,t,fr,hb,zE⟩,hs',?_,hl⟩
   have hci:∀i,i<n→cs[i]?=c[a.off+i]?:=by
    intro i hin;rw[← hi i hin];have eb:(a.add i).block=a.block:=by unfold Addr.add; split<;>rfl
    have eo:(a.add i).off=a.off+i:=by
     unfold Addr.add;split
     ·rename_i e; subst e; rfl
     ·rfl
    have es:(a.add i).spot=U:=by
     unfold Addr.add;split
     ·exact hs'
     ·rfl
    unfold World.cell?;rw[eb,hb];simp[es,eo]
   apply List.ext_getElem?
   intro i;by_cases hin:i<n
   ·rw[hci i hin,List.getElem?_take];simp[hin]
   ·rw[yE (by omega),yE];simp;omega
 ·rw[← h0] at hne; exact absurd rfl hne
theorem cr{n sz:zC}{e:TypeId}{C:Z Value}{off:zC}(hsz:0<sz):∀(len k:zC),(∀i,i<len→∃ds,Reps (B7 w) ds ((C.drop (off+(k+i)*sz)).take sz)∧ds.length=sz∧Cj P n e ds)→
  ∃es:Z (Z D),es.length=len∧RepRows (B7 w) sz es (C.drop (off+k*sz))∧∀r∈es,Cj P n e r
 | 0,k,_=>⟨[],rfl,.nil,by simp⟩
 | len+1,k,h=>by
  obtain⟨ds,h1,h2,h3⟩:=h 0 (by omega)
  obtain⟨es,k1,k2,k3⟩:=cr hsz len (k+1) (fun i hi=>by
   have:=h (i+1) (by omega);rwa [show k+(i+1)=k+1+i by omega] at this)
  refine⟨ds::es,by simp[k1],.cons h2 ?_ ?_,?_⟩
  ·have:=h1.of_take;simpa using this
  ·rw[kA];rw[show off+k*sz+sz=off+(k+1)*sz by rw[Nat.add_mul]; omega];exact k2
  ·intro r hr;rcases zR.1 hr with rfl|hr
   ·exact h3
   ·exact k3 r hr
theorem ba{α β:Type}{f:α→I β}:∀{l:Z α} {r:Z β},l.mapM f=O r→∀x∈l,∃y,f x=O y:=by
 intro l
 induction l with
 | nil=>intro r _ x hx; simp at hx
 | cons a l ih=>
  intro r h x hx;simp only[yI,yQ,yY,zU] at h;obtain⟨y,hy,ys,hys,_⟩:=h;rcases zR.1 hx with rfl|hx
  ·exact⟨y,hy⟩
  ·exact ih hys x hx
theorem cg{n fuel:zC}{cs:Z Value}{N:zC}(hN:cs.length=N)(ih:∀t' cs' x',Gp P n t'=T→DataW.trod enc P w 0 sp held fuel t' cs'=O x'→∃ds,Reps (B7 w) ds cs'∧ds.length=cs'.length∧cs'.length=P.cellsOf t'∧Cj P n t' ds) :
  ∀(fs:Z Field) (off:zC),De P off fs N=T→(fs.all fun f=>Gp P n f.type)=T→(∀f∈fs,∃y,DataW.trod enc P w 0 sp held fuel f.type ((cs.drop f.offset).take (P.cellsOf f.type))=O y)→
   ∃ds,Reps (B7 w) ds (cs.drop off)∧ds.length=(cs.drop off).length∧∀f∈fs,off≤f.offset∧Cj P n f.type ((ds.drop (f.offset - off)).take (P.cellsOf f.type))
 | [],off,ht,_,_=>by
  have:off=N:=by simpa[De] using ht
  subst this;exact⟨[],.nil,by simp[hN],by simp⟩
 | f::fs,off,ht,hok,hr=>by
  simp only[De,zQ,beq_iff_eq] at ht
  obtain⟨h1,h2⟩:=ht;simp only[yF,zQ] at hok
  obtain⟨y,hy⟩:=hr f (by simp);obtain⟨d1,r1,l1,c1,t1⟩:=ih _ _ _ hok.1 hy;obtain⟨d2,r2,l2,t2⟩:=cg hN ih fs _ h2 hok.2 (fun g hg=>hr g (by simp[hg]));rw[h1] at r1 l1 c1
  have e:cs.drop off=(cs.drop off).take (P.cellsOf f.type)++cs.drop (off+P.cellsOf f.type):=by
   conv=>lhs; rw[← yO (P.cellsOf f.type) (cs.drop off),kA]
  refine⟨d1++d2,?_,?_,?_⟩
  ·rw[e];exact r1.append l1 r2
  ·rw[e];simp only[List.length_append];omega
  ·intro g hg;rcases zR.1 hg with rfl|hg
   ·refine⟨by omega,?_⟩;rw[h1,Nat.sub_self,kB]
    have:(d1++d2).take (P.cellsOf g.type)=d1:=by
     rw[List.take_append_of_le_length (by omega),List.take_of_length_le (by omega)]
    rw[this];exact t1
   ·obtain⟨k1,k2⟩:=t2 g hg;refine⟨by omega,?_⟩
    have:(d1++d2).drop (g.offset - off)=d2.drop (g.offset - (off+P.cellsOf f.type)):=by
     rw[List.drop_append];rw[List.drop_eq_nil_of_le (by omega)];rw[List.nil_append];congr 1
     omega
    rw[this];exact k2
theorem cj :
  ∀(n fuel:zC) (t:TypeId) (cs:Z Value) (x:DataW H × Z MemPlace),Gp P n t=T→DataW.trod enc P w 0 sp held fuel t cs=O x→∃ds,Reps (B7 w) ds cs∧ds.length=cs.length∧cs.length=P.cellsOf t∧Cj P n t ds:=by
 intro n
 induction n with
 | zero=>intro fuel t cs x h; simp[Gp] at h
 | succ n ih=>
  intro fuel t cs x hok hr;cases fuel with
  | zero=>simp[DataW.trod] at hr
  | succ fuel=>
   simp only[Gp] at hok
   unfold DataW.trod at hr
   cases hu:P.underlying t with
   | none=>rw[hu] at hok; cases hok
   | some u=>
    cases u<;>rw[hu] at hok<;>try (cases hok; done)
    case bool=>
     rw[hu] at hr
     have hok':P.cellsOf t=1:=of_decide_eq_true hok;rcases cs with _|⟨v,_|⟨v2,rest⟩⟩
     ·simp at hr
     ·cases v<;>simp at hr
      exact⟨[.bool _],.cons .bool .nil,zE,by simp[hok'],by simp[Cj,hu]⟩
     ·simp at hr
    case int k=>
     rw[hu] at hr
     have hok':P.cellsOf t=1:=of_decide_eq_true hok;rcases cs with _|⟨v,_|⟨v2,rest⟩⟩
     ·simp at hr
     ·cases v<;>simp at hr
      obtain⟨⟨rfl,hwf⟩,_⟩:=hr;simp only[Lit.wf,zQ,decide_eq_true_eq] at hwf
      exact⟨[.int _ _],.cons (.int hwf.1 hwf.2) .nil,zE,by simp[hok'],by simp[Cj,hu]⟩
     ·simp at hr
    case string=>
     rw[hu] at hr
     have hok':P.cellsOf t=1:=of_decide_eq_true hok;rcases cs with _|⟨v,_|⟨v2,rest⟩⟩
     ·simp at hr
     ·cases v<;>simp at hr
      rename_i s
      refine⟨[.str s.data.toList],.cons ?_ .nil,zE,by simp[hok'],by simp[Cj,hu]⟩;have:=Rep.str (h:=B7 w) (s:=s.data.toList) (by simpa using hr.1);simpa using this
     ·simp at hr
    case slice e=>
     rw[hu] at hr
     simp only[zQ,decide_eq_true_eq] at hok
     obtain⟨hoke,hpos,hone⟩:=hok;rcases cs with _|⟨v,_|⟨v2,rest⟩⟩
     ·simp at hr
     ·cases v with
      | slice oa len cap=>
       by_cases h0:len=0
       ·subst h0;exact⟨[.sl []],.cons .nil .nil,zE,by simp[hone],by simp[Cj,hu]⟩
       ·cases oa with
        | none=>
         cases len with
         | zero=>exact absurd rfl h0
         | succ len=>simp at hr
        | some a=>
         simp only at hr
         split at hr
         ·rename_i hc
          obtain⟨_,h1,h2⟩:=hc;simp only[zU] at hr
          obtain⟨elems,he,_⟩:=hr
          have hall:∀i,i<len→∃ci y,w.cells? 0 (a.add (i*P.cellsOf e)) (P.cellsOf e)=O ci∧DataW.trod enc P w 0 sp held fuel e ci=O y:=by
           intro i hi;obtain⟨y,hy⟩:=ba he i (by simp[hi]);simp only[zU] at hy
           obtain⟨ci,h3,h4⟩:=hy;exact⟨ci,y,h3,h4⟩
          obtain⟨c0,y0,g0,_⟩:=hall 0 (by omega);rw[Nat.zero_mul,show a.add 0=a by simp[Addr.add]] at g0
          obtain⟨C,hC,hs,_,_⟩:=Y5 g0 hpos
          have hrow:∀i,i<len→∃ds,Reps (B7 w) ds ((C.drop (a.off+(0+i)*P.cellsOf e)).take (P.cellsOf e))∧ds.length=P.cellsOf e∧Cj P n e ds:=by
           intro i hi;obtain⟨ci,y,g1,g2⟩:=hall i hi;obtain⟨C',hC',_,hci,hl⟩:=Y5 g1 hpos;have eb:(a.add (i*P.cellsOf e)).block=a.block:=by unfold Addr.add; split<;>rfl
           have eo:(a.add (i*P.cellsOf e)).off=a.off+i*P.cellsOf e:=by
            unfold Addr.add;split
            ·rename_i e'; rw[e']; rfl
            ·rfl
           rw[eb] at hC'
           rw[eo] at hci
           obtain⟨c1,t1,f1,q1,q2⟩:=hC;obtain⟨c2,t2,f2,q3,q4⟩:=hC';rw[q1] at q3
           cases q3;have:C'=C:=q4.symm.trans q2;subst this;obtain⟨ds,r1,r2,r3,r4⟩:=ih fuel e ci y hoke g2;refine⟨ds,?_,by omega,r4⟩;rw[Nat.zero_add,← hci];exact r1
          obtain⟨es,k1,k2,k3⟩:=cr (P:=P) (n:=n) (e:=e) hpos len 0 hrow;rw[Nat.zero_mul,Nat.add_zero] at k2
          refine⟨[.sl es],.cons ?_ .nil,zE,by simp[hone],?_⟩
          ·have ea:a=⟨a.block,a.off,U⟩:=by
            cases a;simp only at hs
            subst hs;rfl
           rw[ea];exact .sl hC hpos k2 k1.symm h1 h2
          ·simp only[Cj,hu];exact⟨es,zE,k3⟩
         ·cases hr
      | _=>simp at hr
     ·simp at hr
    case struct fs=>
     rw[hu] at hr
     simp only[zQ] at hok
     have hr':(if cs.length=P.cellsOf t then(fs.toList.mapM fun f=>DataW.trod enc P w 0 sp held fuel f.type ((cs.drop f.offset).take (P.cellsOf f.type))).map (fun xs=>(DataW.agg (xs.map (·.1)),xs.flatMap (·.2))) else U)=O x:=hr;split at hr'
     ·rename_i hl
      simp only[zG] at hr'
      obtain⟨xs,hx,_⟩:=hr';obtain⟨ds,r1,r2,r3⟩:=cg hl (fun t' cs' x' h1 h2=>ih fuel t' cs' x' h1 h2) fs.toList 0 hok.1 hok.2 (fun f hf=>ba hx f hf);rw[kB] at r1 r2
      refine⟨ds,r1,r2,hl,?_⟩;simp only[Cj,hu];refine⟨by rw[← hl]; exact r2,fun f hf=> ?_⟩;have:=(r3 f hf).2;rwa [yW] at this
     ·cases hr'
end
end
section
inductive RT where
 | int (k:IntKind)
 | bool
 | str
 | sl (e:RT)
 | st (fs:Z RT)
mutual
def Ks:RT→Z D→Prop
 | .int k,ds=>∃i,ds= [.int k i]
 | .bool,ds=>∃b,ds= [.bool b]
 | .str,ds=>∃s,ds= [.str s]
 | .sl e,ds=>∃es,ds= [.sl es]∧∀r∈es,Ks e r
 | .st fs,ds=>Ti fs ds
def Ti:Z RT→Z D→Prop
 | [],ds=>ds= []
 | f::fs,ds=>∃a b,Ks f a∧Ti fs b∧ds=a++b
end
def Gs(P:Program):zC→TypeId→I RT
 | 0,_=>U
 | n+1,t=>match P.underlying t with
  | some .bool=>O .bool
  | some (.int k)=>O (.int k)
  | some .string=>O .str
  | some (.slice e)=>(Gs P n e).map .sl
  | some (.struct fs)=>if De P 0 fs.toList (P.cellsOf t)=T then(fs.toList.mapM fun f=>Gs P n f.type).map .st else U
  | _=>U
section
variable {P : Program}
theorem Yt{n:zC}(ih:∀t R ds,Gs P n t=O R→Cj P n t ds→Ks R ds):∀(fs:Z Field) (off N:zC) (Rs:Z RT) (ds:Z D),De P off fs N=T→fs.mapM (fun f=>Gs P n f.type)=O Rs→off+ds.length=N→
  (∀f∈fs,Cj P n f.type ((ds.drop (f.offset - off)).take (P.cellsOf f.type))∧off≤f.offset)→Ti Rs ds
 | [],off,N,Rs,ds,ht,hm,hl,_=>by
  have e:off=N:=by simpa[De] using ht
  have e2:Rs= []:=by simpa using hm.symm
  subst e2;exact zL.1 (by omega)
 | f::fs,off,N,Rs,ds,ht,hm,hl,hf=>by
  simp only[De,zQ,beq_iff_eq] at ht
  obtain⟨h1,h2⟩:=ht;simp only[yI,yQ,yY,zU] at hm
  obtain⟨R,hR,Rs',hRs,e⟩:=hm;cases e;obtain⟨t0,_⟩:=hf f (by simp);rw[h1,Nat.sub_self,kB] at t0
  have hle:P.cellsOf f.type≤ds.length:=by
   have:∀(fs:Z Field) (off N:zC),De P off fs N=T→off≤N:=by
    intro fs
    induction fs with
    | nil=>
     intro off N h;have:off=N:=by simpa[De] using h
     omega
    | cons g gs ihg=>
     intro off N h;simp only[De,zQ,beq_iff_eq] at h;have:=ihg _ _ h.2;omega
   have:=this fs _ _ h2;omega
  refine⟨ds.take (P.cellsOf f.type),ds.drop (P.cellsOf f.type),ih _ _ _ hR t0,Yt ih fs (off+P.cellsOf f.type) N Rs' _ h2 hRs (by simp; omega) (fun g hg=> ?_),(yO _ _).symm⟩;obtain⟨k1,_⟩:=hf g (by simp[hg])
  have hge:off+P.cellsOf f.type≤g.offset:=by
   have:∀(fs:Z Field) (off N:zC),De P off fs N=T→∀g∈fs,off≤g.offset:=by
    intro fs
    induction fs with
    | nil=>intro off N h g hg; simp at hg
    | cons g' gs ihg=>
     intro off N h g hg;simp only[De,zQ,beq_iff_eq] at h;rcases zR.1 hg with rfl|hg
     ·omega
     ·have:=ihg _ _ h.2 g hg;omega
   exact this fs _ _ h2 g hg
  refine⟨?_,hge⟩;rw[kA,show P.cellsOf f.type+(g.offset - (off+P.cellsOf f.type))=g.offset - off by omega];exact k1
theorem eS:∀(n:zC) (t:TypeId) (R:RT) (ds:Z D),Gs P n t=O R→Cj P n t ds→Ks R ds:=by
 intro n
 induction n with
 | zero=>intro t R ds h; simp[Gs] at h
 | succ n ih=>
  intro t R ds hr hd;simp only[Gs] at hr
  simp only[Cj] at hd
  cases hu:P.underlying t with
  | none=>rw[hu] at hr; cases hr
  | some u=>
   cases u<;>rw[hu] at hr hd<;>try (cases hr; done)
   case bool=>cases hr; exact hd
   case int k=>cases hr; exact hd
   case string=>cases hr; exact hd
   case slice e=>
    simp only[zG] at hr
    obtain⟨R',h1,rfl⟩:=hr;obtain⟨es,h2,h3⟩:=hd;exact⟨es,h2,fun r hr=>ih _ _ _ h1 (h3 r hr)⟩
   case struct fs=>
    simp only at hr
    split at hr
    ·rename_i ht
     simp only[zG] at hr
     obtain⟨Rs,h1,rfl⟩:=hr;obtain⟨hl,hf⟩:=hd;exact Yt ih fs.toList 0 _ Rs ds ht h1 (by simpa using hl) (fun f hfm=>⟨by simpa using hf f hfm,yR _⟩)
    ·cases hr
end
class OfTy {α:Type} (R:RT) (row:α→Z D):Prop where
 of:∀ds,Ks R ds→∃x,ds=row x
instance:OfTy (.int .i64) rI:=⟨fun _ h=>h⟩
instance:OfTy (.int .u8) r8:=⟨fun _ h=>h⟩
instance:OfTy .bool rB:=⟨fun _ h=>h⟩
instance:OfTy .str rS:=⟨fun _ h=>h⟩
theorem ct{α:Type}{R:RT}{row:α→Z D} [OfTy R row]:∀es:Z (Z D),(∀r∈es,Ks R r)→∃xs:Z α,es=xs.map row
 | [],_=>⟨[],rfl⟩
 | r::es,h=>by
  obtain⟨x,rfl⟩:=OfTy.of (row:=row) r (h r (by simp));obtain⟨xs,rfl⟩:=ct (row:=row) es (fun r hr=>h r (by simp[hr]));exact⟨x::xs,zE⟩
instance {α:Type} {R:RT} {row:α→Z D} [OfTy R row]:OfTy (.sl R) (rL row):=⟨fun ds h=>by
 obtain⟨es,rfl,h2⟩:=h;obtain⟨xs,rfl⟩:=ct (row:=row) es h2;exact⟨xs,zE⟩⟩
section
variable {H : Type} {enc : TypeId × Value → H} {P : Program} {w : World} {sp : zC → zB} {held : zB} {ps : Z MemPlace}
theorem arg_ag{α:Type}{R:RT}{row:α→Z D} [OfTy R row]{n:zC}{t:TypeId}{v:Value}{d:DataW H}{r:Reach}{b0:zC}(hok:Gp P n t=T)(hr:Gs P n t=O R){fs:Array Field}(hu:P.underlying t=O (.struct fs))
  (hval:Value.okWide P w r b0 t v) (h:DataW.Trod enc P w 0 sp held t v d ps):∃x:α,DVRel (B7 w) (.ag (row x)) v:=by
 obtain⟨fuel,h⟩:=h;obtain⟨ds,h1,h2,_,h4⟩:=cj n fuel t _ _ hok h;obtain⟨x,rfl⟩:=OfTy.of (row:=row) ds (eS n t R ds hr h4);unfold Value.okWide at hval
 rw[hu] at hval
 obtain⟨cs,rfl,_,_⟩:=hval;refine⟨x,?_⟩;have e:(Value.agg cs).cells.toList=cs.toList:=rfl;rw[e] at h1 h2
 have:=DVRel.ag h1 h2;simpa using this
theorem arg_sc{α:Type}{R:RT}{row:α→Z D} [OfTy R row]{n:zC}{t:TypeId}{v:Value}{d:DataW H}(hok:Gp P n t=T)(hr:Gs P n t=O R)(hv:v.cells= #[v])
  (h:DataW.Trod enc P w 0 sp held t v d ps):∃x:α,∀d,row x= [d]→DVRel (B7 w) (.sc d) v:=by
 obtain⟨fuel,h⟩:=h;obtain⟨ds,h1,h2,_,h4⟩:=cj n fuel t _ _ hok h;obtain⟨x,rfl⟩:=OfTy.of (row:=row) ds (eS n t R ds hr h4);refine⟨x,fun d hd=> ?_⟩;rw[hv,hd] at h1
 cases h1 with
 | cons a _=>exact .sc a
theorem one_of{t:TypeId}{v:Value}{r:Reach}{b0:zC}(hval:Value.okWide P w r b0 t v)(hu:(match P.underlying t with | some .bool | some (.int _) | some .string | some (.slice _)=>T | _=>F)=T):v.cells= #[v]:=by
 unfold Value.okWide at hval
 unfold Cell.okWide Cell.ok at hval
 cases h:P.underlying t with
 | none=>rw[h] at hu; cases hu
 | some u=>
  rw[h] at hval hu
  cases u<;>first
   | (cases hu; done)
   | (cases v<;>first | rfl | (simp at hval; done) | exact hval.elim)
end
end
theorem Ak{α:Type}(l:Z α)(i:zC):ix l (i:zA)=l[i]?:=by simp[ix]
theorem Af{α:Type}{l:Z α}{i:zC}(h:i<l.length):ix l (i:zA)=O l[i]:=by rw[Ak,zI h]
theorem Ae(i n:zC):decide ((i:zA)<(n:zA))=decide (i<n):=by simp[Int.ofNat_lt]
theorem An{i n:zC}(h:i<n)(hn:n≤maxLen):IntKind.i64.wrap ((i:zA)+1)=((i+1:zC):zA):=fI h hn
theorem C7:bigN=1208925819614629174706176:=by unfold bigN; rfl
theorem AA:maxLen=9223372036854775807:=rfl
theorem Bm{n:zC}(h:n≤maxLen):n<bigN:=by rw[C7]; rw[AA] at h; omega
theorem Kb{R:Type}(L:zC→zA→I R)(len:zC)(hl:len≤maxLen)(g:zC→I R→I R)(fin:I R)
  (hs:∀(n i:zC),i<len→L (n+1) (i:zA)=g i (L n (IntKind.i64.wrap ((i:zA)+1)))) (he:∀n,L (n+1) (len:zA)=fin) :
  ∀(k i n:zC),i+k=len→k<n→L n (i:zA)=(List.range' i k).foldr g fin
 | 0,i,n,hi,hn=>by
  obtain⟨m,rfl⟩:∃m,n=m+1:=⟨n - 1,by omega⟩;have:i=len:=by omega
  subst this;rw[he]; rfl
 | k+1,i,n,hi,hn=>by
  obtain⟨m,rfl⟩:∃m,n=m+1:=⟨n - 1,by omega⟩;rw[hs m i (by omega),An (show i<len by omega) hl,Kb L len hl g fin hs he k (i+1) m (by omega) (by omega)];rfl
theorem E5{α:Type}{L:zC→zA→I zB}(xs:Z α)(p:α→zB)(hl:xs.length≤maxLen)
  (hs:∀(n i:zC) (h:i<xs.length),L (n+1) (i:zA)=if p xs[i]=T then L n (IntKind.i64.wrap ((i:zA)+1)) else O F) (he:∀n,L (n+1) (xs.length:zA)=O T):L bigN 0=O (xs.all p):=by
 have key:∀(k i n:zC),i+k=xs.length→k<n→L n (i:zA)=O ((xs.drop i).all p):=by
  intro k
  induction k with
  | zero=>
   intro i n hi hn;obtain⟨m,rfl⟩:∃m,n=m+1:=⟨n - 1,by omega⟩;have:i=xs.length:=by omega
   subst this;rw[he]; simp
  | succ k ih=>
   intro i n hi hn;obtain⟨m,rfl⟩:∃m,n=m+1:=⟨n - 1,by omega⟩;have hlt:i<xs.length:=by omega
   rw[hs m i hlt,An hlt hl,ih (i+1) m (by omega) (by omega),List.drop_eq_getElem_cons hlt,yF];cases p xs[i]<;>simp
 have:=key xs.length 0 bigN (by omega) (Bm hl);simpa using this
theorem MI{L:zC→zA→I zB}(len:zC)(p:zC→zB)(hl:len≤maxLen)
  (hs:∀(n i:zC) (_:i<len),L (n+1) (i:zA)=if p i=T then L n (IntKind.i64.wrap ((i:zA)+1)) else O F) (he:∀n,L (n+1) (len:zA)=O T):L bigN 0=O ((List.range len).all p):=by
 refine E5 (List.range len) p (by simpa using hl) (fun n i h=> ?_) (fun n=> ?_)
 ·have h':i<len:=by simpa using h
  rw[hs n i h'];simp
 ·simpa using he n
theorem GH{α β:Type}{L:zC→zA→Z β→I (Z β)}(xs:Z α)(g:α→β)(hl:xs.length≤maxLen)
  (hs:∀(n i:zC) (acc:Z β) (h:i<xs.length),acc.length=xs.length→L (n+1) (i:zA) acc=L n (IntKind.i64.wrap ((i:zA)+1)) (acc.set i (g xs[i]))) (he:∀n acc,L (n+1) (xs.length:zA) acc=O acc)
  (z:Z β) (hz:z.length=xs.length):L bigN 0 z=O (xs.map g):=by
 have key:∀(k i n:zC) (acc:Z β),i+k=xs.length→k<n→acc.length=xs.length→acc.take i=(xs.take i).map g→L n (i:zA) acc=O (xs.map g):=by
  intro k
  induction k with
  | zero=>
   intro i n acc hi hn ha ht;obtain⟨m,rfl⟩:∃m,n=m+1:=⟨n - 1,by omega⟩;have:i=xs.length:=by omega
   subst this;rw[he];rw[← ha,List.take_length,ha,List.take_length] at ht
   rw[ht]
  | succ k ih=>
   intro i n acc hi hn ha ht;obtain⟨m,rfl⟩:∃m,n=m+1:=⟨n - 1,by omega⟩;have hlt:i<xs.length:=by omega
   rw[hs m i acc hlt ha,An hlt hl];refine ih (i+1) m _ (by omega) (by omega) (by simpa using ha) ?_;rw[yN (by simpa[ha] using hlt),yN hlt,yG,← ht];simp[List.take_set_of_le]
 exact key xs.length 0 bigN z (by omega) (Bm hl) hz (by simp)
theorem GI{α:Type} [DecidableEq α]{L:zC→zA→I zB}(xs ys:Z α)(hl:xs.length≤maxLen)(hlen:xs.length=ys.length)
  (hs:∀(n i:zC) (h:i<xs.length) (h2:i<ys.length),L (n+1) (i:zA)=if xs[i]=ys[i] then L n (IntKind.i64.wrap ((i:zA)+1)) else O F) (he:∀n,L (n+1) (xs.length:zA)=O T) :
  L bigN 0=O (decide (xs=ys)):=by
 have:=MI (L:=L) xs.length (fun i=>decide (xs[i]?=ys[i]?)) hl (fun n i h=>by
  rw[hs n i h (hlen▸h),zI h,zI (hlen▸h)];simp) he
 rw[this];congr 1
 rw[Bool.eq_iff_iff];simp only[List.all_eq_true,List.mem_range,decide_eq_true_eq];constructor
 ·intro h;apply List.ext_getElem?
  intro i;by_cases hi:i<xs.length
  ·exact h i hi
  ·rw[yE (by omega),yE (by omega)]
 ·rintro rfl i _; rfl
section
inductive YV where
 | d (x:DV)
 | p
inductive YVRel (h:A6) (p:zC):YV→Value→Prop
 | d {x v}:DVRel h x v→YVRel h p (.d x) v
 | p:YVRel h p .p (.pointer (O ⟨p,0,U⟩))
inductive YVRels (h:A6) (p:zC):Z YV→Z Value→Prop
 | nil:YVRels h p [] []
 | cons {x v xs vs}:YVRel h p x v→YVRels h p xs vs→YVRels h p (x::xs) (v::vs)
theorem YVRels.len{h:A6}{p:zC}:∀{xs vs},YVRels h p xs vs→xs.length=vs.length
 | _,_,.nil=>rfl
 | _,_,.cons _ b=>by simp[b.len]
theorem YVRels.get{h:A6}{p:zC}:∀{xs:Z YV} {vs:Z Value} (i:zC) {x:YV} {v:Value},YVRels h p xs vs→xs[i]?=O x→vs[i]?=O v→YVRel h p x v
 | _,_,_,_,_,.nil,hd,_=>by simp at hd
 | _,_,0,_,_,.cons a _,hd,hv=>by simp at hd hv; subst hd hv; exact a
 | _,_,i+1,_,_,.cons _ b,hd,hv=>YVRels.get i b (by simpa using hd) (by simpa using hv)
def Cm(p:zC):Aa:=fun i=>if i=199999999998 then O p else U
theorem HO{p i b:zC}(h:Cm p i=O b):i=199999999998∧p=b:=by
 unfold Cm at h;split at h
 ·exact⟨by assumption,zW h⟩
 ·cases h
def Kq(h:A6)(w:World)(p:zC)(cs:Z D):Prop:=∃C t,w.heap[p]?=O (.cells C t (0,0))∧Reps h cs C.toList∧cs.length=C.toList.length
def FCy(P:Program)(f:FuncId)(xs:Z YV)(cs0 cs1:Z D)(rs:Z R1):Prop:=
 ∀(w:World) (A:B9) (p:zC) (vs:Z Value),(∀w2,BelowX w.heap.size (.of w (Cm p)) w2→GoodW w2)→p<w.heap.size→(∀fr,¬A p fr)→Kq (Ai A w) w p cs0→YVRels (Ai A w) p xs vs→Calls P f vs.toArray w fun e w'=>
  ∃(v:Value) (bs:Z (I zC)),e= .returned v∧BelowX w.heap.size (.of w (Cm p)) w'∧Kq (Ai (fun b fr=>b≠p∧((w.heap.size≤b∧fr=(0,0))∨A b fr)) w') w' p cs1∧RRel (Ai (fun b fr=>b≠p∧((w.heap.size≤b∧fr=(0,0))∨A b fr)) w') w' rs v bs
def RC.isV:RC→zB
 | .v _=>T
 | .o .. =>F
def I8(rs:Z R1):zB:=rs.all fun r=>r.cells.all RC.isV
section
variable {X : Cx} {g : zC}
theorem bG:∀{cs:Z RC} {vs:Z Value} {bs:Z (I zC)} {j:zC},cs.all RC.isV=T→RCRels X.h X.w cs vs bs→CRels X (Eo g j cs) vs
 | _,_,_,_,_,.nil=> .nil
 | _,_,_,j,h,.cons a b=>by
  simp only[yF,zQ] at h;refine .cons ?_ (bG h.2 b);cases a with
  | v hd=>exact .dat hd
  | nil=>cases h.1
  | o=>cases h.1
theorem bA{r:R1}{v:Value}{bs:Z (I zC)}{j:zC}(h:r.cells.all RC.isV=T)(H:R1Rel X.h X.w r v bs):V1Rel X (r.inst g j) v:=by
 cases H with
 | sc hc=>
  refine .sc ?_;cases hc with
  | v hd=>exact .dat hd
  | nil=>simp[R1.cells,RC.isV] at h
  | o=>simp[R1.cells,RC.isV] at h
 | ag hc=>exact .ag (bG h hc)
theorem bJ:∀{rs:Z R1} {vs:Z Value} {bs:Z (I zC)} {j:zC},I8 rs=T→R1Rels X.h X.w rs vs bs→V1Rels X (Dt g j rs) vs
 | _,_,_,_,_,.nil=> .nil
 | _,_,_,j,h,.cons a b=>by
  simp only[I8,yF,zQ] at h;exact .cons (bA h.1 a) (bJ h.2 b)
theorem bC{rs:Z R1}{v:Value}{bs:Z (I zC)}(h:I8 rs=T)(H:RRel X.h X.w rs v bs):VRel X (BK g rs) v:=by
 cases H with
 | one a=>
  simp only[I8,yF,List.all_nil,Bool.and_true] at h;exact .v (bA h a)
 | @many rs vs bs hl a=>
  have:BK g rs= .tup (Dt g 0 rs):=by
   cases rs with
   | nil=>rfl
   | cons x r=>cases r with
    | nil=>exact absurd rfl hl
    | cons=>rfl
  rw[this];exact .tup (bJ h a)
end
def SQ(id:zC):AV→I YV
 | .v (.sc (.pb k o))=>bif (k==id)&&(o==0) then O .p else U
 | av=>(Kj av).map .d
def E1(id:zC):Z AV→I (Z YV)
 | []=>O []
 | a::r=>match SQ id a,E1 id r with
  | some x,O xs=>O (x::xs)
  | _,_=>U
theorem CRels.reps{X:Cx}:∀{ds:Z D} {vs:Z Value},CRels X (ds.map .dat) vs→Reps X.h ds vs∧ds.length=vs.length
 | [],_,.nil=>⟨.nil,rfl⟩
 | d::ds,_,.cons a b=>by
  obtain⟨h1,h2⟩:=CRels.reps b;cases a with | dat h=>exact⟨.cons h h1,by simp[h2]⟩
section
variable {P : Program} {A : Ar} {B : zC} {w0 : Base} {w : World} {nm : Aa} {σ : St} {tmps : Array Value}
theorem A5m{id p:zC}{av:AV}{v:Value}{x:YV}(hp:nm (2*id)=O p)(H:VRel (cx A nm σ w) av v)(h:SQ id av=O x):YVRel (A9 A nm w) p x v:=by
 unfold SQ at h;split at h
 ·rename_i k o
  by_cases hk:k=id∧o=0
  ·obtain⟨rfl,rfl⟩:=hk;simp at h;subst h;have hc:=H.inv_sc;cases hc with | pb hb=>
   have hb':nm (2*k)=O _:=hb;have e:=zW (hb'.symm.trans hp);subst e;exact .p
  ·exfalso
   have:((k==id)&&(o==0))=F:=by
    rw[Bool.and_eq_false_iff];by_cases h1:k=id
    ·right; simpa using fun h2=>hk ⟨h1,h2⟩
    ·left; simpa using h1
   rw[this] at h;cases h
 ·simp only[zG] at h;obtain⟨d,h1,rfl⟩:=h;exact .d (Mv (X:=cx A nm σ w) H h1)
theorem SR{id p:zC}(hp:nm (2*id)=O p):∀{avs:Z AV} {vs:Z Value} {xs:Z YV},VsRel (cx A nm σ w) avs vs→E1 id avs=O xs→YVRels (A9 A nm w) p xs vs
 | [],vs,xs,H,h=>by
  simp[E1] at h;subst h;obtain rfl:vs= []:=zL.1 H.1.symm;exact .nil
 | a::avs,vs,xs,H,h=>by
  unfold E1 at h;split at h
  ·rename_i x xs' h1 h2
   cases h;cases vs with
   | nil=>have:=H.1; simp at this
   | cons v vs=>
    exact .cons (A5m hp (H.2 0 a v zE zE) h1) (SR hp ⟨by have:=H.1; simpa using this,fun i u v hu hv=>H.2 (i+1) u v (by simpa using hu) (by simpa using hv)⟩ h2)
  ·cases h
theorem XU(R:Rel A B w0 nm σ tmps w){id p:zC}{cs1:Z D}{w':World}(hp:nm (2*id)=O p)(hb:BelowX w.heap.size (.of w (Cm p)) w')(hh:Kq (Ai (fun b fr=>b≠p∧((w.heap.size≤b∧fr=(0,0))∨((∀i,nm i≠O b)∧A b fr))) w') w' p cs1) :
  Rel A B w0 nm {σ with bx:=put σ.bx id (cs1.map .dat)} tmps w':=by
 have hM:∀b,Base.M (.of w (Cm p)) b→b=p:=fun b hmm=>by
  obtain⟨i,_,e⟩:=Base.of_M hmm;exact(HO e).2.symm
 have hbel:BelowX B w0 w':=R.below.after hb R.size R.there fun i b e=>by
  obtain⟨_,rfl⟩:=HO e;exact(R.names _ _ hp).1
 have hsame:∀b,b<w.heap.size→b≠p→w'.heap[b]?=w.heap[b]?:=fun b hlt h=>hb.block b hlt (fun hm=>h (hM b hm)) fun hv=>hv.elim
 have hview:∀b C,A9 A nm w b C→A9 A nm w' b C:=CS fun b hlt hn=>⟨hn,hsame b hlt fun e=>hn _ (e▸hp)⟩
 have hcell:∀(σ':St) c v,σ'.rows=σ.rows→CRel (cx A nm σ w) c v→CRel (cx A nm σ' w') c v:=fun σ' c v hrs H=>
  H.move hview (fun k hk=> .inr ⟨by show A1 σ'.rows k=A1 σ.rows k; rw[hrs],rfl,fun b hbn=>hsame b (R.names _ b hbn).2 fun e=>by
   subst e;have:=R.inj _ _ _ hbn hp;omega⟩) (fun k _ b hb2=>hb2)
 refine⟨hbel,zN R.size hb.size,R.all,R.good,fun i b hi=> ?_,R.inj,R.pin,fun k=>(R.env k).to fun c v _=>hcell _ c v zE,fun k cs hcs=> ?_⟩
 ·obtain⟨h1,h2⟩:=R.names i b hi;exact⟨h1,zS h2 hb.size⟩
 ·by_cases hk:k=id
  ·subst hk
   have e:cs=cs1.map .dat:=by
    have:=Bl σ.bx k (cs1.map AC.dat);exact zW (hcs.symm.trans this)
   subst e;obtain⟨C,t,h1,h2,h3⟩:=hh;refine⟨p,C,t,hp,h1,CRels.of_dat (h2.mono fun b C hb2=> ?_) h3⟩;obtain⟨cc,tt,fr,⟨g1,g2⟩,g3⟩:=hb2;rcases g2 with ⟨g2,rfl⟩|g2
   ·exact⟨fun i e=>by have:=(R.names i b e).2; omega,cc,tt,_,R.all.all b (.inl (zN R.size g2)),g3⟩
   ·exact⟨g2.1,cc,tt,fr,g2.2,g3⟩
  ·have hcs':A1 (put σ.bx id (cs1.map .dat)) k=O cs:=hcs;rw[Bn _ _ hk] at hcs'
   obtain⟨b,C,t,h1,h2,h3⟩:=R.bxs k cs hcs'
   have hne:b≠p:=fun e=>by
    subst e;have:=R.inj _ _ _ h1 hp;omega
   exact⟨b,C,t,h1,(hsame b (R.names _ _ h1).2 hne).trans h2,h3.to fun c v _=>hcell _ c v zE⟩
theorem FCy.callC{f:FuncId}{xs:Z YV}{cs0 cs1:Z D}{rs:Z R1}(H:FCy P f xs cs0 cs1 rs)(hv:I8 rs=T){id:zC}{avs:Z AV}(hx:E1 id avs=O xs)(hb:A1 σ.bx id=O (cs0.map .dat)) :
  CallC P f avs σ {σ with bx:=put σ.bx id (cs1.map .dat)} (BK 0 rs):=by
 intro A B w0 w nm tmps vs R hvs;obtain⟨p,C,t,h1,h2,h3⟩:=R.bxs id _ hb;have h1':nm (2*id)=O p:=h1;obtain⟨k1,k2⟩:=CRels.reps h3;refine(H w (fun b fr=>(∀i,nm i≠O b)∧A b fr) p vs (fun w2 hb2=>R.good w2 (R.below.after hb2 R.size R.there fun i b e=> ?_)) (R.names _ _ h1').2 (fun _ h=>h.1 _ h1') ⟨C,t,h2,by rw[E2]; exact k1,k2⟩ (by rw[E2]; exact SR h1' hvs hx)).mono fun e w' h=> ?_
 ·obtain⟨_,rfl⟩:=HO e;exact(R.names _ _ h1').1
 ·obtain⟨v,bs,rfl,g1,g2,g3⟩:=h;have R':=XU R h1' g1 g2;refine⟨v,nm,zE,R',bC hv (g3.conv fun c _=> .inl fun b C hb2=> ?_)⟩;obtain⟨cc,tt,fr,⟨q1,q2⟩,q3⟩:=hb2;rcases q2 with ⟨q2,rfl⟩|q2
  ·exact⟨fun i e=>by have:=(R.names i b e).2; omega,cc,tt,_,R.all.all b (.inl (zN R.size q2)),q3⟩
  ·exact⟨q2.1,cc,tt,fr,q2.2,q3⟩
end
def YV.av:YV→AV
 | .d x=>x.av
 | .p=> .v (.sc (.pb 99999999999 0))
def M8:zC→Z YV→Z (zC × AV)
 | _,[]=> []
 | k,x::xs=>(k,x.av)::M8 (k+1) xs
theorem Yz:∀(ds:Z YV) (k i:zC),A1 (M8 k ds) i=if k≤i then(ds[i - k]?).map YV.av else U
 | [],k,i=>by simp[M8,A1]
 | d::ds,k,i=>by
  simp only[M8,A1];by_cases hk:k=i
  ·subst hk; simp
  ·have h':=Ce hk;rw[h',cond_false,Yz ds (k+1) i];by_cases h1:k≤i
   ·rw[if_pos (by omega),if_pos h1,show i - k=(i - (k+1))+1 by omega]; simp
   ·rw[if_neg (by omega),if_neg h1]
section
variable {P : Program}
theorem cm{fn:Func}{A:Ar}{B:zC}{w0:Base}{nm:Aa}{σ:St}{a:Act}{w:World}{h':A6}(R:Rel A B w0 nm σ a.tmps w)(hh:∀b C,A9 A nm w b C→h' b C){ts:Z RV}{rs:Z R1}(hr:DS P fn.results.toList=O ts)(ho:OutVs σ ts rs) :
  ∃(v:Value) (bs:Z (I zC)),(results fn a.tmps).run P w= .ok v w∧RRel h' w rs v bs:=by
 obtain⟨vs',hrun,hvl,hrel⟩:=HR (P:=P) (f:=fun | .tmp t=>pure (a.tmps.getD t undef) | .cell c t=>do loadVar t (← asAddr (a.tmps.getD c undef))) R hh (fun _=>rfl) (fun _ _=>rfl) hr ho;refine⟨(if h:vs'.length=1 then vs'[0] else .tuple vs'.toArray),(D1 σ ts rs).map (Ba nm),?_,?_⟩
 ·unfold results;rw[← Array.toArray_toList (xs:=fn.results)];simp only[yJ,Sem.run_bind,map_eq_pure_bind];erw [hrun]
  simp only[Result.andThen_ok,Sem.run_pure];simp
 ·split
  ·rename_i h1
   obtain⟨v1,rfl⟩:=zT.1 h1;have hrl:rs.length=1:=by rw[ho.len,← hvl]; exact h1
   obtain⟨r,rfl⟩:=zT.1 hrl;revert hrel
   generalize (D1 σ ts [r]).map (Ba nm)=bs
   intro hrel;cases hrel with
   | cons h1 h2=>
    cases h2;simp only[yB] at h1 ⊢
    exact .one h1
  ·rename_i h1
   refine .many ?_ hrel;rw[ho.len,← hvl];exact h1
end
def FCn(P:Program)(f:FuncId)(ds:Z DV)(cs1:Z D):Prop:=
 ∀(w:World) (A:B9) (vs:Z Value),GoodW w→DVRels (Ai A w) ds vs→Calls P f vs.toArray w fun e w'=>
  ∃p,e= .returned (.pointer (O ⟨p,0,U⟩))∧RowKit.Below w.heap.size w w'∧w.heap.size≤p∧p<w'.heap.size∧Kq (Ai (fun b fr=>b≠p∧((w.heap.size≤b∧fr=(0,0))∨A b fr)) w') w' p cs1
theorem eQ{A:Ar}{nm:Aa}{σ:St}{w:World}:∀{avs:Z AV} {vs:Z Value} {ds:Z DV},VsRel (cx A nm σ w) avs vs→E1 0 avs=O (ds.map .d)→DVRels (A9 A nm w) ds vs
 | [],vs,ds,H,h=>by
  obtain rfl:vs= []:=zL.1 H.1.symm;cases ds with
  | nil=>exact .nil
  | cons=>simp[E1] at h
 | a::avs,vs,ds,H,h=>by
  unfold E1 at h;split at h
  ·rename_i x xs h1 h2
   cases ds with
   | nil=>simp at h
   | cons d ds=>
    simp at h;obtain⟨rfl,rfl⟩:=h;cases vs with
    | nil=>have:=H.1; simp at this
    | cons v vs=>
     refine .cons ?_ (eQ ⟨by have:=H.1; simpa using this,fun i u v hu hv=>H.2 (i+1) u v (by simpa using hu) (by simpa using hv)⟩ h2);have hv0:=H.2 0 a v rfl rfl;unfold SQ at h1
     split at h1
     ·rename_i k o
      cases hb:((k==0)&&(o==0))<;>simp only[hb,cond_true,cond_false] at h1<;>cases h1
     ·simp only[zG] at h1
      obtain⟨d',h3,h4⟩:=h1;cases h4;exact Mv (X:=cx A nm σ w) hv0 h3
  ·cases h
section
variable {P : Program}
theorem FCn.callC{f:FuncId}{ds:Z DV}{cs1:Z D}(H:FCn P f ds cs1){σ:St}{avs:Z AV}{d:zC}(hx:E1 0 avs=O (ds.map .d))(hf:σ.fresh d=T):CallC P f avs σ {σ with bx:=put σ.bx d (cs1.map .dat)} (.v (.sc (.pb d 0))):=by
 intro A B w0 w nm tmps vs R hvs;have hds:DVRels (A9 A nm w) ds vs:=eQ hvs hx;refine(H w (fun b fr=>(∀i,nm i≠O b)∧A b fr) vs (R.good w R.below) (by rw[E2]; exact hds)).mono fun e w' h=> ?_
 obtain⟨p,rfl,hb,hp1,hp2,hh⟩:=h
 have R1:=R.grow hf hb (fun n=>if n=2*d then O p else U) σ.rows (fun n b _ h=>by
  have h:(if n=2*d then O p else U)=O b:=h;split at h
  ·cases h; exact⟨hp1,hp2⟩
  ·cases h) (fun n m b _ _ h1 h2=>by
  have h1:(if n=2*d then O p else U)=O b:=h1;have h2:(if m=2*d then O p else U)=O b:=h2;split at h1
  ·split at h2
   ·omega
   ·cases h2
  ·cases h1) (fun _ _=>rfl)
 have hnm:AP d (fun n=>if n=2*d then O p else U) nm (2*d)=O p:=by
  unfold AP;rw[if_pos (.inl rfl)];exact if_pos zE
 refine⟨_,AP d (fun n=>if n=2*d then O p else U) nm,zE,?_,.v (.sc (.pb hnm))⟩;refine⟨R1.below,R1.size,R1.all,R1.good,R1.names,R1.inj,R1.pin,fun k=>(R1.env k).to fun c v _ h=>h.same zE (fun _=>rfl) (fun _ _ h=>h) zE,fun k cs hcs=> ?_⟩;by_cases hk:k=d
 ·subst hk;have e:cs=cs1.map .dat:=zW ((show A1 (put σ.bx k (cs1.map AC.dat)) k=O cs from hcs).symm.trans (Bl σ.bx k (cs1.map AC.dat)));subst e;obtain⟨C,t,h1,h2,h3⟩:=hh;refine⟨p,C,t,hnm,h1,CRels.of_dat (h2.mono fun b C hb2=> ?_) h3⟩;obtain⟨cc,tt,fr,⟨g1,g2⟩,g3⟩:=hb2;refine⟨fun i e=> ?_,cc,tt,fr,?_,g3⟩
  ·unfold AP at e
   split at e
   ·have e:(if _=2*_ then O p else U)=O b:=e;split at e
    ·cases e; exact g1 rfl
    ·cases e
   ·rcases g2 with g2|g2
    ·have:=(R.names i b e).2; omega
    ·exact g2.1 i e
  ·rcases g2 with ⟨g2,rfl⟩|g2
   ·exact R.all.all b (.inl (zN R.size g2))
   ·exact g2.2
 ·have hcs':A1 (put σ.bx d (cs1.map AC.dat)) k=O cs:=hcs;rw[Bn _ _ hk] at hcs'
  obtain⟨b,C,t,h1,h2,h3⟩:=R1.bxs k cs hcs';exact⟨b,C,t,h1,h2,h3.to fun c v _ h=>h.same zE (fun _=>rfl) (fun _ _ h=>h) zE⟩
end
theorem A4{b:zB}{v:AV}{f:AC→AC}:(bif b then v else .undef).map f=bif b then v.map f else .undef:=by cases b<;>rfl
theorem D4{b:zB}{v:AV}{f:AC→zB}:(bif b then v else AV.undef).cells.all f=(!b || v.cells.all f):=by cases b<;>rfl
end
section
def XC.zac(ids:Z zC):XC→AC
 | .d x=> .dat x
 | .r j=> .own (ids.getD j 0)
def XC.inZ(n:zC):XC→zB
 | .d _=>T
 | .r j=>decide (j<n)
inductive ZCRel (h:A6) (w:World) (bs:Z (I zC)) (R:Ap):XC→Value→Prop
 | d {x v}:Rep h x v→ZCRel h w bs R (.d x) v
 | nil {j sz a}:R[j]?=O (sz,[])→bs[j]?=O U→ZCRel h w bs R (.r j) (.slice a 0 0)
 | r {j sz es b cap len}:R[j]?=O (sz,es)→bs[j]?=O (O b)→OwnB h w b sz cap es→len=es.length→ZCRel h w bs R (.r j) (.slice (O ⟨b,0,U⟩) len cap)
inductive ZCRels (h:A6) (w:World) (bs:Z (I zC)) (R:Ap):Z XC→Z Value→Prop
 | nil:ZCRels h w bs R [] []
 | cons {c v cs vs}:ZCRel h w bs R c v→ZCRels h w bs R cs vs→ZCRels h w bs R (c::cs) (v::vs)
def ME(h:A6)(w:World)(p:zC)(bs:Z (I zC))(R:Ap)(cs:Z XC):Prop:=∃C t,w.heap[p]?=O (.cells C t (0,0))∧ZCRels h w bs R cs C.toList
def Ib(w:World)(p:zC)(bs:Z (I zC)):Base:=⟨w,Cm p,fun b=>O b∈bs∧b<w.heap.size,fun _ h=>h.2,fun _=>False,fun _ h=>h.elim⟩
def FCz(P:Program)(f:FuncId)(xs:Z YV)(cs0:Z XC)(R0:Ap)(cs1:Z XC)(S1:Ap)(rs:Z R1):Prop:=
 ∀(w:World) (A:B9) (p:zC) (vs:Z Value) (bs:Z (I zC)),bs.length=R0.length→(∀(i j b:zC),bs[i]?=O (O b)→bs[j]?=O (O b)→i=j)→(∀b,O b∈bs→b<w.heap.size∧(∀fr,¬A b fr)∧b≠p)→
  (∀w2,BelowX w.heap.size (Ib w p bs) w2→GoodW w2)→p<w.heap.size→(∀fr,¬A p fr)→ME (Ai A w) w p bs R0 cs0→YVRels (Ai A w) p xs vs→Calls P f vs.toArray w fun e w'=>
  ∃(v:Value) (bs' rb:Z (I zC)),e= .returned v∧bs'.length=S1.length∧(∀(i j b:zC),bs'[i]?=O (O b)→bs'[j]?=O (O b)→i=j)∧(∀b,O b∈bs'→b≠p∧(w.heap.size≤b∨O b∈bs)∧b<w'.heap.size)∧BelowX w.heap.size (Ib w p bs) w'∧
   ME (Ai (fun b fr=>b≠p∧O b∉bs'∧((w.heap.size≤b∧fr=(0,0))∨A b fr∨(O b∈bs∧fr=(0,0)))) w') w' p bs' S1 cs1∧RRel (Ai (fun b fr=>b≠p∧O b∉bs'∧((w.heap.size≤b∧fr=(0,0))∨A b fr∨(O b∈bs∧fr=(0,0)))) w') w' rs v rb
theorem Ka{h h':A6}{w:World}{b sz cap:zC}{es:Z (Z D)}(H:OwnB h w b sz cap es)(hh:∀b C,h b C→h' b C):OwnB h' w b sz cap es:=by
 obtain⟨h1,h2,h3,C,t,h4,h5,h6⟩:=H;exact⟨h1,h2,h3,C,t,h4,h5,h6.mono hh⟩
section
variable {A : Ar} {nm : Aa} {σ : St} {w : World} {h : A6} {ids : Z zC} {R : Ap}
theorem B5v(hh:∀b C,A9 A nm w b C→h b C)(hr:Cy σ.rows ids=O R){c:XC}{v:Value}(hc:c.inZ R.length=T)(H:CRel (cx A nm σ w) (c.zac ids) v):ZCRel h w (AQ nm ids) R c v:=by
 obtain⟨hl,hat⟩:=Kd hr;cases c with
 | d x=>
  have H:CRel (cx A nm σ w) (.dat x) v:=H;cases H with | dat H=>exact .d (H.mono hh)
 | r j=>
  have hj:j<R.length:=by simpa[XC.inZ] using hc
  have hji:j<ids.length:=by omega
  have hid:ids[j]?=O ids[j]:=zI hji;have H:CRel (cx A nm σ w) (.own (ids.getD j 0)) v:=H;have hg:ids.getD j 0=ids[j]:=by simp[hji]
  rw[hg] at H
  have hR:R[j]?=A1 σ.rows ids[j]:=by rw[hat j,hid]; rfl
  have hb:(AQ nm ids)[j]?=O (nm (2*ids[j]+1)):=by simp[AQ,hid]
  rw[zI hj] at hR
  obtain⟨sz,es,hse⟩:∃sz es,R[j]=(sz,es):=⟨_,_,rfl⟩;have hRj:R[j]?=O (sz,es):=by rw[zI hj,hse]
  rw[hse] at hR
  rcases H.inv_own hR.symm with ⟨rfl,k1,a0,rfl⟩|⟨b,cap,k1,k2,rfl⟩
  ·exact .nil hRj (by rw[hb]; exact congrArg O k1)
  ·exact .r hRj (by rw[hb]; exact congrArg O k1) (Ka k2 hh) zE
theorem Wr(hh:∀b C,A9 A nm w b C→h b C)(hr:Cy σ.rows ids=O R):∀{cs:Z XC} {vs:Z Value},cs.all (XC.inZ R.length)=T→CRels (cx A nm σ w) (cs.map (XC.zac ids)) vs→ZCRels h w (AQ nm ids) R cs vs
 | [],_,_,.nil=> .nil
 | c::cs,_,hc,.cons a b=>by
  simp only[yF,zQ] at hc
  exact .cons (B5v hh hr hc.1 a) (Wr hh hr hc.2 b)
end
theorem B5w{X:Cx}{h:A6}{bs:Z (I zC)}{R:Ap}{ids:Z zC}(hh:∀b C,h b C→X.h b C)(hl:ids.length=R.length)(hr:∀(j id:zC) (r:zC × Z (Z D)),ids[j]?=O id→R[j]?=O r→A1 X.rs id=O r)(hn:∀(j id:zC) (o:I zC),ids[j]?=O id→bs[j]?=O o→X.nm (2*id+1)=o)
  {c:XC} {v:Value} (H:ZCRel h X.w bs R c v):CRel X (c.zac ids) v:=by
 cases H with
 | d H=>exact .dat (H.mono hh)
 | @nil j sz a h1 h2=>
  have hj:j<ids.length:=by rw[hl]; exact(zJ.1 h1).1
  have hid:ids[j]?=O ids[j]:=zI hj;have hg:ids.getD j 0=ids[j]:=by simp[hj]
  show CRel X (.own (ids.getD j 0)) _
  rw[hg];exact .ownNil (hr j _ _ hid h1) (hn j _ _ hid h2)
 | @r j sz es b cap len h1 h2 h3 h4=>
  have hj:j<ids.length:=by rw[hl]; exact(zJ.1 h1).1
  have hid:ids[j]?=O ids[j]:=zI hj;have hg:ids.getD j 0=ids[j]:=by simp[hj]
  show CRel X (.own (ids.getD j 0)) _
  rw[hg];exact .own (hr j _ _ hid h1) (hn j _ _ hid h2) (Ka h3 hh) h4
theorem gJ{X:Cx}{h:A6}{bs:Z (I zC)}{R:Ap}{ids:Z zC}(hh:∀b C,h b C→X.h b C)(hl:ids.length=R.length)(hr:∀(j id:zC) (r:zC × Z (Z D)),ids[j]?=O id→R[j]?=O r→A1 X.rs id=O r)(hn:∀(j id:zC) (o:I zC),ids[j]?=O id→bs[j]?=O o→X.nm (2*id+1)=o) :
  ∀{cs:Z XC} {vs:Z Value},ZCRels h X.w bs R cs vs→CRels X (cs.map (XC.zac ids)) vs
 | _,_,.nil=> .nil
 | _,_,.cons a b=> .cons (B5w hh hl hr hn a) (gJ hh hl hr hn b)
def St.killAll:Z zC→St→St
 | [],σ=>σ
 | id::ids,σ=>St.killAll ids (σ.map (AC.kill id))
theorem Ua{c:AC}{id k:zC}(h:(c.kill id).has k=T):c.has k=T∧k≠id:=by
 rcases Sm c id with ⟨h1,h2⟩|⟨h1,h2⟩
 ·rw[h2] at h; cases h
 ·rw[h2] at h;exact⟨h,fun e=>by subst e; rw[h1] at h; cases h⟩
theorem nU(f:AC→AC)(v:AV):(v.map f).cells=v.cells.map f:=by
 cases v with
 | v x=>cases x<;>simp[AV.map,V1.map,AV.cells,V1.cells]
 | tup l=>
  simp only[AV.map,AV.cells]
  induction l with
  | nil=>rfl
  | cons x l ih=>cases x<;>simp_all[V1.map,V1.cells]
 | ev c=>rfl
 | undef=>rfl
 | no=>rfl
theorem W4{σ:St}{f:AC→AC}{c:AC}(h:(σ.map f).Uses c):∃c0,σ.Uses c0∧c=f c0:=by
 rcases h with ⟨k,hk⟩|⟨id,cs,hcs,hc⟩
 ·rw[St.get_map,nU] at hk
  obtain⟨c0,h1,rfl⟩:=zV.1 hk;exact⟨c0,.inl ⟨k,h1⟩,zE⟩
 ·rw[Hz] at hcs
  simp only[zG] at hcs
  obtain⟨cs0,h0,rfl⟩:=hcs;obtain⟨c0,h1,rfl⟩:=zV.1 hc;exact⟨c0,.inr ⟨id,cs0,h0,h1⟩,zE⟩
section
variable {P : Program} {A : Ar} {B : zC} {w0 : Base} {w : World} {nm : Aa} {σ : St} {tmps : Array Value}
theorem Rel.killed(R:Rel A B w0 nm σ tmps w)(id:zC):Rel A B w0 nm (σ.map (AC.kill id)) tmps w:=by
 refine R.carry (f:=AC.kill id) R.below R.size R.names R.inj (fun _ _=>rfl) (fun k=>St.get_map) (fun k=>Hz) (fun k cs _ b hb=>⟨hb,zE⟩) (fun c v hc hr=> ?_);rcases Sm c id with ⟨_,hk⟩|⟨hn,hk⟩
 ·rw[hk]; exact .undef hr.one
 ·rw[hk]; exact hr.same rfl (fun _=>rfl) (fun _ _ h=>h) rfl
theorem Rel.killedAll:∀(ids:Z zC) {σ:St},Rel A B w0 nm σ tmps w→Rel A B w0 nm (σ.killAll ids) tmps w
 | [],_,R=>R
 | id::ids,_,R=>Rel.killedAll ids (R.killed id)
theorem bM:∀(ids:Z zC) (σ:St),(σ.killAll ids).rows=σ.rows
 | [],_=>rfl
 | id::ids,σ=>bM ids (σ.map (AC.kill id))
theorem bN:∀(ids:Z zC) {σ:St} {c:AC},(σ.killAll ids).Uses c→(∀id∈ids,c.has id=F)∧(∀k,c.has k=T→∃c0,σ.Uses c0∧c0.has k=T)
 | [],σ,c,h=>⟨fun id hid=>(by cases hid),fun k hk=>⟨c,h,hk⟩⟩
 | id::ids,σ,c,h=>by
  obtain⟨h1,h2⟩:=bN ids (σ:=σ.map (AC.kill id)) h
  have key:∀k,c.has k=T→k≠id∧∃c0,σ.Uses c0∧c0.has k=T:=fun k hk=>by
   obtain⟨c1,hu,hc1⟩:=h2 k hk;obtain⟨c0,hu0,rfl⟩:=W4 hu;obtain⟨q1,q2⟩:=Ua hc1;exact⟨q2,c0,hu0,q1⟩
  refine⟨fun k hk=> ?_,fun k hk=>(key k hk).2⟩;rcases zR.1 hk with rfl|hk
  ·cases hx:c.has k with
   | false=>rfl
   | true=>exact absurd rfl (key k hx).1
  ·exact h1 k hk
def St.behindZ(σ:St)(id:zC)(ids:Z zC)(cs1:Z XC)(S1:Ap):St:={σ.killAll ids with bx:=put (σ.killAll ids).bx id (cs1.map (XC.zac ids)),rows:=CN σ.rows ids S1}
def Dx(ids:Z zC)(bs:Z (I zC))(nm:Aa):Aa:=fun n=>if n % 2=1 then(match F7 (n / 2) ids with | some j=>(bs[j]?).join | none=>nm n) else nm n
theorem cU{id:zC}:∀{l:Z zC},F7 id l=U→id∉l
 | [],_=>by simp
 | k::r,h=>by
  unfold F7 at h;by_cases hk:k=id
  ·simp[hk] at h
  ·have h':(k==id)=F:=by simpa using hk
   simp only[h',cond_false,Option.map_eq_none_iff] at h;simp only[zR,not_or];exact⟨fun e=>hk e.symm,cU h⟩
theorem A1k{l:Z zC}(hn:l.Nodup){j id:zC}(h:l[j]?=O id):F7 id l=O j:=by
 cases hp:F7 id l with
 | none=>exact absurd (zK h) (cU hp)
 | some i=>
  have h2:=SC hp;have hi:=(zJ.1 h2).1;rw[(yU hi hn).1 (h2.trans h.symm)]
theorem behindZ(R:Rel A B w0 nm σ tmps w){id p:zC}{ids:Z zC}{S1:Ap}{cs1:Z XC}{bs':Z (I zC)}{w':World}(hp:nm (2*id)=O p)(hnd:ids.Nodup)(hsm:∀i∈ids,i<99999999999)(hl1:ids.length=S1.length)(hbl:bs'.length=S1.length)
  (hinj:∀(i j b:zC),bs'[i]?=O (O b)→bs'[j]?=O (O b)→i=j) (hnew:∀b,O b∈bs'→b≠p∧(w.heap.size≤b∨O b∈AQ nm ids)∧b<w'.heap.size)
  (hb:BelowX w.heap.size (Ib w p (AQ nm ids)) w') (hh:ME (Ai (fun b fr=>b≠p∧O b∉bs'∧((w.heap.size≤b∧fr=(0,0))∨((∀i,nm i≠O b)∧A b fr)∨(O b∈AQ nm ids∧fr=(0,0)))) w') w' p bs' S1 cs1) :
  Rel A B w0 (Dx ids bs' nm) (σ.behindZ id ids cs1 S1) tmps w'∧∀b C,Ai (fun b fr=>b≠p∧O b∉bs'∧((w.heap.size≤b∧fr=(0,0))∨((∀i,nm i≠O b)∧A b fr)∨(O b∈AQ nm ids∧fr=(0,0)))) w' b C→A9 A (Dx ids bs' nm) w' b C:=by
 have hblk:∀b,O b∈AQ nm ids→∃k∈ids,nm (2*k+1)=O b:=fun b h=>by
  unfold AQ at h;obtain⟨k,h1,h2⟩:=zV.1 h;exact⟨k,h1,h2⟩
 have hMz:∀b,(Ib w p (AQ nm ids)).M b→b=p∨∃k∈ids,nm (2*k+1)=O b:=fun b h=>by
  rcases h with ⟨i,_,e⟩|⟨h1,_⟩
  ·exact .inl (HO e).2.symm
  ·exact .inr (hblk b h1)
 have hbel:BelowX B w0 w':=R.below.afterZ rfl hb R.size R.there (fun b hm=>by
  rcases hMz b hm with rfl|⟨k,_,e⟩
  ·exact(R.names _ _ hp).1
  ·exact(R.names _ _ e).1) fun b hv=>hv.elim
 have hsame:∀b,b<w.heap.size→b≠p→(∀k∈ids,nm (2*k+1)≠O b)→w'.heap[b]?=w.heap[b]?:=fun b hlt h1 h2=>hb.block b hlt (fun hm=>by
  rcases hMz b hm with e|⟨k,hk,e⟩
  ·exact h1 e
  ·exact h2 k hk e) fun hv=>hv.elim
 have hlenb:bs'.length=ids.length:=by omega
 have hin:∀(j k:zC),ids[j]?=O k→Dx ids bs' nm (2*k+1)=(bs'[j]?).join:=fun j k hj=>by
  unfold Dx;rw[if_pos (by omega),show(2*k+1) / 2=k by omega,A1k hnd hj]
 have hout:∀n,(∀k∈ids,n≠2*k+1)→Dx ids bs' nm n=nm n:=fun n hn=>by
  unfold Dx;split
  ·split
   ·rename_i j hj
    have:=hn _ (zK (SC hj));omega
   ·rfl
  ·rfl
 have hev:∀k,Dx ids bs' nm (2*k)=nm (2*k):=fun k=>hout _ fun j _=>by omega
 have hcas:∀n b,Dx ids bs' nm n=O b→(∃j k:zC,ids[j]?=O k∧n=2*k+1∧bs'[j]?=O (O b))∨((∀k∈ids,n≠2*k+1)∧nm n=O b):=fun n b h=>by
  by_cases hx:∃k∈ids,n=2*k+1
  ·obtain⟨k,hk,rfl⟩:=hx;obtain⟨j,hj⟩:=yP hk;rw[hin j k hj] at h;refine .inl ⟨j,k,hj,zE,?_⟩;cases hbj:bs'[j]? with
   | none=>rw[hbj] at h; cases h
   | some o=>rw[hbj] at h; exact congrArg O h
  ·have hx:∀k∈ids,n≠2*k+1:=fun k hk e=>hx ⟨k,hk,e⟩
   exact .inr ⟨hx,(hout n hx)▸h⟩
 have hfree:∀b,O b∈bs'→∀n,(∀k∈ids,n≠2*k+1)→nm n≠O b:=fun b hbm n hn e=>by
  obtain⟨g1,g2,g3⟩:=hnew b hbm;rcases g2 with g2|g2
  ·have:=(R.names n b e).2; omega
  ·obtain⟨k,hk,ek⟩:=hblk b g2;exact hn k hk (R.inj _ _ _ e ek)
 have hview:∀b C,A9 A nm w b C→A9 A (Dx ids bs' nm) w' b C:=CS fun b hlt hn=>⟨fun i e=>by
  rcases hcas i b e with ⟨j,k,hj,rfl,hbj⟩|⟨_,e2⟩
  ·obtain⟨_,g2,_⟩:=hnew b (zK hbj);rcases g2 with g2|g2
   ·omega
   ·obtain⟨k2,_,ek⟩:=hblk b g2;exact hn _ ek
  ·exact hn i e2,hsame b hlt (fun e=>hn _ (e▸hp)) fun k _=>hn _⟩
 have hvz:∀b C,Ai (fun b fr=>b≠p∧O b∉bs'∧((w.heap.size≤b∧fr=(0,0))∨((∀i,nm i≠O b)∧A b fr)∨(O b∈AQ nm ids∧fr=(0,0)))) w' b C→A9 A (Dx ids bs' nm) w' b C:=fun b C ⟨cc,tt,fr,⟨g1,g2,g3⟩,g4⟩=>by
  refine⟨fun i e=> ?_,cc,tt,fr,?_,g4⟩
  ·rcases hcas i b e with ⟨j,k,hj,rfl,hbj⟩|⟨h1,e2⟩
   ·exact g2 (zK hbj)
   ·rcases g3 with g3|g3|g3
    ·have:=(R.names i b e2).2; omega
    ·exact g3.1 i e2
    ·obtain⟨k,hk,ek⟩:=hblk b g3.1;exact h1 k hk (R.inj _ _ _ e2 ek)
  ·rcases g3 with ⟨g3,rfl⟩|g3|⟨g3,rfl⟩
   ·exact R.all.all b (.inl (zN R.size g3))
   ·exact g3.2
   ·obtain⟨k,hk,ek⟩:=hblk b g3;exact R.all.all b (R.mine (by have:=hsm k hk; unfold AG; omega) ek)
 have RK:=R.killedAll ids;have hrows:(σ.killAll ids).rows=σ.rows:=bM ids σ
 have hcell:∀c v,(σ.killAll ids).Uses c→CRel (cx A nm (σ.killAll ids) w) c v→CRel (cx A (Dx ids bs' nm) (σ.behindZ id ids cs1 S1) w') c v:=fun c v hu H=>by
  have hno:=(bN ids hu).1;refine H.move hview (fun k hk=> .inr ?_) (fun k _ b hb2=> ?_)
  ·have hki:k∉ids:=fun hm=>by rw[hno k hm] at hk; cases hk
   refine⟨?_,?_,fun b hbn=> ?_⟩
   ·show A1 (CN σ.rows ids S1) k=A1 (σ.killAll ids).rows k
    rw[SD hki,hrows]
   ·exact hout _ fun j hj e=>hki (by rw[show k=j by omega]; exact hj)
   ·refine hsame b (R.names _ b hbn).2 (fun e=> ?_) fun j hj e=> ?_
    ·subst e;have:=R.inj _ _ _ hbn hp;omega
    ·have:=R.inj _ _ _ hbn e;exact hki (by rw[show k=j by omega]; exact hj)
  ·exact(hev k).trans hb2
 refine⟨⟨hbel,zN R.size hb.size,R.all,R.good,fun i b hi=> ?_,fun i j b hi hj=> ?_,fun i hi=> ?_,fun k=> ?_,fun k cs hcs=> ?_⟩,hvz⟩
 ·rcases hcas i b hi with ⟨j,k,hj,rfl,hbj⟩|⟨_,e2⟩
  ·obtain⟨_,g2,g3⟩:=hnew b (zK hbj);refine⟨?_,g3⟩;rcases g2 with g2|g2
   ·exact .inl (zN R.size g2)
   ·obtain⟨k2,_,ek⟩:=hblk b g2;exact(R.names _ _ ek).1
  ·obtain⟨h1,h2⟩:=R.names i b e2;exact⟨h1,zS h2 hb.size⟩
 ·rcases hcas i b hi with ⟨x,k,hx,rfl,hbx⟩|⟨h1,e1⟩
  ·rcases hcas j b hj with ⟨y,k2,hy,rfl,hby⟩|⟨h2,e2⟩
   ·have:=hinj x y b hbx hby;subst this;rw[hx] at hy
    cases hy;rfl
   ·exact absurd e2 (hfree b (zK hbx) j h2)
  ·rcases hcas j b hj with ⟨y,k2,hy,rfl,hby⟩|⟨h2,e2⟩
   ·exact absurd e1 (hfree b (zK hby) i h1)
   ·exact R.inj i j b e1 e2
 ·refine(hout i fun k hk e=> ?_).trans (R.pin i hi);have:=hsm k hk;unfold AG at hi
  omega
 ·exact(RK.env k).to fun c v hc H=>hcell c v (.inl ⟨k,hc⟩) H
 ·by_cases hk:k=id
  ·subst hk
   have e:cs=cs1.map (XC.zac ids):=by
    have:=Bl (σ.killAll ids).bx k (cs1.map (XC.zac ids));exact zW (hcs.symm.trans this)
   subst e;obtain⟨C,t,h1,h2⟩:=hh;refine⟨p,C,t,(hev k).trans hp,h1,gJ (X:=cx A (Dx ids bs' nm) (σ.behindZ k ids cs1 S1) w') hvz hl1 (fun j i r hj hr=>Vs hnd hj hr) (fun j i o hj ho=> ?_) h2⟩;show Dx ids bs' nm (2*i+1)=o
   rw[hin j i hj,ho];rfl
  ·have hcs':A1 (put (σ.killAll ids).bx id (cs1.map (XC.zac ids))) k=O cs:=hcs;rw[Bn _ _ hk] at hcs'
   obtain⟨b,C,t,h1,h2,h3⟩:=RK.bxs k cs hcs'
   have hne:b≠p:=fun e=>by
    subst e;have:=R.inj _ _ _ h1 hp;omega
   refine⟨b,C,t,(hev k).trans h1,(hsame b (R.names _ _ h1).2 hne fun j _ e=> ?_).trans h2,h3.to fun c v hc H=>hcell c v (.inr ⟨k,cs,hcs',hc⟩) H⟩;have:=R.inj _ _ _ h1 e;omega
theorem FCz.callC{f:FuncId}{xs:Z YV}{cs0 cs1:Z XC}{R0 S1:Ap}{rs:Z R1}(H:FCz P f xs cs0 R0 cs1 S1 rs)(hv:I8 rs=T){id:zC}{ids:Z zC}{avs:Z AV}(hx:E1 id avs=O xs)(hb:A1 σ.bx id=O (cs0.map (XC.zac ids)))(hr:Cy σ.rows ids=O R0)
  (hnd:ids.Nodup) (hsm:∀i∈ids,i<99999999999) (hl:S1.length=ids.length) (hc0:cs0.all (XC.inZ R0.length)=T) :
  CallC P f avs σ (σ.behindZ id ids cs1 S1) (BK 0 rs):=by
 intro A B w0 w nm tmps vs R hvs;obtain⟨p,C,t,h1,h2,h3⟩:=R.bxs id _ hb;have h1':nm (2*id)=O p:=h1;obtain⟨hlen,hat⟩:=Kd hr
 have hblk:∀b,O b∈AQ nm ids→∃k∈ids,nm (2*k+1)=O b:=fun b h=>by
  unfold AQ at h;obtain⟨k,h1,h2⟩:=zV.1 h;exact⟨k,h1,h2⟩
 refine(H w (fun b fr=>(∀i,nm i≠O b)∧A b fr) p vs (AQ nm ids) (by simp[AQ,hlen]) (fun i j b hi hj=> ?_) (fun b hbm=> ?_) (fun w2 hb2=>R.good w2 (R.below.afterZ zE hb2 R.size R.there (fun b hm=> ?_) fun b hv=>hv.elim)) (R.names _ _ h1').2 (fun _ h=>h.1 _ h1')
  ⟨C,t,h2,by rw[E2]; exact Wr (fun _ _ h=>h) hr hc0 h3⟩ (by rw[E2]; exact SR h1' hvs hx)).mono fun e w' h=> ?_
 ·simp only[AQ,zX,zG] at hi hj
  obtain⟨x,hx1,hx2⟩:=hi;obtain⟨y,hy1,hy2⟩:=hj;have e:=R.inj _ _ _ hx2 hy2;have e:x=y:=by omega
  subst e;exact(yU (zJ.1 hx1).1 hnd).1 (hx1.trans hy1.symm)
 ·obtain⟨k,hk,ek⟩:=hblk b hbm;refine⟨(R.names _ _ ek).2,fun _ h=>h.1 _ ek,fun e=> ?_⟩;subst e;have:=R.inj _ _ _ ek h1';omega
 ·rcases hm with ⟨i,_,e⟩|⟨hm,_⟩
  ·obtain⟨_,rfl⟩:=HO e;exact(R.names _ _ h1').1
  ·obtain⟨k,hk,ek⟩:=hblk b hm;exact(R.names _ _ ek).1
 ·obtain⟨v,bs',rb,rfl,g0,g1,g2,g3,g4,g5⟩:=h;obtain⟨R',hvz⟩:=behindZ R h1' hnd hsm hl.symm g0 g1 g2 g3 g4;exact⟨v,_,zE,R',bC hv (g5.conv fun c _=> .inl hvz)⟩
end
def XC.z0:XC→AC
 | .d x=> .dat x
 | .r j=> .own (90000+j)
def Q4:zC→Ap→Rows
 | _,[]=> []
 | k,r::R=>(90000+k,r)::Q4 (k+1) R
def St.initZ(xs:Z YV)(cs0:Z XC)(R0:Ap):St:=⟨M8 0 xs,[(99999999999,cs0.map XC.z0)],Q4 0 R0⟩
theorem YF:∀(R:Ap) (k j:zC),k≤j→A1 (Q4 k R) (90000+j)=R[j - k]?
 | [],k,j,_=>by simp[Q4,A1]
 | r::R,k,j,h=>by
  simp only[Q4,A1];by_cases hk:k=j
  ·subst hk; simp
  ·have h':(90000+k==90000+j)=F:=by simpa using hk
   rw[h',cond_false,YF R (k+1) j (by omega),show j - k=(j - (k+1))+1 by omega]; simp
def DP(p:zC)(bs:Z (I zC)):Aa:=fun i=>if i=199999999998 then O p else if 180000≤i∧i % 2=1 then(bs[(i - 180000) / 2]?).join else U
theorem PR{p:zC}{bs:Z (I zC)}{i b:zC}(h:DP p bs i=O b):(i=199999999998∧p=b)∨∃j,i=180000+2*j+1∧bs[j]?=O (O b):=by
 unfold DP at h;split at h
 ·exact .inl ⟨by assumption,zW h⟩
 ·split at h
  ·rename_i hc
   refine .inr ⟨(i - 180000) / 2,by omega,?_⟩;cases hb:bs[(i - 180000) / 2]? with
   | none=>simp[hb] at h
   | some o=>simp[hb] at h; rw[h]
  ·cases h
theorem A0k{p:zC}{bs:Z (I zC)}{j:zC}{o:I zC}(h:bs[j]?=O o):DP p bs (2*(90000+j)+1)=o:=by
 unfold DP;rw[if_neg (by omega),if_pos (by omega),show(2*(90000+j)+1 - 180000) / 2=j by omega,h];rfl
theorem B5x{X:Cx}{h:A6}{bs:Z (I zC)}{R:Ap}(hh:∀b C,h b C→X.h b C)(hr:∀(j:zC) (r:zC × Z (Z D)),R[j]?=O r→A1 X.rs (90000+j)=O r)(hn:∀(j:zC) (o:I zC),bs[j]?=O o→X.nm (2*(90000+j)+1)=o)
  {c:XC} {v:Value} (H:ZCRel h X.w bs R c v):CRel X c.z0 v:=by
 cases H with
 | d H=>exact .dat (H.mono hh)
 | @nil j sz a h1 h2=>exact .ownNil (hr j _ h1) (hn j _ h2)
 | @r j sz es b cap len h1 h2 h3 h4=>exact .own (hr j _ h1) (hn j _ h2) (Ka h3 hh) h4
theorem gK{X:Cx}{h:A6}{bs:Z (I zC)}{R:Ap}(hh:∀b C,h b C→X.h b C)(hr:∀(j:zC) (r:zC × Z (Z D)),R[j]?=O r→A1 X.rs (90000+j)=O r)(hn:∀(j:zC) (o:I zC),bs[j]?=O o→X.nm (2*(90000+j)+1)=o) :
  ∀{cs:Z XC} {vs:Z Value},ZCRels h X.w bs R cs vs→CRels X (cs.map XC.z0) vs
 | _,_,.nil=> .nil
 | _,_,.cons a b=> .cons (B5x hh hr hn a) (gK hh hr hn b)
theorem wK{w:World}{A0:B9}{p:zC}{xs:Z YV}{cs0:Z XC}{R0:Ap}{vs:Z Value}{bs:Z (I zC)}(nt:zC)(hlb:bs.length≤64)(hinj:∀(i j b:zC),bs[i]?=O (O b)→bs[j]?=O (O b)→i=j)(hbs:∀b,O b∈bs→b<w.heap.size∧(∀fr,¬A0 b fr)∧b≠p)
  (hG:∀w2,BelowX w.heap.size (Ib w p bs) w2→GoodW w2) (hp:p<w.heap.size) (hA:∀fr,¬A0 p fr) (hh:ME (Ai A0 w) w p bs R0 cs0) (h:YVRels (Ai A0 w) p xs vs) :
  Rel (.of fun b fr=>(w.heap.size≤b∧fr=(0,0))∨A0 b fr∨(O b∈bs∧fr=(0,0))) w.heap.size (Ib w p bs) (DP p bs) (St.initZ xs cs0 R0) (vs.toArray++Array.replicate (nt - vs.toArray.size) undef) w:=by
 have hv:∀b C,Ai A0 w b C→A9 (fun b fr=>(w.heap.size≤b∧fr=(0,0))∨A0 b fr∨(O b∈bs∧fr=(0,0))) (DP p bs) w b C:=fun b C ⟨cc,tt,fr,h0,h1⟩=>⟨fun i e=>by
  rcases PR e with ⟨_,rfl⟩|⟨j,_,hj⟩
  ·exact hA _ h0
  ·exact(hbs b (zK hj)).2.1 _ h0,cc,tt,fr,.inr (.inl h0),h1⟩
 have hnp:DP p bs (2*99999999999)=O p:=if_pos rfl;refine⟨BelowX.start _ _ (fun _ h=>h.elim),yL _,⟨fun b hb=>hb.elim (fun h=> .inl ⟨h,zE⟩) fun h=> .inr (.inr ⟨h.1,zE⟩),fun _ _ h=>h.elim,fun _ _ h=>h.elim,fun _ _ h=>h.elim,fun h=>by cases h⟩,hG,fun i b hi=> ?_,fun i j b hi hj=> ?_,fun i hi=> ?_,fun k=> ?_,fun id cs hcs=> ?_⟩
 ·rcases PR hi with ⟨e,rfl⟩|⟨j,_,hj⟩
  ·exact⟨.inr (.inl ⟨199999999998,yL _,show Cm p 199999999998=O p from if_pos zE⟩),hp⟩
  ·have hm:=zK hj;exact⟨.inr (.inr ⟨hm,(hbs b hm).1⟩),(hbs b hm).1⟩
 ·rcases PR hi with ⟨e,rfl⟩|⟨x,e1,hx⟩
  ·rcases PR hj with ⟨e2,_⟩|⟨y,_,hy⟩
   ·omega
   ·exact absurd zE (hbs _ (zK hy)).2.2
  ·rcases PR hj with ⟨e2,rfl⟩|⟨y,e2,hy⟩
   ·exact absurd zE (hbs _ (zK hx)).2.2
   ·have:=hinj x y b hx hy;omega
 ·show DP p bs i=Cm p i
  unfold DP Cm;split
  ·rfl
  ·split
   ·have hi:199999999998≤i:=hi;have:bs[(i - 180000) / 2]?=U:=by rw[List.getElem?_eq_none_iff]; omega
    rw[this];rfl
   ·rfl
 ·unfold St.get;rw[show(St.initZ xs cs0 R0).env=M8 0 xs from rfl,Yz xs 0 k];simp only[yR,if_true,yW];cases hd:xs[k]? with
  | none=>exact .undef
  | some x=>
   have hk:k<vs.length:=by rw[← h.len]; exact(zJ.1 hd).1
   have hvk:vs[k]?=O (vs[k]'hk):=zI hk
   have e:(vs.toArray++Array.replicate (nt - vs.toArray.size) undef).getD k undef=vs[k]'hk:=by
    rw[Array.getD_eq_getD_getElem?,Array.getElem?_append_left (by simpa using hk)];simp[hk]
   rw[e];have hr:=YVRels.get k h hd hvk;revert hr
   generalize vs[k]'hk=z
   intro hr;cases hr with
   | d hr=>exact DVRel.vrel (X:=cx (.of fun b fr=>(w.heap.size≤b∧fr=(0,0))∨A0 b fr∨(O b∈bs∧fr=(0,0))) (DP p bs) (St.initZ xs cs0 R0) w) (hr.mono hv)
   | p=>exact .v (.sc (.pb hnp))
 ·have hc:id=99999999999∧cs=cs0.map XC.z0:=by
   have h':A1 [(99999999999,cs0.map XC.z0)] id=O cs:=hcs;simp only[A1] at h'
   by_cases h1:99999999999=id
   ·subst h1; simp at h'; exact⟨rfl,h'.symm⟩
   ·have e1:((99999999999:zC)==id)=F:=by simpa using h1
    simp[e1] at h'
  obtain⟨rfl,rfl⟩:=hc;obtain⟨C,t,h1,h2⟩:=hh;exact⟨p,C,t,hnp,h1,gK (X:=cx (.of fun b fr=>(w.heap.size≤b∧fr=(0,0))∨A0 b fr∨(O b∈bs∧fr=(0,0))) (DP p bs) (St.initZ xs cs0 R0) w) hv (fun j r hj=>(YF R0 0 j (yR _)).trans hj) (fun j o hj=>A0k hj) h2⟩
def Dj(ts:Z RV)(rs:Z R1)(cs1:Z XC)(S1:Ap)(e:Xl)(σ:St):Prop:=
 match e with
 | .exit _=>False
 | .pan _=>False
 | _=>OutVs σ ts rs∧∃ids:Z zC,ids.Nodup∧(∀i∈ids,i<99999999999)∧A1 σ.bx 99999999999=O (cs1.map (XC.zac ids))∧Cy σ.rows ids=O S1
section
variable {P : Program}
theorem ga(hm:P.follows .mixedOrders=T){f:FuncId}{c:Xg}{ts:Z RV}{nt:zC}{xs:Z YV}{cs0 cs1:Z XC}{R0 S1:Ap}{rs:Z R1}(he:AE P f=O (c.strip,ts,nt))(hl:xs.length≤nt)(hl0:R0.length≤64)(hc1:cs1.all (XC.inZ S1.length)=T)(h:B5 P c (Dj ts rs cs1 S1) (St.initZ xs cs0 R0)):FCz P f xs cs0 R0 cs1 S1 rs:=by
 unfold AE at he
 split at he
 ·rename_i fn hf
  split at he
  ·rename_i C ts' hb hr
   simp only[zG] at he
   obtain⟨c',hc,e⟩:=he;cases e;intro w A0 p vs bs hbl hinj hbs hG hp hA hh hvs;refine calls_of_wp hf hb ?_;have hlv:=hvs.len;refine wp_mono (Ic (df:= []) hm c C _ (DP p bs) (St.initZ xs cs0 R0) _ w hc h (wK fn.ntmps (by omega) hinj hbs hG hp hA hh hvs) (by simp; omega) zE) fun e a w' hq=> ?_
   obtain⟨e',nm,σ,he,hq,R,hnt,hdf⟩:=hq;have hnp:nm (2*99999999999)=O p:=(R.pin _ (by unfold AG; omega)).trans (show Cm p (2*99999999999)=O p from if_pos rfl)
   have key:(OutVs σ ts rs∧∃ids:Z zC,ids.Nodup∧(∀i∈ids,i<99999999999)∧A1 σ.bx 99999999999=O (cs1.map (XC.zac ids))∧Cy σ.rows ids=O S1)→a.defers= []∧∃v,(results fn a.tmps).run P w'= .ok v w'∧∃(v':Value) (bs' rb:Z (I zC)),Ending.returned v= .returned v'∧
     bs'.length=S1.length∧(∀(i j b:zC),bs'[i]?=O (O b)→bs'[j]?=O (O b)→i=j)∧(∀b,O b∈bs'→b≠p∧(w.heap.size≤b∨O b∈bs)∧b<w'.heap.size)∧BelowX w.heap.size (Ib w p bs) w'∧
     ME (Ai (fun b fr=>b≠p∧O b∉bs'∧((w.heap.size≤b∧fr=(0,0))∨A0 b fr∨(O b∈bs∧fr=(0,0)))) w') w' p bs' S1 cs1∧RRel (Ai (fun b fr=>b≠p∧O b∉bs'∧((w.heap.size≤b∧fr=(0,0))∨A0 b fr∨(O b∈bs∧fr=(0,0)))) w') w' rs v' rb:=by
    rintro⟨ho,ids,hnd,hsm,hbx,hro⟩
    have hview:∀b C,A9 (fun b fr=>(w.heap.size≤b∧fr=(0,0))∨A0 b fr∨(O b∈bs∧fr=(0,0))) nm w' b C→Ai (fun b fr=>b≠p∧O b∉AQ nm ids∧((w.heap.size≤b∧fr=(0,0))∨A0 b fr∨(O b∈bs∧fr=(0,0)))) w' b C:=fun b C ⟨g1,cc,tt,fr,g2,g3⟩=>⟨cc,tt,fr,⟨fun e=>g1 _ (e▸hnp),fun hm=>by
     unfold AQ at hm
     obtain⟨k,_,e⟩:=zV.1 hm;exact g1 _ e,g2⟩,g3⟩
    obtain⟨v,rb,hrun,hrel⟩:=cm R hview hr ho;obtain⟨b,C,t,h1,h2,h3⟩:=R.bxs _ _ hbx;have e:b=p:=zW (h1.symm.trans hnp);subst e;obtain⟨hlen,hat⟩:=Kd hro;refine⟨hdf,v,hrun,v,AQ nm ids,rb,zE,by simp[AQ,hlen],fun i j b2 hi hj=> ?_,fun b2 hb2=> ?_,R.below,⟨C,t,h2,Wr hview hro hc1 h3⟩,hrel⟩
    ·simp only[AQ,zX,zG] at hi hj
     obtain⟨x,hx1,hx2⟩:=hi;obtain⟨y,hy1,hy2⟩:=hj;have e:=R.inj _ _ _ hx2 hy2;have e:x=y:=by omega
     subst e;exact(yU (zJ.1 hx1).1 hnd).1 (hx1.trans hy1.symm)
    ·unfold AQ at hb2
     obtain⟨k,hk,ek⟩:=zV.1 hb2;have hks:=hsm k hk;refine⟨fun e=> ?_,(R.mine (by unfold AG; omega) ek).imp id fun h=>h.1,(R.names _ _ ek).2⟩;subst e;have:=R.inj _ _ _ ek hnp;omega
   cases e' with
   | normal=>obtain rfl:e= .normal:=he; exact key hq
   | ret=>obtain rfl:e= .ret:=he; exact key hq
   | exit id=>exact hq.elim
   | pan d=>exact hq.elim
  ·cases he
 ·cases he
theorem Qs(hm:P.follows .mixedOrders=T){f nt:zC}{c:Xg}{ts:Z RV}{xs:Z YV}{cs0 cs1:Z XC}{R0 S1:Ap}{rs:Z R1}{σ:St}(he:AE P f=O (c.strip,ts,nt))(hl:zY xs.length nt=T)(hl0:zY R0.length 64=T)(hc1:cs1.all (XC.inZ S1.length)=T)(hσ:St.initZ xs cs0 R0=σ)
  (h:go P [.code c] (Dj ts rs cs1 S1) .normal (O σ)):FCz P f xs cs0 R0 cs1 S1 rs:=ga hm he (zM hl) (zM hl0) hc1 (hσ▸JV h)
theorem HA{k:Z Fr}{Q:Xl→St→Prop}{σ:St}{its:Z AItem}{d f:zC}{args:Z Opd}{xs:Z YV}{cs0 cs1:Z XC}{R0 S1:Ap}{rs:Z R1}(hf:FCz P f xs cs0 R0 cs1 S1 rs)(id:zC)(ids:Z zC)(hv:I8 rs=T)(hx:E1 id (args.map σ.val)=O xs)(hb:A1 σ.bx id=O (cs0.map (XC.zac ids)))
  (hr:Cy σ.rows ids=O R0) (hnd:ids.Nodup) (hsm:ids.all (fun i=>Nat.blt i 99999999999)=T) (hl:S1.length=ids.length) (hc0:cs0.all (XC.inZ R0.length)=T)
  (h:go P (.ops its::k) Q .normal (O ((σ.behindZ id ids cs1 S1).set d (BK 0 rs)))):go P (.ops ((U,.call d f args)::its)::k) Q .normal (O σ):=
 LZ (hf.callC hv hx hb hr hnd (fun i hi=>by simpa[Nat.blt_eq] using List.all_eq_true.1 hsm i hi) hl hc0) h
end
def rU(n:zA):Z D:= [.int .u64 n]
theorem A1y(n:zA):rU n= [.int .u64 n]:=rfl
instance:Row rU 1:=⟨fun _=>rfl,yK⟩
instance:FlatRow rU:=⟨fun _ d h=>by rw[zZ.1 h]; rfl⟩
instance:OfTy (.int .u64) rU:=⟨fun _ h=>h⟩
def Bs(k:IntKind)(x y:zA):zA:=k.wrap (x*2 ^ min y.toNat k.bits)
theorem wr{k:IntKind}{x y:zA}:AU .shl k x y=bif decide (y<0) then U else O (.int k (Bs k x y)):=by
 by_cases h:y<0<;>simp[AU,Bs,h]
theorem mr{k k':IntKind}{x y:zA}:CF .shl (.v (.sc (.dat (.int k x)))) (.v (.sc (.dat (.int k' y))))=bif decide (y<0) then U else O (.v (.sc (.dat (.int k (Bs k x y))))):=by
 by_cases h:y<0<;>simp[CF,AU,Bs,h]
theorem wd{k:IntKind}{x y:zA}:AU .andNot k x y=O (.int k (Bk .andNot k x y)):=rfl
theorem mZ{σ:St}{id:zC}{ids:Z zC}{cs1:Z XC}{S:Ap}:σ.behindZ id ids cs1 S=⟨(σ.killAll ids).env,put (σ.killAll ids).bx id (cs1.map (XC.zac ids)),CN σ.rows ids S⟩:=rfl
theorem xI{σ:St}:σ.killAll []=σ:=rfl
theorem xH{σ:St}{id:zC}{ids:Z zC}:σ.killAll (id::ids)=(σ.map (AC.kill id)).killAll ids:=rfl
theorem B5s{ids:Z zC}{x:D}:XC.zac ids (.d x)= .dat x:=rfl
theorem B5o{i:zC}{ids:Z zC}:XC.zac (i::ids) (.r 0)= .own i:=rfl
theorem B5p{i j:zC}{ids:Z zC}:XC.zac (i::j::ids) (.r 1)= .own j:=rfl
theorem B5q{i j k:zC}{ids:Z zC}:XC.zac (i::j::k::ids) (.r 2)= .own k:=rfl
theorem B5r{i j k l:zC}{ids:Z zC}:XC.zac (i::j::k::l::ids) (.r 3)= .own l:=rfl
theorem B5z{ids:Z zC}:zH (XC.zac ids) []= []:=rfl
theorem B5y{ids:Z zC}{c:XC}{cs:Z XC}:zH (XC.zac ids) (c::cs)=XC.zac ids c::zH (XC.zac ids) cs:=rfl
abbrev mv(d s:zC):AItem:=(U,.mv d (.t s))
abbrev ld(d s:zC):AItem:=(U,.load d (.t s) F 1)
abbrev fa(d s o:zC):AItem:=(U,.faddr d (.t s) o)
abbrev bn(d:zC)(o:BinOp)(x y:zC):AItem:=(U,.bin d o (.t x) (.t y))
abbrev lw(d s n:zC):AItem:=(U,.load d (.t s) T n)
abbrev ca(d f:zC)(xs:Z Opd):AItem:=(U,.call d f xs)
abbrev xt(d s i:zC):AItem:=(U,.extr d (.t s) i)
abbrev ia(d x i n:zC):AItem:=(U,.iaddr d (.t x) (.t i) n)
abbrev ln(d s:zC):AItem:=(U,.len d (.t s))
abbrev nt(d s:zC):AItem:=(U,.un d .not (.t s))
abbrev bo(d s:zC):AItem:=(U,.box d (.t s))
abbrev so(a v n:zC):AItem:=(U,.store (.t a) (.t v) n)
abbrev po(d g x:zC):AItem:=(U,.pick d (.t g) (KB T) (.t x))
abbrev pa(d g x:zC):AItem:=(U,.pick d (.t g) (.t x) (KB F))
abbrev o0(x:AItem):AZ:=(O [],x)
abbrev aKe(a b c:Z zC):AItem:=(U,.keep a b c)
abbrev aKi(d:zC)(n:zA):AItem:=(U,.mv d (K n))
abbrev aKb(d:zC)(b:zB):AItem:=(U,.mv d (KB b))
abbrev aKn(d:zC):AItem:=(U,.mv d KN)
abbrev aBk(d:zC)(o:BinOp)(x:zC)(n:zA):AItem:=(U,.bin d o (.t x) (K n))
abbrev aAl(d:zC)(cs:Z AC):AItem:=(U,.alloc d cs)
abbrev aBs(d sz:zC)(zs:Z D)(n:zC)(ps:Z (zC × Opd)):AItem:=(U,.bslice d sz zs n ps)
abbrev aBu(d:zC)(zs:Z AC)(ps:Z (zC × zC × Opd)):AItem:=(U,.build d zs ps)
abbrev aAp(d sz b x y:zC):AItem:=(U,.app d sz b (.t x) (.t y))
abbrev gMv(g:zC)(b:zB)(d s:zC):AItem:=(O (g,b),.mv d (.t s))
abbrev gLd(g:zC)(b:zB)(d s:zC):AItem:=(O (g,b),.load d (.t s) F 1)
abbrev gLw(g:zC)(b:zB)(d s n:zC):AItem:=(O (g,b),.load d (.t s) T n)
abbrev gFa(g:zC)(b:zB)(d s o:zC):AItem:=(O (g,b),.faddr d (.t s) o)
abbrev gCa(g:zC)(b:zB)(d f:zC)(xs:Z Opd):AItem:=(O (g,b),.call d f xs)
abbrev gBn(g:zC)(b:zB)(d:zC)(o:BinOp)(x y:zC):AItem:=(O (g,b),.bin d o (.t x) (.t y))
abbrev gBk(g:zC)(b:zB)(d:zC)(o:BinOp)(x:zC)(n:zA):AItem:=(O (g,b),.bin d o (.t x) (K n))
abbrev gNt(g:zC)(b:zB)(d s:zC):AItem:=(O (g,b),.un d .not (.t s))
abbrev gLn(g:zC)(b:zB)(d s:zC):AItem:=(O (g,b),.len d (.t s))
abbrev gIa(g:zC)(b:zB)(d x i n:zC):AItem:=(O (g,b),.iaddr d (.t x) (.t i) n)
abbrev aSr(l:Z AItem)(c:Xg):Xg:= .seq (.reg l) c
abbrev aSi(l:Z AItem)(n:zC)(x z:Xg):Xg:= .seq (.seq (.reg l) (.cond (.t n) x .skip)) z
abbrev aSq(x y:Xg):Xg:= .seq x y
abbrev aCs(n:zC)(x:Xg):Xg:= .cond (.t n) x .skip
abbrev aCn(n:zC)(x y:Xg):Xg:= .cond (.t n) x y
abbrev aRr(l:Z AItem):Xg:= .seq (.reg l) .ret
abbrev aLp(c e m:zC)(x y:Xg):Xg:= .seq (.cond (.t c) .skip (.exit e)) (.seq (.block m x) y)
abbrev aIn(d s:zC):Xg:= .reg [(U,.bin d .add (.t s) (K 1)),(U,.mv s (.t d))]
abbrev aBl(n:zC)(c:Xg):Xg:= .block n (.loop c)
abbrev dm(l:Z D):Z AC:=zH .dat l
theorem A10:yZ ([]:Z RC)=0:=rfl
theorem A1z{c:RC}{l:Z RC}:yZ (c::l)=yZ l+1:=rfl
theorem A2f{g:zC}{r r' r'':R1}:BH g [r,r',r'']=BP g 0 (r.cells++(r'.cells++r''.cells)):=by simp[BH]
theorem A2c{g:zC}{r r' r'' q:R1}:BH g [r,r',r'',q]=BP g 0 (r.cells++(r'.cells++(r''.cells++q.cells))):=by simp[BH]
def A2q:=zF @A2c (zF @A2f (zF @A10 (zF @A1z (zF @B5z (zF @B5y (zF @A1y (zF @wr (zF @mr (zF @wd (zF @mZ (zF @xI (zF @xH (zF @B5s (zF @B5o (zF @B5p (zF @B5q @B5r))))))))))))))))
theorem cd{α:Type}:∀(l:Z (zC × α)) (n:zC) (u v:α),put (put l n u) n v=put l n v
 | [],n,u,v=>by simp[put]
 | (k,x)::r,n,u,v=>by
  by_cases h:k=n
  ·simp[put,h]
  ·have h':(k==n)=F:=by simpa using h
   simp[put,h',cd r n u v]
theorem bc{α:Type}(f:α→α):∀(l:Z (zC × α)) (n:zC) (u:α),(put l n u).map (fun p=>(p.1,f p.2))=put (l.map fun p=>(p.1,f p.2)) n (f u)
 | [],n,u=>by simp[put]
 | (k,x)::r,n,u=>by
  by_cases h:k=n
  ·simp[put,h]
  ·have h':(k==n)=F:=by simpa using h
   simp[put,h',bc f r n u]
theorem Ga{P:Program}{k:Z Fr}{Q:Xl→St→Prop}{σ:St}{its:Z AItem}{α:Type}{row:α→Z D}{d sz:zC} [Row row sz]{hi:Opd}{xs:Z α}{id:zC}{h:zA}{p:zC × zC}(h2:A1 σ.rows id=O (sz,zH row xs))(h3:C4 (σ.val hi)=O h)
  (hb:bnd (xs.length:zA) h 0 xs.length=O p) (h4:(id / 99999999999==0)=T) (H:go P (.ops its::k) Q .normal (O {((σ.map (AC.kill id)).set d (.v (.sc (.own id)))) with rows:=put σ.rows id (sz,zH row (xs.take p.2)) })) :
  go P (.ops ((U,.cut d)::its)::k) Q .normal (AD σ d (Dd σ sz (.v (.sc (.own id))) U (O hi) U)):=by
 have hp:p.1=0∧p.2≤xs.length:=by
  unfold bnd at hb
  split at hb
  ·cases hb; exact⟨rfl,by omega⟩
  ·cases hb
 have hs:Dd σ sz (.v (.sc (.own id))) U (O hi) U=O (.v (.sc (.osub id 0 p.2))):=by
  simp only[Dd,h2,Option.isNone_none,and_self,if_true,QH,yA,Ex,h3,GG,hb,yX,hp.1]
 rw[hs,Vq,B8 rfl];have hid:id / 99999999999=0:=by simpa using h4
 have e:(σ.set d (.v (.sc (.osub id 0 p.2)))).step (.cut d)=O {((σ.map (AC.kill id)).set d (.v (.sc (.own id)))) with rows:=put σ.rows id (sz,zH row (xs.take p.2))}:=by
  have h2':A1 (σ.set d (.v (.sc (.osub id 0 p.2)))).rows id=O (sz,zH row xs):=h2;simp only[St.step,St.get_set_same,if_pos hid,h2',yA,if_pos hp.2];refine congrArg O ?_;show St.mk _ _ _=St.mk _ _ _
  rw[kC];congr 1
  show put (zH (fun p=>(p.1,AV.map (AC.kill id) p.2)) (put σ.env d _)) d _=put (zH (fun p=>(p.1,AV.map (AC.kill id) p.2)) σ.env) d _
  rw[bc,cd]
 rw[e];exact H
end
section
mutual
theorem Rep.toS{h:A6}:∀{d v},Rep h d v→RepS h d v
 | _,_,.int a b=> .int a b
 | _,_,.bool=> .bool
 | _,_,.str a=> .str a
 | _,_,.nil=> .nil
 | _,_,.sl a z b c d e=> .sl a z (RepRows.toS b) c d e
 | _,_,.slb a z b c d e _=> .slb a z (RepRows.toS b) c d e
 | _,_,.pd a b=> .pd a (Reps.toS b)
 | _,_,.clo a b=> .clo (Reps.toS a) b
 | _,_,.ifc a=> .ifc (Rep.toS a)
 | _,_,.ifs a b=> .ifs (Reps.toS a) b
 | _,_,.noi=> .noi
theorem Reps.toS{h:A6}:∀{d v},Reps h d v→RepSs h d v
 | _,_,.nil=> .nil
 | _,_,.cons a b=> .cons (Rep.toS a) (Reps.toS b)
theorem RepRows.toS{h:A6}:∀{sz d v},RepRows h sz d v→RepSRows h sz d v
 | _,_,_,.nil=> .nil
 | _,_,_,.cons a b c=> .cons a (Reps.toS b) (RepRows.toS c)
end
mutual
theorem RepS.move{h h':A6}(hh:∀b C,h b C→∃C',h' b C'∧ShL C C'):∀{d v v'},RepS h d v→ShV v v'→RepS h' d v'
 | _,_,_,.int a b,.int p q=> .int p q
 | _,_,_,.int a b,.same=> .int a b
 | _,_,_,.bool,.bool=> .bool
 | _,_,_,.bool,.same=> .bool
 | _,_,_,.str a,.str p=> .str p
 | _,_,_,.str a,.same=> .str a
 | _,_,_,.nil,.same=> .nil
 | _,_,_,.sl a z b c d e,.same=>by
  obtain⟨C',k1,k2⟩:=hh _ _ a;exact .sl k1 z (RepSRows.move hh b (k2.drop _)) c d e
 | _,_,_,.slb a z b c d e,.same=>by
  obtain⟨C',k1,k2⟩:=hh _ _ a;exact .slb k1 z (RepSRows.move hh b (k2.drop _)) c d e
 | _,_,_,.pd a b,.same=>by
  obtain⟨C',k1,k2⟩:=hh _ _ a;exact .pd k1 (RepSs.move hh b (k2.drop _))
 | _,_,_,.clo a b,.same=> .clo (RepSs.move hh a (.refl _)) b
 | _,_,_,.ifc a,.same=> .ifc (RepS.move hh a .same)
 | _,_,_,.ifs a b,.same=> .ifs (RepSs.move hh a (.refl _)) b
 | _,_,_,.noi,.same=> .noi
theorem RepSs.move{h h':A6}(hh:∀b C,h b C→∃C',h' b C'∧ShL C C'):∀{d v v'},RepSs h d v→ShL v v'→RepSs h' d v'
 | _,_,_,.nil,_=> .nil
 | _,_,_,.cons a b,.cons k l=> .cons (RepS.move hh a k) (RepSs.move hh b l)
theorem RepSRows.move{h h':A6}(hh:∀b C,h b C→∃C',h' b C'∧ShL C C'):∀{sz d v v'},RepSRows h sz d v→ShL v v'→RepSRows h' sz d v'
 | _,_,_,_,.nil,_=> .nil
 | _,_,_,_,.cons a b c,k=> .cons a (RepSs.move hh b k) (RepSRows.move hh c (k.drop _))
end
theorem FCf.fc{P:Program}{f:FuncId}{ds:Z DV}{rs:Z R1}(H:FCf P f ds rs):FC P f ds rs:=by
 intro w A vs hG hvs;refine(H w A vs hG hvs).mono fun e w' h=> ?_
 obtain⟨v,bs,h1,h2,h3,h4,h5⟩:=h;exact⟨v,bs,h1,h2,h3.conv fun c _=> .inl fun b C ⟨cc,t,fr,⟨k1,k2⟩,k3⟩=>⟨cc,t,fr,⟨k1,k2.imp id fun h=>h.elim⟩,k3⟩,h4,h5⟩
def DV.avo:DV→AV
 | .sc d=> .v (.sc (CM d))
 | .ag ds=> .v (.ag (ds.map CM))
def M5:zC→Z DV→Z (zC × AV)
 | _,[]=> []
 | k,x::xs=>(k,x.avo)::M5 (k+1) xs
def St.initO(ds:Z DV):St:=⟨M5 0 ds,[],[]⟩
theorem Yw:∀(ds:Z DV) (k i:zC),A1 (M5 k ds) i=if k≤i then(ds[i - k]?).map DV.avo else U
 | [],k,i=>by simp[M5,A1]
 | d::ds,k,i=>by
  simp only[M5,A1];by_cases hk:k=i
  ·subst hk; simp
  ·have h':(k==i)=F:=by simpa using hk
   rw[h',cond_false,Yw ds (k+1) i];by_cases h1:k≤i
   ·rw[if_pos (by omega),if_pos h1,show i - k=(i - (k+1))+1 by omega]; simp
   ·rw[if_neg (by omega),if_neg h1]
def QB(w:World)(A0:B9):Ar:=⟨fun b fr=>w.heap.size≤b∧fr=(0,0),Ai A0 w,BN,T⟩
theorem tK(w:World)(A0:B9):Glob (QB w A0) w.heap.size (.of w (fun _=>U)):=by
 refine⟨fun b hb=>hb.elim (fun h=>⟨h,zE⟩) fun h=>h.elim,fun b C h=> ?_,fun _ _ h=>h.elim,fun _ _ h=>h.elim,fun _ b fr h=>⟨.inl h.1,h.2⟩⟩;obtain⟨c,t,fr,h1,h2,h3⟩:=h;exact⟨DM h2,fun hm=>(by obtain⟨i,_,e⟩:=Base.of_M hm; cases e),fun h=>h.elim,c,t,fr,h2,h3⟩
theorem cG{X:Cx}(hnw:X.new=T):∀{ds:Z D} {vs:Z Value},Reps X.o ds vs→ds.length=vs.length→CRels X (ds.map CM) vs
 | [],vs,_,hl=>by
  obtain rfl:vs= []:=zL.1 (by simpa using hl.symm);exact .nil
 | _,_,.cons a b,hl=> .cons (Vd hnw a) (cG hnw b (by simpa using hl))
theorem au{w:World}{A0:B9}{ds:Z DV}{vs:Z Value}(nt:zC)(hG:GoodW w)(h:DVRels (Ai A0 w) ds vs) :
  Rel (QB w A0) w.heap.size (.of w (fun _=>U)) (fun _=>U) (St.initO ds) (vs.toArray++Array.replicate (nt - vs.toArray.size) undef) w:=by
 refine⟨BelowX.start _ _ (fun _ h=>h.elim),yL _,tK w A0,fun w2 hb=>hG.below (hb.plain fun _=>rfl),fun i b h=>(by cases h),fun i j b h=>(by cases h),fun i _=>rfl,fun k=> ?_,fun id cs h=>by simp[St.initO,A1] at h⟩;unfold St.get;rw[show(St.initO ds).env=M5 0 ds from rfl,Yw ds 0 k];have hlen:=h.len;simp only[yR,if_true,yW];cases hd:ds[k]? with
 | none=>exact .undef
 | some d=>
  have hk:k<vs.length:=by rw[← hlen]; exact(zJ.1 hd).1
  have hv:vs[k]?=O (vs[k]'hk):=zI hk
  have e:(vs.toArray++Array.replicate (nt - vs.toArray.size) undef).getD k undef=vs[k]'hk:=by
   rw[Array.getD_eq_getD_getElem?,Array.getElem?_append_left (by simpa using hk)];simp[hk]
  rw[e];have hr:=DVRels.get k h hd hv;revert hr
  generalize vs[k]'hk=z
  intro hr;cases hr with
  | sc hr=>exact .v (.sc (Vd (X:=cx (QB w A0) (fun _=>U) (St.initO ds) w) rfl hr))
  | ag hr hl=>exact .v (.ag (cG (X:=cx (QB w A0) (fun _=>U) (St.initO ds) w) rfl hr hl))
section
variable {P : Program}
theorem gS(hm:P.follows .mixedOrders=T){f:FuncId}{fn:Func}{C:Code}{c:Xg}{ts:Z RV}{ds:Z DV}{rs:Z R1}(hf:P.funcs[f]?=O fn)(hb:fn.body=O C)(hc:Bd P fn.ntmps C=O c.strip)
  (hr:DS P fn.results.toList=O ts) (hl:ds.length≤fn.ntmps) (h:B5 P c (A5 ts rs) (St.initO ds)):FCf P f ds rs:=by
 intro w A0 vs hG hvs;refine calls_of_wp hf hb ?_;have hlen:=hvs.len;refine wp_mono (Ic (df:= []) hm c C _ (fun _=>U) (St.initO ds) _ w hc h (au fn.ntmps hG hvs) (by simp; omega) zE) fun e a w' hp=> ?_
 obtain⟨e',nm,σ,he,hq,R,hnt,hdf⟩:=hp
 have key:Qw ts rs σ→a.defers= []∧∃v,(results fn a.tmps).run P w'= .ok v w'∧∃(v':Value) (bs:Z (I zC)),Ending.returned v= .returned v'∧RowKit.Below w.heap.size w w'∧
   RRel (Ai (fun b fr=>O b∉bs∧((w.heap.size≤b∧fr=(0,0))∨False)) w') w' rs v' bs∧(∀b,O b∈bs→w.heap.size≤b∧b<w'.heap.size)∧(∀(i j b:zC),bs[i]?=O (O b)→bs[j]?=O (O b)→i=j):=by
  rintro⟨ho,hnd⟩
  let ids:=D1 σ ts rs
  have hbs:∀b,O b∈ids.map (Ba nm)→∃id,O id∈ids∧nm (2*id+1)=O b:=by
   intro b hb;obtain⟨o,ho,hb⟩:=zV.1 hb;cases o with
   | none=>simp[Ba] at hb
   | some id=>exact⟨id,ho,hb⟩
  have hview:∀b C,A9 (fun b fr=>w.heap.size≤b∧fr=(0,0)) nm w' b C→Ai (fun b fr=>O b∉ids.map (Ba nm)∧((w.heap.size≤b∧fr=(0,0))∨False)) w' b C:=by
   rintro b C ⟨h1,c,t,fr,h2,h3⟩
   refine⟨c,t,fr,⟨fun hb=> ?_,.inl h2⟩,h3⟩;obtain⟨id,_,hn⟩:=hbs b hb;exact h1 _ hn
  obtain⟨vs',hrun,hvl,hrel⟩:=HR (P:=P) (f:=fun | .tmp t=>pure (a.tmps.getD t undef) | .cell c t=>do loadVar t (← asAddr (a.tmps.getD c undef))) R hview (fun _=>rfl) (fun _ _=>rfl) hr ho;refine⟨hdf,(if h:vs'.length=1 then vs'[0] else .tuple vs'.toArray),?_,_,ids.map (Ba nm),zE,R.below.plain (fun _=>rfl),?_,fun b hb=> ?_,fun i j b hi hj=> ?_⟩
  ·unfold results;rw[← Array.toArray_toList (xs:=fn.results)];simp only[yJ,Sem.run_bind,map_eq_pure_bind];erw [hrun]
   simp only[Result.andThen_ok,Sem.run_pure];simp
  ·split
   ·rename_i h1
    obtain⟨v1,rfl⟩:=zT.1 h1;have hrl:rs.length=1:=by rw[ho.len,← hvl]; exact h1
    obtain⟨r,rfl⟩:=zT.1 hrl;revert hrel
    show R1Rels _ _ [r] [v1] (ids.map (Ba nm))→_
    generalize ids.map (Ba nm)=bs
    intro hrel;cases hrel with
    | cons h1 h2=>
     cases h2;simp only[yB] at h1 ⊢
     exact .one h1
   ·rename_i h1
    refine .many ?_ hrel;rw[ho.len,← hvl];exact h1
  ·obtain⟨id,_,hn⟩:=hbs b hb;obtain⟨k1,k2⟩:=R.names _ _ hn;refine⟨k1.resolve_right ?_,k2⟩;intro hmm;obtain⟨i,_,hi⟩:=Base.of_M hmm;cases hi
  ·simp only[zX,zG] at hi hj
   obtain⟨x,hx,hxb⟩:=hi;obtain⟨y,hy,hyb⟩:=hj;cases x with
   | none=>simp[Ba] at hxb
   | some x=>
    cases y with
    | none=>simp[Ba] at hyb
    | some y=>
     have:=R.inj _ _ _ hxb hyb;have e:x=y:=by omega
     subst e;exact Sz hnd i j x hx hy
 cases e' with
 | normal=>obtain rfl:e= .normal:=he; exact key hq
 | ret=>obtain rfl:e= .ret:=he; exact key hq
 | exit id=>exact hq.elim
 | pan d=>exact hq.elim
theorem gQ(hm:P.follows .mixedOrders=T){f:FuncId}{c:Xg}{ts:Z RV}{nt:zC}{ds:Z DV}{rs:Z R1}(he:AE P f=O (c.strip,ts,nt))(hl:ds.length≤nt)(h:B5 P c (A5 ts rs) (St.initO ds)):FCf P f ds rs:=by
 unfold AE at he
 split at he
 ·rename_i fn hf
  split at he
  ·rename_i C ts' hb hr
   simp only[zG] at he
   obtain⟨c',hc,e⟩:=he;cases e;exact gS hm hf hb hc hr hl h
  ·cases he
 ·cases he
theorem gR(hm:P.follows .mixedOrders=T){f nt:zC}{c:Xg}{ts:Z RV}{ds:Z DV}{rs:Z R1}{σ:St}(he:AE P f=O (c.strip,ts,nt))(hl:zY ds.length nt=T)(hσ:St.initO ds=σ)
  (h:go P [.code c] (A5 ts rs) .normal (O σ)):FCf P f ds rs:=gQ hm he (zM hl) (hσ▸JV h)
end
section
variable {P : Program} {A : Ar} {B : zC} {w0 : Base} {w : World} {nm : Aa} {σ : St} {tmps : Array Value}
theorem Rel.behind0(R:Rel A B w0 nm σ tmps w){d:zC}{rs:Z R1}{w':World}{v:Value}{bs:Z (I zC)}(hf:σ.fresh d=T)(h64:(rs.flatMap R1.cells).length≤64){A':B9}
  (hA:(∀b fr,A' b fr→(∀i,nm i≠O b)∧A b fr)∨Cu rs)
  (hb:RowKit.Below w.heap.size w w') (hr:RRel (Ai (fun b fr=>O b∉bs∧((w.heap.size≤b∧fr=(0,0))∨A' b fr)) w') w' rs v bs) (hn:∀b,O b∈bs→w.heap.size≤b∧b<w'.heap.size)
  (hdis:∀(i j b:zC),bs[i]?=O (O b)→bs[j]?=O (O b)→i=j):∃nm',Rel A B w0 nm' {σ with rows:=Bi σ.rows (BH d rs)} tmps w'∧VRel (cx A nm' {σ with rows:=Bi σ.rows (BH d rs)} w') (BK d rs) v:=by
 let inst:Aa:=fun n=>if n % 2=1 then(bs[(n / 2) % 64]?).join else U
 have hinst:∀n b,inst n=O b→n % 2=1∧bs[(n / 2) % 64]?=O (O b):=by
  intro n b h;simp only[inst] at h;split at h
  ·rename_i h1
   refine⟨h1,?_⟩;cases hq:bs[(n / 2) % 64]? with
   | none=>rw[hq] at h; cases h
   | some q=>rw[hq] at h; simp at h; rw[h]
  ·cases h
 have hl:=hr.len
 have R1:=R.grow hf hb inst (Bi σ.rows (BH d rs)) (fun n b _ h=>hn b (zK (hinst n b h).2)) (fun n m b h1 h2 h3 h4=>by
   obtain⟨k1,k2⟩:=hinst n b h3;obtain⟨k3,k4⟩:=hinst m b h4;have:=hdis _ _ _ k2 k4;unfold C5 at h1 h2
   omega) (fun id hid=>RH _ _ _ _ _ (by omega) hid)
 have hview:∀b C,Ai (fun b fr=>O b∉bs∧((w.heap.size≤b∧fr=(0,0))∨((∀i,nm i≠O b)∧A b fr))) w' b C→A9 A (AP d inst nm) w' b C:=by
  rintro b C ⟨cc,tt,fr,⟨h1,h2⟩,h3⟩
  refine⟨fun i=> ?_,cc,tt,fr,?_,h3⟩
  ·unfold AP;split
   ·intro e; exact h1 (zK (hinst i b e).2)
   ·intro e;rcases h2 with h2|h2
    ·have:=R.names i b e; omega
    ·exact h2.1 i e
  ·rcases h2 with h2|h2
   ·obtain⟨h2,rfl⟩:=h2;exact R.all.all b (.inl (zN R.size h2))
   ·exact h2.2
 have hr2:RRel (A9 A (AP d inst nm) w') w' rs v bs:=by
  refine hr.conv fun c hc=> ?_
  rcases hA with hA|hA
  ·left
   rintro b C ⟨cc,tt,fr,⟨h1,h2⟩,h3⟩
   exact hview b C ⟨cc,tt,fr,⟨h1,h2.imp id (hA b fr)⟩,h3⟩
  ·exact .inr (hA c hc)
 have hv:VRel (cx A (AP d inst nm) {σ with rows:=Bi σ.rows (BH d rs)} w') (BK d rs) v:=by
  refine UM hr2 fun i=>⟨fun sz es e=> ?_,fun b e=> ?_⟩
  ·exact RG _ _ _ _ _ _ _ e
  ·have hi:i<64:=by have:=(zJ.1 e).1; omega
   show AP d inst nm (2*(d*64+(0+i))+1)=b
   unfold AP;rw[if_pos (.inr (by omega))];simp only[inst];rw[if_pos (by omega),show(2*(d*64+(0+i))+1) / 2 % 64=i by omega,e];rfl
 exact⟨_,R1,hv⟩
def St.toDL(σ:St):Z AV→I (Z DV)
 | []=>O []
 | x::xs=>match σ.toDV x,σ.toDL xs with
  | some d,O ds=>O (d::ds)
  | _,_=>U
theorem VF(R:Rel A B w0 nm σ tmps w):∀{avs:Z AV} {vs:Z Value} {ds:Z DV},VsRel (cx A nm σ w) avs vs→σ.toDL avs=O ds→DVRels (B7 w) ds vs
 | [],vs,ds,H,h=>by
  obtain rfl:vs= []:=zL.1 H.1.symm;simp[St.toDL] at h;subst h;exact .nil
 | x::avs,vs,ds,H,h=>by
  unfold St.toDL at h;split at h
  ·rename_i d ds' h1 h2
   cases h;cases vs with
   | nil=>have:=H.1; simp at this
   | cons v vs=>
    exact .cons (VG (a:=⟨tmps,[]⟩) R (H.2 0 x v zE zE) h1) (VF R ⟨by have:=H.1; simpa using this,fun i u v hu hv=>H.2 (i+1) u v (by simpa using hu) (by simpa using hv)⟩ h2)
  ·cases h
theorem FCf.callC{f:FuncId}{ds:Z DV}{rs:Z R1}(H:FCf P f ds rs){d:zC}{avs:Z AV}(hx:σ.toDL avs=O ds)(hfr:σ.fresh d=T)(h64:(rs.flatMap R1.cells).length≤64) :
  CallC P f avs σ {σ with rows:=Bi σ.rows (BH d rs)} (BK d rs):=by
 intro A B w0 w nm tmps vs R hvs;refine(H w (fun _ _=>True) vs (R.good w R.below) ((VF R hvs hx).mono fun _ _ h=>W6 h)).mono fun e w' h=> ?_
 obtain⟨v,bs,rfl,h2,h3,h4,h5⟩:=h;obtain⟨nm',R',hv⟩:=R.behind0 hfr h64 (A':=fun _ _=>False) (.inl fun _ _ h=>h.elim) h2 h3 h4 h5;exact⟨v,nm',zE,R',hv⟩
theorem U3{k:Z Fr}{Q:Xl→St→Prop}{its:Z AItem}{d f:zC}{args:Z Opd}{ds:Z DV}{rs:Z R1}(hf:FCf P f ds rs)(h1:σ.toDVs args=O ds)(h3:σ.fresh d=T)(h4:(rs.flatMap R1.cells).length≤64)
  (h5:go P (.ops its::k) Q .normal (O (σ.inst d rs))):go P (.ops ((U,.call d f args)::its)::k) Q .normal (O σ):= .inl ⟨ds,rs,.inl ⟨h1,.inr hf⟩,hf.fc,h3,h4,h5⟩
end
end
section
inductive DVS (h:A6):DV→Value→Prop
 | sc {d v}:RepS h d v→DVS h (.sc d) v
 | ag {ds vs}:RepSs h ds vs→ds.length=vs.length→DVS h (.ag ds) (.agg vs.toArray)
inductive VV where
 | d (x:D)
 | v (x:DV)
inductive VVRel (h:A6):VV→Value→Prop
 | d {x v}:Rep BN x v→VVRel h (.d x) v
 | v {x v}:DVS h x v→VVRel h (.v x) v
inductive VVRels (h:A6):Z VV→Z Value→Prop
 | nil:VVRels h [] []
 | cons {x v xs vs}:VVRel h x v→VVRels h xs vs→VVRels h (x::xs) (v::vs)
theorem VVRels.len{h:A6}:∀{xs vs},VVRels h xs vs→xs.length=vs.length
 | _,_,.nil=>rfl
 | _,_,.cons _ b=>by simp[b.len]
theorem VVRels.get{h:A6}:∀{xs:Z VV} {vs:Z Value} (i:zC) {x:VV} {v:Value},VVRels h xs vs→xs[i]?=O x→vs[i]?=O v→VVRel h x v
 | _,_,_,_,_,.nil,hd,_=>by simp at hd
 | _,_,0,_,_,.cons a _,hd,hv=>by simp at hd hv; subst hd hv; exact a
 | _,_,i+1,_,_,.cons _ b,hd,hv=>VVRels.get i b (by simpa using hd) (by simpa using hv)
def RI(A:B9):B9:=fun b fr=>A b fr∧fr=(0,0)
def QD(w:World)(A:B9):Base:=⟨w,fun _=>U,fun _=>False,fun _ h=>h.elim,fun b=>A b (0,0)∧∃c t,w.heap[b]?=O (.cells c t (0,0)),fun b _ h=>h.elim (fun⟨i,_,e⟩=>by cases e) fun h=>h⟩
theorem XS{w:World}{A:B9}{b:zC}(h:(QD w A).M b):False:=h.elim (fun⟨i,_,e⟩=>by cases e) fun h=>h
def FCd(P:Program)(f:FuncId)(xs:Z VV)(r:D):Prop:=
 ∀(w:World) (A:B9) (vs:Z Value),(∀w2,BelowX w.heap.size (QD w A) w2→GoodW w2)→VVRels (Ai (RI A) w) xs vs→Calls P f vs.toArray w fun e w'=>
  ∃v,e= .returned v∧Rep BN r v∧BelowX w.heap.size (QD w A) w'
def VV.av:VV→AV
 | VV.d x=> .v (.sc (.dat x))
 | VV.v (DV.sc y)=> .v (.sc (.vol y))
 | VV.v (DV.ag ys)=> .v (.ag (ys.map .vol))
section
variable {P : Program}
end
def Qj:Z AC→I (Z D)
 | []=>O []
 | .vol d::cs=>(Qj cs).map (d:: ·)
 | _=>U
def VL:AV→I VV
 | .v (.sc (.dat d))=>bif d.flat then O (.d d) else U
 | .v (.sc (.vol d))=>O (.v (.sc d))
 | .v (.ag cs)=>(Qj cs).map fun ds=> .v (.ag ds)
 | _=>U
def Qf:Z AV→I (Z VV)
 | []=>O []
 | a::r=>match VL a,Qf r with
  | some x,O xs=>O (x::xs)
  | _,_=>U
section
variable {P : Program} {A : Ar} {B : zC} {w0 : Base} {w : World} {nm : Aa} {σ : St} {tmps : Array Value}
def Q2(A:Ar):B9:=fun b _=>∃C,A.v b C
theorem Rel.volMove(R:Rel A B w0 nm σ tmps w):∀b C,A.v b C→∃C',Ai (RI (Q2 A)) w b C'∧ShL C C':=fun b C hC=>by
 obtain⟨c,t,fr,h1,h2,h3,_⟩:=R.volAt hC;exact⟨c.toList,⟨c,t,fr,⟨⟨C,hC⟩,h3⟩,h1,zE⟩,h2⟩
theorem eY{h':A6}{X:Cx}(hh:∀b C,X.v b C→∃C',h' b C'∧ShL C C'):∀{cs:Z AC} {vs:Z Value} {ds:Z D},CRels X cs vs→Qj cs=O ds→RepSs h' ds vs∧ds.length=vs.length
 | [],_,ds,.nil,h=>by simp[Qj] at h; subst h; exact⟨.nil,rfl⟩
 | c::cs,_,ds,.cons a b,h=>by
  cases c<;>simp[Qj] at h;obtain⟨ds',h1,rfl⟩:=h;obtain⟨k1,k2⟩:=eY hh b h1;cases a with | vol p q=>exact⟨.cons (p.move hh q) k1,by simp[k2]⟩
theorem A5j(R:Rel A B w0 nm σ tmps w){av:AV}{v:Value}{x:VV}(H:VRel (cx A nm σ w) av v)(h:VL av=O x):VVRel (Ai (RI (Q2 A)) w) x v:=by
 unfold VL at h;split at h
 ·rename_i d
  cases hf:d.flat with
  | false=>rw[hf] at h; cases h
  | true=>
   rw[hf] at h;cases h;exact .d (H.inv_sc.inv_dat.flat hf)
 ·cases h;have hc:=H.inv_sc;cases hc with | vol p q=>exact .v (.sc (p.move R.volMove q))
 ·simp only[zG] at h;obtain⟨ds,h1,rfl⟩:=h;obtain⟨vs,rfl,hcs⟩:=H.inv_ag;obtain⟨k1,k2⟩:=eY (X:=cx A nm σ w) R.volMove hcs h1;exact .v (.ag k1 k2)
 ·cases h
theorem eL(R:Rel A B w0 nm σ tmps w):∀{avs:Z AV} {vs:Z Value} {xs:Z VV},VsRel (cx A nm σ w) avs vs→Qf avs=O xs→VVRels (Ai (RI (Q2 A)) w) xs vs
 | [],vs,xs,H,h=>by
  simp[Qf] at h;subst h;obtain rfl:vs= []:=zL.1 H.1.symm;exact .nil
 | a::avs,vs,xs,H,h=>by
  unfold Qf at h;split at h
  ·rename_i x xs' h1 h2
   cases h;cases vs with
   | nil=>have:=H.1; simp at this
   | cons v vs=>
    exact .cons (A5j R (H.2 0 a v zE zE) h1) (eL R ⟨by have:=H.1; simpa using this,fun i u v hu hv=>H.2 (i+1) u v (by simpa using hu) (by simpa using hv)⟩ h2)
  ·cases h
theorem FCd.callC{f:FuncId}{xs:Z VV}{r:D}(H:FCd P f xs r){avs:Z AV}(hx:Qf avs=O xs):CallC P f avs σ σ (.v (.sc (.dat r))):=by
 intro A B w0 w nm tmps vs R hvs;have after:∀w2,BelowX w.heap.size (QD w (Q2 A)) w2→BelowX B w0 w2:=fun w2 h=>R.below.afterZ rfl h R.size R.there (fun b hb=>(XS hb).elim) fun b ⟨⟨C,hC⟩,_⟩=> .inr (R.all.vol b C hC).1
 refine(H w (Q2 A) vs (fun w2 h=>R.good w2 (after w2 h)) (eL R hvs hx)).mono fun e w' h=> ?_
 obtain⟨v,rfl,hv,hb⟩:=h;have hsame:∀b,b<w.heap.size→¬w0.vv b→w'.heap[b]?=w.heap[b]?:=fun b hlt hn=>hb.block b hlt (fun h=>XS h) fun⟨⟨C,hC⟩,_⟩=>hn (R.all.vol b C hC).1
 have hnm:∀i b,nm i=O b→¬w0.vv b:=fun i b hi hv=>by
  rcases(R.names i b hi).1 with h1|h1
  ·have:=R.below.vlt b hv; omega
  ·exact w0.no b hv h1
 have hview:∀b C,A9 A nm w b C→A9 A nm w' b C:=by
  rintro b C ⟨h1,c,t,fr,hA,h2,h3⟩
  exact⟨h1,c,t,fr,hA,(hsame b (DM h2) fun hv=>R.all.vout b fr hv hA).trans h2,h3⟩
 refine⟨v,nm,zE,?_,.v (.sc (.dat (hv.mono Gm)))⟩;refine R.carry (f:=fun c=>c) (after w' hb) (zN R.size hb.size) (fun i b hi=> ?_) R.inj (fun _ _=>rfl) (fun k=>by rw[AV.mapId]) (fun id=>by simp) (fun id cs _ b hbn=>⟨hbn,hsame b (R.names _ _ hbn).2 (hnm _ _ hbn)⟩) (fun c v _ hr=> ?_)
 ·obtain⟨h1,h2⟩:=R.names i b hi;exact⟨h1,zS h2 hb.size⟩
 ·exact hr.move hview (fun id _=> .inr ⟨zE,zE,fun b hbn=>hsame b (R.names _ _ hbn).2 (hnm _ _ hbn)⟩) (fun id _ b hbn=>hbn)
end
def AC.wipe:AC→AC
 | .dat d=>bif d.fl then .dat d else .undef
 | .mix _=> .undef
 | c=>c
def AC.isOld:AC→zB
 | .old _=>T
 | _=>F
section
variable {P : Program} {A : Ar} {B : zC} {w0 : Base} {w : World} {nm : Aa} {σ : St} {tmps : Array Value}
theorem Rel.isNewB(R:Rel A B w0 nm σ tmps w){id:zC}{cs:Z AC}(hf:A1 σ.bx id=O cs)(h:cs.any AC.isOld=T):A.new=T:=by
 obtain⟨b,C,t,_,_,H⟩:=R.bxs id cs hf;obtain⟨c,hc,ho⟩:=List.any_eq_true.1 h;cases c<;>simp[AC.isOld] at ho
 rename_i d
 have key:∀{cs:Z AC} {vs:Z Value},CRels (cx A nm σ w) cs vs→ .old d∈cs→A.new=T:=by
  intro cs vs h
  induction h with
  | nil=>intro hm; cases hm
  | cons a b ih=>
   intro hm;rcases zR.1 hm with rfl|hm
   ·cases a with | old hn _=>exact hn
   ·exact ih hm
 exact key H hc
end
section
variable {σ : St}
theorem yb{rs:Rows}{es:Z (Z D)}:Ep rs (.v (.sc (.old (.sl es))))=O (.v (.sc (.dat (.int .i64 es.length)))):=rfl
theorem yf{rs:Rows}{es:Z (Z D)}:Ep rs (.v (.sc (.vol (.sl es))))=O (.v (.sc (.dat (.int .i64 es.length)))):=rfl
theorem vb{α:Type}{rs:Rows}{sz:zC}{xs:Z α}{row:α→Z D} [Row row sz]{kd:IntKind}{i:zA}:Da rs sz (.v (.sc (.old (.sl (zH row xs))))) (.v (.sc (.dat (.int kd i))))=(ix xs i).map fun x=> .v (.sc (.old (.pd (row x)))):=by
 simp only[Da,Sb];cases ix xs i with
 | none=>rfl
 | some x=>simp[Row.len (row:=row) (sz:=sz),Row.pos row]
theorem vg{α:Type}{rs:Rows}{sz:zC}{xs:Z α}{row:α→Z D} [Row row sz]{kd:IntKind}{i:zA}:Da rs sz (.v (.sc (.vol (.sl (zH row xs))))) (.v (.sc (.dat (.int kd i))))=(ix xs i).map fun x=> .v (.sc (.vol (.pd (row x)))):=by
 simp only[Da,Sb];cases ix xs i with
 | none=>rfl
 | some x=>simp[Row.len (row:=row) (sz:=sz),Row.pos row]
theorem yp{g:zB}{n:zC}{cs:Z D}:CL σ g n (.v (.sc (.old (.pd cs))))=CV (zH CM cs) 0 g n:=rfl
theorem yw{n:zC}{es:Z (Z D)}{cs:Z D}:CL σ F n (.v (.sc (.vol (.pd (.sl es::cs)))))=O (.v (.sc (.vol (.sl es)))):=rfl
theorem sE{rs:Rows}{off:zC}{cs:Z D}:Cs rs off (.v (.sc (.old (.pd cs))))=(DD off cs).map fun cs=> .v (.sc (.old (.pd cs))):=by
 simp only[Cs,MV];split<;>rfl
theorem sI{rs:Rows}{off:zC}{cs:Z D}:Cs rs off (.v (.sc (.vol (.pd cs))))=(DD off cs).map fun cs=> .v (.sc (.vol (.pd cs))):=by
 simp only[Cs,MV];split<;>rfl
theorem A0f{cs:Z D}:Gl (.v (.sc (.old (.pd cs))))=O (.v (.sc (.old (.pd cs)))):=rfl
theorem A0j{cs:Z D}:Gl (.v (.sc (.vol (.pd cs))))=O (.v (.sc (.vol (.pd cs)))):=rfl
theorem A4e{k:IntKind}{n m:zA}{cs:Z D}:St.storeV σ 1 (.v (.sc (.vol (.pd (.int k n::cs))))) (.v (.sc (.dat (.int k m))))=O σ:=by cases k<;>rfl
theorem A4d{n m:zB}{cs:Z D}:St.storeV σ 1 (.v (.sc (.vol (.pd (.bool n::cs))))) (.v (.sc (.dat (.bool m))))=O σ:=rfl
theorem A4f{n m:Z zD}{cs:Z D}:St.storeV σ 1 (.v (.sc (.vol (.pd (.str n::cs))))) (.v (.sc (.dat (.str m))))=O σ:=rfl
theorem A0r{k:IntKind}{n:zA}:CM (.int k n)= .dat (.int k n):=rfl
theorem A0q{b:zB}:CM (.bool b)= .dat (.bool b):=rfl
theorem A0t{s:Z zD}:CM (.str s)= .dat (.str s):=rfl
theorem A0s{es:Z (Z D)}:CM (.sl es)= .old (.sl es):=rfl
theorem A0v:zH CM []= []:=rfl
theorem A0u{d:D}{ds:Z D}:zH CM (d::ds)=CM d::zH CM ds:=rfl
theorem A55:zH AC.vol []= []:=rfl
theorem A54{d:D}{ds:Z D}:zH AC.vol (d::ds)= .vol d::zH AC.vol ds:=rfl
theorem xR{id:zC}{d:D}:AC.kill id (.old d)= .old d:=rfl
theorem xV{id:zC}{d:D}:AC.kill id (.vol d)= .vol d:=rfl
theorem ss{id:zC}{es:Z (Z D)}{d:D}:AC.frz id es (.old d)= .old d:=rfl
theorem sw{id:zC}{es:Z (Z D)}{d:D}:AC.frz id es (.vol d)= .vol d:=rfl
theorem A8n{k:IntKind}{n:zA}:AC.wipe (.dat (.int k n))= .dat (.int k n):=rfl
theorem A8l{b:zB}:AC.wipe (.dat (.bool b))= .dat (.bool b):=rfl
theorem A8u{s:Z zD}:AC.wipe (.dat (.str s))= .dat (.str s):=rfl
theorem A8o{es:Z (Z D)}:AC.wipe (.dat (.sl es))= .undef:=rfl
theorem A8t{cs:Z D}:AC.wipe (.dat (.pd cs))= .undef:=rfl
theorem A8v:AC.wipe .undef= .undef:=rfl
theorem A8q:AC.wipe .nil= .nil:=rfl
theorem A8r{id:zC}:AC.wipe (.own id)= .own id:=rfl
theorem A8m{id o:zC}:AC.wipe (.pb id o)= .pb id o:=rfl
theorem A8s{d:D}:AC.wipe (.old d)= .old d:=rfl
theorem mK{N:Z zC}{d:D}:AV.avoids N (.v (.sc (.old d)))=T:=by simp[AV.avoids,AV.cells,V1.cells,AC.avoids,AC.uses]
end
def A2o:=zF @yb (zF @yf (zF @vb (zF @vg (zF @yp (zF @yw (zF @sE (zF @sI (zF @A0f (zF @A0j (zF @A4e (zF @A4d (zF @A4f (zF @A0r (zF @A0q (zF @A0t (zF @A0s (zF @A0v (zF @A0u (zF @A55 (zF @A54 (zF @xR (zF @xV (zF @ss (zF @sw (zF @A8n (zF @A8l (zF @A8u (zF @A8o (zF @A8t (zF @A8v (zF @A8q (zF @A8r (zF @A8m (zF @A8s @mK))))))))))))))))))))))))))))))))))
end
section
section
variable {P : Program} {k : Z Fr} {Q : Xl → St → Prop} {σ : St} {its : Z AItem}
theorem Pc{d:zC}{x i:Opd}{len id:zC}{kd:IntKind}{n:zA}(hx:σ.val x= .v (.sc (.pb id 0)))(hi:σ.val i= .v (.sc (.dat (.int kd n))))(h:(decide (0≤n)&&decide (n<(len:zA)))=T)
  (H:go P (.ops its::k) Q .normal (O (σ.set d (.v (.sc (.pb id n.toNat)))))):go P (.ops ((U,.aaddr d x i len 1)::its)::k) Q .normal (O σ):=by
 simp only[zQ,decide_eq_true_eq] at h;rw[tL,hx,hi];simp only[MG,h,and_self,if_true,Nat.zero_add,Nat.mul_one];exact H
end
theorem Fs{n:zA}{m:zC}(h:(decide (0≤n)&&decide (n<(m:zA)))=T):n.toNat<m:=by
 simp only[zQ,decide_eq_true_eq] at h;omega
theorem Tu{cs:Z AC}{n:zC}(h:n<cs.length):C8 cs (n+1)=T:=by
 rw[PL];exact decide_eq_true h
theorem Tv{c:AC}{cs:Z AC}{n:zC}(h:n<(c::cs).length):C8 cs n=T:=by
 rw[PL];exact decide_eq_true (Nat.le_of_lt_succ h)
theorem XO{bs:Z zB}{n:zC}{b:zB}(h:bs[n]?=O b):(bs.map fun b=>AC.dat (.bool b))[n]?=O (.dat (.bool b)):=by simp[h]
end
section
def Tj(w w':World)(A:B9)(p:zC)(bs:Z (I zC)):A6:=Ai (fun b fr=>(O b∉bs∧b≠p)∧((w.heap.size≤b∧fr=(0,0))∨A b fr)) w'
def FCo(P:Program)(f:FuncId)(xs:Z YV)(cs0 cs1:Z D)(rs:Z R1):Prop:=
 ∀(w:World) (A:B9) (p:zC) (vs:Z Value),(∀w2,BelowX w.heap.size (.of w (Cm p)) w2→GoodW w2)→p<w.heap.size→(∀fr,¬A p fr)→Kq (Ai A w) w p cs0→YVRels (Ai A w) p xs vs→Calls P f vs.toArray w fun e w'=>
  ∃(v:Value) (bs:Z (I zC)),e= .returned v∧BelowX w.heap.size (.of w (Cm p)) w'∧Kq (Tj w w' A p bs) w' p cs1∧RRel (Tj w w' A p bs) w' rs v bs∧
   (∀b,O b∈bs→w.heap.size≤b∧b<w'.heap.size)∧(∀(i j b:zC),bs[i]?=O (O b)→bs[j]?=O (O b)→i=j)
section
variable {P : Program} {A : Ar} {B : zC} {w0 : Base} {w : World} {nm : Aa} {σ : St} {tmps : Array Value}
theorem FCo.callC{f:FuncId}{xs:Z YV}{cs0 cs1:Z D}{rs:Z R1}(H:FCo P f xs cs0 cs1 rs){id d:zC}{avs:Z AV}(hx:E1 id avs=O xs)(hb:A1 σ.bx id=O (cs0.map .dat))(hf:σ.fresh d=T)(h64:(rs.flatMap R1.cells).length≤64) :
  CallC P f avs σ {σ with bx:=put σ.bx id (cs1.map .dat),rows:=Bi σ.rows (BH d rs)} (BK d rs):=by
 intro A B w0 w nm tmps vs R hvs;obtain⟨p,C,t,h1,h2,h3⟩:=R.bxs id _ hb;have h1':nm (2*id)=O p:=h1;have hpl:=(R.names _ _ h1').2;obtain⟨k1,k2⟩:=CRels.reps h3;refine(H w (fun b fr=>(∀i,nm i≠O b)∧A b fr) p vs (fun w2 hb2=>R.good w2 (R.below.after hb2 R.size R.there fun i b e=> ?_)) hpl (fun _ h=>h.1 _ h1') ⟨C,t,h2,by rw[E2]; exact k1,k2⟩ (by rw[E2]; exact SR h1' hvs hx)).mono fun e w' h=> ?_
 ·obtain⟨_,rfl⟩:=HO e;exact(R.names _ _ h1').1
 obtain⟨v,bs,rfl,g1,g2,g3,hn,hdis⟩:=h
 have hM:∀b,Base.M (.of w (Cm p)) b→b=p:=fun b hmm=>by
  obtain⟨i,_,e⟩:=Base.of_M hmm;exact(HO e).2.symm
 have hsame:∀b,b<w.heap.size→b≠p→w'.heap[b]?=w.heap[b]?:=fun b hlt h=>g1.block b hlt (fun hm=>h (hM b hm)) fun hv=>hv.elim
 have hsz:w.heap.size≤w'.heap.size:=g1.size;have hpw:p<w'.heap.size:=zS hpl hsz;let w1:World:={w' with heap:=w'.heap.setIfInBounds p (w.heap[p])}
 have hw1:∀b,b≠p→w1.heap[b]?=w'.heap[b]?:=fun b hb=>by
  show(w'.heap.setIfInBounds p _)[b]?=_
  rw[Array.getElem?_setIfInBounds_ne (Ne.symm hb)]
 have hw1p:w1.heap[p]?=w.heap[p]?:=by
  show(w'.heap.setIfInBounds p _)[p]?=_
  rw[Array.getElem?_setIfInBounds_self_of_lt hpw,Array.getElem?_eq_getElem hpl]
 have hw1s:w1.heap.size=w'.heap.size:=by show(w'.heap.setIfInBounds p _).size=_; simp
 have hbel:RowKit.Below w.heap.size w w1:=⟨g1.os,g1.tape,g1.output,by rw[hw1s]; exact hsz,fun k hk=>by
  by_cases hkp:k=p
  ·subst hkp; exact hw1p
  ·rw[hw1 k hkp]; exact hsame k hk hkp⟩
 let inst:Aa:=fun n=>if n % 2=1 then(bs[(n / 2) % 64]?).join else U
 have hinst:∀n b,inst n=O b→n % 2=1∧bs[(n / 2) % 64]?=O (O b):=by
  intro n b h;simp only[inst] at h;split at h
  ·rename_i h1
   refine⟨h1,?_⟩;cases hq:bs[(n / 2) % 64]? with
   | none=>rw[hq] at h; cases h
   | some q=>rw[hq] at h; simp at h; rw[h]
  ·cases h
 have hl:=g3.len
 have R1:=R.grow hf hbel inst (Bi σ.rows (BH d rs)) (fun n b _ h=>by rw[hw1s]; exact hn b (zK (hinst n b h).2)) (fun n m b h1 h2 h3 h4=>by
   obtain⟨k1,k2⟩:=hinst n b h3;obtain⟨k3,k4⟩:=hinst m b h4;have:=hdis _ _ _ k2 k4;unfold C5 at h1 h2
   omega) (fun id hid=>RH _ _ _ _ _ (by omega) hid)
 have hfew:=St.fresh_few hf;have hne:id≠d:=St.fresh_bx hf hb
 have hp1:AP d inst nm (2*id)=O p:=by
  unfold AP;rw[if_neg (by unfold C5; omega)];exact h1'
 have hname:∀b,(O b∉bs∧b≠p)→∀i,(∀j,nm j≠O b)∨w.heap.size≤b→AP d inst nm i≠O b:=fun b hb i hor=>by
  unfold AP;split
  ·intro e; exact hb.1 (zK (hinst i b e).2)
  ·intro e;rcases hor with h|h
   ·exact h i e
   ·have:=(R.names i b e).2; omega
 have hview:∀b C,Tj w w' (fun b fr=>(∀i,nm i≠O b)∧A b fr) p bs b C→(∀i,AP d inst nm i≠O b)∧∃c t fr,(b≠p∧A b fr)∧w'.heap[b]?=O (.cells c t fr)∧c.toList=C:=by
  rintro b C ⟨cc,tt,fr,⟨q1,q2⟩,q3⟩
  rcases q2 with ⟨q2,rfl⟩|q2
  ·exact⟨fun i=>hname b q1 i (.inr q2),cc,tt,_,⟨q1.2,R.all.all b (.inl (zN R.size q2))⟩,q3⟩
  ·exact⟨fun i=>hname b q1 i (.inl q2.1),cc,tt,fr,⟨q1.2,q2.2⟩,q3⟩
 obtain⟨C1,t1,e1,e2,e3⟩:=g2
 have hbx1:BelowX w1.heap.size (.of w1 (Cm p)) w':=by
  refine⟨zE,zE,zE,by rw[show(Base.of w1 (Cm p)).w=w1 from zE,hw1s]; exact yL _,fun k hk hm _=> ?_,fun k hm C t fr hC=> ?_,fun k hv=>hv.elim,fun k hv=>hv.elim⟩
  ·have hkp:k≠p:=fun e=>hm (.inl ⟨199999999998,by unfold AG; omega,by rw[e]; exact(show Cm p 199999999998=O p from if_pos rfl)⟩)
   exact(hw1 k hkp).symm
  ·obtain⟨i,_,e⟩:=Base.of_M hm;obtain⟨_,rfl⟩:=HO e;have hC':w.heap[p]?=O (.cells C t fr):=hw1p.symm.trans hC;exact g1.room p (.inl ⟨199999999998,by unfold AG; omega,(show Cm p 199999999998=O p from if_pos zE)⟩) C t fr hC'
 have R2:=XU R1 hp1 hbx1 ⟨C1,t1,e1,e2.mono fun b C hb2=>by
   obtain⟨q1,cc,tt,fr,q2,q3⟩:=hview b C hb2;exact⟨cc,tt,fr,⟨q2.1,.inr ⟨q1,q2.2⟩⟩,q3⟩,e3⟩
 refine⟨v,AP d inst nm,zE,R2,?_⟩;refine UM (g3.conv fun c _=> .inl fun b C hb2=> ?_) fun i=>⟨fun sz es e=> ?_,fun b e=> ?_⟩
 ·obtain⟨q1,cc,tt,fr,q2,q3⟩:=hview b C hb2;exact⟨q1,cc,tt,fr,q2.2,q3⟩
 ·exact RG _ _ _ _ _ _ _ e
 ·have hi:i<64:=by have:=(zJ.1 e).1; omega
  show AP d inst nm (2*(d*64+(0+i))+1)=b
  unfold AP;rw[if_pos (.inr (by omega))];simp only[inst];rw[if_pos (by omega),show(2*(d*64+(0+i))+1) / 2 % 64=i by omega,e];rfl
end
section
variable {P : Program}
end
def RC.asV:RC→RC
 | .v d=> .v d
 | .o _ es=> .v (.sl es)
def R1.asV:R1→R1
 | .sc c=> .sc c.asV
 | .ag cs=> .ag (cs.map RC.asV)
theorem RCRel.asV{h h':A6}{w:World}{c:RC}{v:Value}{b:I zC}(H:RCRel h w c v b)(hh:∀b C,h b C→h' b C)(hb:∀k,b=O k→∀C t,w.heap[k]?=O (.cells C t (0,0))→h' k C.toList):RCRel h' w c.asV v U:=by
 cases H with
 | v hd=>exact .v (hd.mono hh)
 | nil=>exact .v .nil
 | o own hl=>
  obtain⟨pos,room,small,C,t,h1,h2,h3⟩:=own;exact .v (.sl (hb _ zE C t h1) pos (by simpa using h3.mono hh) hl (by omega) small)
theorem RCRels.asV{h h':A6}{w:World}(hh:∀b C,h b C→h' b C):∀{cs:Z RC} {vs:Z Value} {bs:Z (I zC)},RCRels h w cs vs bs→(∀k,O k∈bs→∀C t,w.heap[k]?=O (.cells C t (0,0))→h' k C.toList)→RCRels h' w (cs.map RC.asV) vs (bs.map fun _=>U)
 | _,_,_,.nil,_=> .nil
 | _,_,_,.cons a b,hb=> .cons (a.asV hh fun k e=>hb k (by rw[e]; exact zP)) (RCRels.asV hh b fun k hk=>hb k (zO _ hk))
theorem R1Rel.asV{h h':A6}{w:World}(hh:∀b C,h b C→h' b C){r:R1}{v:Value}{bs:Z (I zC)}(H:R1Rel h w r v bs)(hb:∀k,O k∈bs→∀C t,w.heap[k]?=O (.cells C t (0,0))→h' k C.toList):R1Rel h' w r.asV v (bs.map fun _=>U):=by
 cases H with
 | sc a=>exact .sc (a.asV hh fun k e=>hb k (by rw[e]; exact zP))
 | ag a=>exact .ag (a.asV hh hb)
theorem R1Rels.asV{h h':A6}{w:World}(hh:∀b C,h b C→h' b C):∀{rs:Z R1} {vs:Z Value} {bs:Z (I zC)},R1Rels h w rs vs bs→(∀k,O k∈bs→∀C t,w.heap[k]?=O (.cells C t (0,0))→h' k C.toList)→R1Rels h' w (rs.map R1.asV) vs (bs.map fun _=>U)
 | _,_,_,.nil,_=> .nil
 | _,_,_,.cons a b,hb=>by
  rw[yG];exact .cons (a.asV hh fun k hk=>hb k (List.mem_append_left _ hk)) (R1Rels.asV hh b fun k hk=>hb k (List.mem_append_right _ hk))
theorem RRel.asV{h h':A6}{w:World}(hh:∀b C,h b C→h' b C){rs:Z R1}{v:Value}{bs:Z (I zC)}(H:RRel h w rs v bs)(hb:∀k,O k∈bs→∀C t,w.heap[k]?=O (.cells C t (0,0))→h' k C.toList):RRel h' w (rs.map R1.asV) v (bs.map fun _=>U):=by
 cases H with
 | one a=>exact .one (a.asV hh hb)
 | many h a=>exact .many (by simpa using h) (a.asV hh hb)
theorem HN{bs:Z (I zC)}{b:zC}:O b∉bs.map fun _=>(U:I zC):=by simp
theorem FC.asV{P:Program}{f:FuncId}{ds:Z DV}{rs rs':Z R1}(H:FC P f ds rs)(e:rs.map R1.asV=rs'):FC P f ds rs':=by
 subst e;intro w A vs hG hvs;refine(H w A vs hG hvs).mono fun e w' h=> ?_
 obtain⟨v,bs,rfl,h2,h3,h4,_⟩:=h;refine⟨v,bs.map fun _=>U,zE,h2,h3.asV (fun b C ⟨c,t,fr,⟨_,k2⟩,k3⟩=>⟨c,t,fr,⟨HN,k2⟩,k3⟩) (fun k hk C t hC=>⟨C,t,_,⟨HN,.inl ⟨(h4 k hk).1,zE⟩⟩,hC,zE⟩),fun b hb=>absurd hb HN,fun i j b hi _=> ?_⟩;have:=zK hi;exact absurd this HN
end
section
inductive TV where
 | d (x:DV)
 | r
inductive TVRel (h:A6) (w:World) (o:I zC) (sz:zC) (es:Z (Z D)):TV→Value→Prop
 | d {x v}:DVRel h x v→TVRel h w o sz es (.d x) v
 | r {v}:RCRel h w (.o sz es) v o→TVRel h w o sz es .r v
inductive TVRels (h:A6) (w:World) (o:I zC) (sz:zC) (es:Z (Z D)):Z TV→Z Value→Prop
 | nil:TVRels h w o sz es [] []
 | cons {x v xs vs}:TVRel h w o sz es x v→TVRels h w o sz es xs vs→TVRels h w o sz es (x::xs) (v::vs)
theorem TVRels.len{h:A6}{w:World}{o:I zC}{sz:zC}{es:Z (Z D)}:∀{xs vs},TVRels h w o sz es xs vs→xs.length=vs.length
 | _,_,.nil=>rfl
 | _,_,.cons _ b=>by simp[b.len]
theorem TVRels.get{h:A6}{w:World}{o:I zC}{sz:zC}{es:Z (Z D)}:∀{xs:Z TV} {vs:Z Value} (i:zC) {x:TV} {v:Value},TVRels h w o sz es xs vs→xs[i]?=O x→vs[i]?=O v→TVRel h w o sz es x v
 | _,_,_,_,_,.nil,hd,_=>by simp at hd
 | _,_,0,_,_,.cons a _,hd,hv=>by simp at hd hv; subst hd hv; exact a
 | _,_,i+1,_,_,.cons _ b,hd,hv=>TVRels.get i b (by simpa using hd) (by simpa using hv)
def GE(w:World)(o:I zC):Base:=⟨w,fun _=>U,fun b=>o=O b∧b<w.heap.size,fun _ h=>h.2,fun _=>False,fun _ h=>h.elim⟩
theorem Tw{w:World}{o:I zC}{b:zC}(h:(GE w o).M b):o=O b:=h.elim (fun⟨_,_,e⟩=>by cases e) fun h=>h.1
def FCt(P:Program)(f:FuncId)(xs:Z TV)(sz:zC)(es0 es1:Z (Z D)):Prop:=
 ∀(w:World) (A:B9) (vs:Z Value) (o:I zC),(∀b,o=O b→b<w.heap.size∧∀fr,¬A b fr)→(∀w2,BelowX w.heap.size (GE w o) w2→GoodW w2)→TVRels (Ai A w) w o sz es0 xs vs→Calls P f vs.toArray w fun e w'=>
  ∃(v:Value) (o':I zC),e= .returned v∧(∀b,o'=O b→(w.heap.size≤b∨o=O b)∧b<w'.heap.size)∧BelowX w.heap.size (GE w o) w'∧
   RCRel (Ai (fun b fr=>o'≠O b∧((w.heap.size≤b∧fr=(0,0))∨A b fr∨(o=O b∧fr=(0,0)))) w') w' (.o sz es1) v o'
def VJ(id:zC):AV→I TV
 | .v (.sc (.own k))=>bif k==id then O .r else U
 | x=>(Kj x).map .d
def Mz(id:zC):Z AV→I (Z TV)
 | []=>O []
 | x::xs=>match VJ id x,Mz id xs with
  | some y,O ys=>O (y::ys)
  | _,_=>U
section
variable {P : Program} {A : Ar} {B : zC} {w0 : Base} {w : World} {nm : Aa} {σ : St} {tmps : Array Value}
theorem PW{X:Cx}{id sz:zC}{es:Z (Z D)}{v:Value}(H:CRel X (.own id) v)(hf:A1 X.rs id=O (sz,es)):RCRel X.h X.w (.o sz es) v (X.nm (2*id+1)):=by
 rcases H.inv_own hf with ⟨rfl,k1,a0,rfl⟩|⟨b,cap,k1,k2,rfl⟩
 ·rw[k1]; exact .nil
 ·rw[k1]; exact .o k2 rfl
theorem A5h{id sz:zC}{es:Z (Z D)}(hf:A1 σ.rows id=O (sz,es)){av:AV}{v:Value}{x:TV}(H:VRel (cx A nm σ w) av v)(h:VJ id av=O x):TVRel (A9 A nm w) w (nm (2*id+1)) sz es x v:=by
 unfold VJ at h;split at h
 ·rename_i k
  by_cases hk:k=id
  ·subst hk;simp at h;subst h;exact .r (PW (X:=cx A nm σ w) H.inv_sc hf)
  ·have:(k==id)=F:=by simpa using hk
   simp[this] at h
 ·simp only[zG] at h;obtain⟨d,h1,rfl⟩:=h;exact .d (Mv (X:=cx A nm σ w) H h1)
theorem eI{id sz:zC}{es:Z (Z D)}(hf:A1 σ.rows id=O (sz,es)):∀{avs:Z AV} {vs:Z Value} {xs:Z TV},VsRel (cx A nm σ w) avs vs→Mz id avs=O xs→TVRels (A9 A nm w) w (nm (2*id+1)) sz es xs vs
 | [],vs,xs,H,h=>by
  simp[Mz] at h;subst h;obtain rfl:vs= []:=zL.1 H.1.symm;exact .nil
 | a::avs,vs,xs,H,h=>by
  unfold Mz at h;split at h
  ·rename_i x xs' h1 h2
   cases h;cases vs with
   | nil=>have:=H.1; simp at this
   | cons v vs=>
    exact .cons (A5h hf (H.2 0 a v zE zE) h1) (eI hf ⟨by have:=H.1; simpa using this,fun i u v hu hv=>H.2 (i+1) u v (by simpa using hu) (by simpa using hv)⟩ h2)
  ·cases h
def St.behindT(σ:St)(id d sz:zC)(es1:Z (Z D)):St:={σ.map (AC.kill id) with rows:=put (erase σ.rows [id]) (d*64) (sz,es1)}
theorem FCt.callC{f:FuncId}{xs:Z TV}{sz:zC}{es0 es1:Z (Z D)}(H:FCt P f xs sz es0 es1){id d:zC}{avs:Z AV}(hx:Mz id avs=O xs)(hf:A1 σ.rows id=O (sz,es0))(hfr:σ.fresh d=T)(hid:id<99999999999)(hne:id≠d*64) :
  CallC P f avs σ (σ.behindT id d sz es1) (.v (.sc (.own (d*64)))):=by
 intro A B w0 w nm tmps vs R hvs;have hM:∀b,(GE w (nm (2*id+1))).M b→nm (2*id+1)=O b:=fun b h=>Tw h
 refine(H w (fun b fr=>(∀i,nm i≠O b)∧A b fr) vs (nm (2*id+1)) (fun b e=>⟨(R.names _ _ e).2,fun _ h=>h.1 _ e⟩) (fun w2 hb2=>R.good w2 (R.below.afterZ zE hb2 R.size R.there (fun b hm=>(R.names _ _ (hM b hm)).1) fun b hv=>hv.elim)) (by rw[E2]; exact eI hf hvs hx)).mono fun e w' h=> ?_
 obtain⟨v,o',rfl,hn,hb,hr⟩:=h;have hfew:=St.fresh_few hfr;have hsame:∀b,b<w.heap.size→nm (2*id+1)≠O b→w'.heap[b]?=w.heap[b]?:=fun b hlt h=>hb.block b hlt (fun hm=>h (hM b hm)) fun hv=>hv.elim
 let nm':Aa:=fun n=>if n=2*id+1 then U else if n=2*(d*64)+1 then o' else nm n
 have hcas:∀n b,nm' n=O b→(n=2*(d*64)+1∧o'=O b)∨(n≠2*id+1∧n≠2*(d*64)+1∧nm n=O b):=fun n b h=>by
  simp only[nm'] at h;split at h
  ·cases h
  ·rename_i h1
   split at h
   ·rename_i h2; exact .inl ⟨h2,h⟩
   ·rename_i h2; exact .inr ⟨h1,h2,h⟩
 have hbel:BelowX B w0 w':=R.below.afterZ rfl hb R.size R.there (fun b hm=>(R.names _ _ (hM b hm)).1) fun b hv=>hv.elim
 have hview:∀b C,A9 A nm w b C→A9 A nm' w' b C:=CS fun b hlt hnb=>⟨fun i e=>by
  rcases hcas i b e with ⟨_,e2⟩|⟨_,_,e2⟩
  ·rcases(hn b e2).1 with h|h
   ·omega
   ·exact hnb _ h
  ·exact hnb i e2,hsame b hlt (hnb _)⟩
 have RK:=R.killed id
 have hrow:∀k,k≠id→k / 64≠d→A1 (σ.behindT id d sz es1).rows k=A1 σ.rows k:=fun k h1 h2=>by
  show A1 (put (erase σ.rows [id]) (d*64) (sz,es1)) k=_
  rw[Bn _ _ (by omega),Hy];have: [id].contains k=F:=by simpa using h1
  rw[this];rfl
 have hcell:∀c v,(σ.map (AC.kill id)).Uses c→CRel (cx A nm (σ.map (AC.kill id)) w) c v→CRel (cx A nm' (σ.behindT id d sz es1) w') c v:=fun c v hu H=>by
  obtain⟨c0,hu0,rfl⟩:=W4 hu
  have hfd:∀k,(AC.kill id c0).has k=T→k≠id∧k / 64≠d:=fun k hk=>by
   obtain⟨q1,q2⟩:=Ua hk;refine⟨q2,fun e=> ?_⟩;have:=W5 q1;rw[e,St.fresh_uses hfr hu0] at this
   cases this
  refine H.move hview (fun k hk=> .inr ?_) (fun k hk b hb2=> ?_)
  ·obtain⟨q1,q2⟩:=hfd k hk;refine⟨hrow k q1 q2,?_,fun b hbn=>hsame b (R.names _ b hbn).2 fun e=> ?_⟩
   ·show nm' (2*k+1)=nm (2*k+1)
    simp only[nm'];rw[if_neg (by omega),if_neg (by omega)]
   ·have:=R.inj _ _ _ hbn e;omega
  ·show nm' (2*k)=O b
   simp only[nm'];rw[if_neg (by omega),if_neg (by omega)];exact hb2
 have hv':∀b C,Ai (fun b fr=>o'≠O b∧((w.heap.size≤b∧fr=(0,0))∨((∀i,nm i≠O b)∧A b fr)∨(nm (2*id+1)=O b∧fr=(0,0)))) w' b C→A9 A nm' w' b C:=fun b C ⟨cc,tt,fr,⟨g1,g2⟩,g4⟩=>by
  refine⟨fun i e=> ?_,cc,tt,fr,?_,g4⟩
  ·rcases hcas i b e with ⟨_,e2⟩|⟨e1,_,e2⟩
   ·exact g1 e2
   ·rcases g2 with g2|g2|g2
    ·have:=(R.names i b e2).2; omega
    ·exact g2.1 i e2
    ·exact e1 (R.inj _ _ _ e2 g2.1)
  ·rcases g2 with ⟨g2,rfl⟩|g2|⟨g2,rfl⟩
   ·exact R.all.all b (.inl (zN R.size g2))
   ·exact g2.2
   ·exact R.all.all b (R.mine (by unfold AG; omega) g2)
 refine⟨v,nm',zE,⟨hbel,zN R.size hb.size,R.all,R.good,fun i b hi=> ?_,fun i j b hi hj=> ?_,fun i hi=> ?_,fun k=> ?_,fun k cs hcs=> ?_⟩,?_⟩
 ·rcases hcas i b hi with ⟨_,e2⟩|⟨_,_,e2⟩
  ·obtain⟨g1,g2⟩:=hn b e2;exact⟨g1.elim (fun h=> .inl (zN R.size h)) fun h=>(R.names _ _ h).1,g2⟩
  ·obtain⟨h1,h2⟩:=R.names i b e2;exact⟨h1,zS h2 hb.size⟩
 ·have old:∀k,k≠2*id+1→nm k=O b→o'=O b→False:=fun k hk e e2=>by
   rcases(hn b e2).1 with h|h
   ·have:=(R.names k b e).2; omega
   ·exact hk (R.inj _ _ _ e h)
  rcases hcas i b hi with ⟨i1,i2⟩|⟨i1,i3,i2⟩
  ·rcases hcas j b hj with ⟨j1,j2⟩|⟨j1,_,j2⟩
   ·omega
   ·exact(old j j1 j2 i2).elim
  ·rcases hcas j b hj with ⟨j1,j2⟩|⟨j1,_,j2⟩
   ·exact(old i i1 i2 j2).elim
   ·exact R.inj i j b i2 j2
 ·have:nm' i=nm i:=by
   simp only[nm'];unfold AG at hi
   rw[if_neg (by omega),if_neg (by omega)]
  exact this.trans (R.pin i hi)
 ·exact(RK.env k).to fun c v hc H=>hcell c v (.inl ⟨k,hc⟩) H
 ·obtain⟨b,C,t,h1,h2,h3⟩:=RK.bxs k cs hcs;have h1':nm (2*k)=O b:=h1;refine⟨b,C,t,?_,(hsame b (R.names _ _ h1').2 fun e=> ?_).trans h2,h3.to fun c v hc H=>hcell c v (.inr ⟨k,cs,hcs,hc⟩) H⟩
  ·show nm' (2*k)=O b
   simp only[nm'];rw[if_neg (by omega),if_neg (by omega)];exact h1'
  ·have:=R.inj _ _ _ h1' e;omega
 ·have hfd:A1 (cx A nm' (σ.behindT id d sz es1) w').rs (d*64)=O (sz,es1):=Bl _ _ _
  have hnd:(cx A nm' (σ.behindT id d sz es1) w').nm (2*(d*64)+1)=o':=by
   show nm' (2*(d*64)+1)=o'
   simp only[nm'];rw[if_neg (by omega)];simp
  cases hr with
  | nil=>exact .v (.sc (.ownNil hfd hnd))
  | o own hl=>exact .v (.sc (.own hfd hnd (Ka own hv') hl))
end
def TV.av:TV→AV
 | .d x=>x.av
 | .r=> .v (.sc (.own 90000))
def M6:zC→Z TV→Z (zC × AV)
 | _,[]=> []
 | k,x::xs=>(k,x.av)::M6 (k+1) xs
def St.initT(xs:Z TV)(sz:zC)(es0:Z (Z D)):St:=⟨M6 0 xs,[],[(90000,sz,es0)]⟩
theorem Yx:∀(ds:Z TV) (k i:zC),A1 (M6 k ds) i=if k≤i then(ds[i - k]?).map TV.av else U
 | [],k,i=>by simp[M6,A1]
 | d::ds,k,i=>by
  simp only[M6,A1];by_cases hk:k=i
  ·subst hk; simp
  ·have h':=Ce hk;rw[h',cond_false,Yx ds (k+1) i];by_cases h1:k≤i
   ·rw[if_pos (by omega),if_pos h1,show i - k=(i - (k+1))+1 by omega]; simp
   ·rw[if_neg (by omega),if_neg h1]
def DO(o:I zC):Aa:=fun i=>if i=180001 then o else U
theorem Sx{o:I zC}{i b:zC}(h:DO o i=O b):i=180001∧o=O b:=by
 unfold DO at h;split at h
 ·exact⟨by assumption,h⟩
 ·cases h
theorem wI{w:World}{A0:B9}{o:I zC}{xs:Z TV}{sz:zC}{es0:Z (Z D)}{vs:Z Value}(nt:zC)(ho:∀b,o=O b→b<w.heap.size∧∀fr,¬A0 b fr)(hG:∀w2,BelowX w.heap.size (GE w o) w2→GoodW w2)(h:TVRels (Ai A0 w) w o sz es0 xs vs) :
  Rel (.of fun b fr=>(w.heap.size≤b∧fr=(0,0))∨A0 b fr∨(o=O b∧fr=(0,0))) w.heap.size (GE w o) (DO o) (St.initT xs sz es0) (vs.toArray++Array.replicate (nt - vs.toArray.size) undef) w:=by
 have hv:∀b C,Ai A0 w b C→A9 (fun b fr=>(w.heap.size≤b∧fr=(0,0))∨A0 b fr∨(o=O b∧fr=(0,0))) (DO o) w b C:=fun b C ⟨cc,tt,fr,h0,h1⟩=>⟨fun i e=>by
  obtain⟨_,e2⟩:=Sx e;exact(ho b e2).2 _ h0,cc,tt,fr,.inr (.inl h0),h1⟩
 refine⟨BelowX.start _ _ (fun _ h=>h.elim),yL _,⟨fun b hb=>hb.elim (fun h=> .inl ⟨h,zE⟩) fun h=> .inr (.inr ⟨h.1,zE⟩),fun _ _ h=>h.elim,fun _ _ h=>h.elim,fun _ _ h=>h.elim,fun h=>by cases h⟩,hG,fun i b hi=> ?_,fun i j b hi hj=> ?_,fun i hi=> ?_,fun k=> ?_,fun id cs hcs=> ?_⟩
 ·obtain⟨_,e2⟩:=Sx hi;have:=(ho b e2).1;exact⟨.inr (.inr ⟨e2,this⟩),this⟩
 ·rw[(Sx hi).1,(Sx hj).1]
 ·show DO o i=U
  unfold DO;have hi:199999999998≤i:=hi;rw[if_neg (by omega)]
 ·unfold St.get;rw[show(St.initT xs sz es0).env=M6 0 xs from rfl,Yx xs 0 k];simp only[yR,if_true,yW];cases hd:xs[k]? with
  | none=>exact .undef
  | some x=>
   have hk:k<vs.length:=by rw[← h.len]; exact(zJ.1 hd).1
   have hvk:vs[k]?=O (vs[k]'hk):=zI hk
   have e:(vs.toArray++Array.replicate (nt - vs.toArray.size) undef).getD k undef=vs[k]'hk:=by
    rw[Array.getD_eq_getD_getElem?,Array.getElem?_append_left (by simpa using hk)];simp[hk]
   rw[e];have hr:=TVRels.get k h hd hvk;revert hr
   generalize vs[k]'hk=z
   intro hr;have hfd:A1 (cx (.of fun b fr=>(w.heap.size≤b∧fr=(0,0))∨A0 b fr∨(o=O b∧fr=(0,0))) (DO o) (St.initT xs sz es0) w).rs 90000=O (sz,es0):=by simp[cx,St.initT,A1]
   have hnd:(cx (.of fun b fr=>(w.heap.size≤b∧fr=(0,0))∨A0 b fr∨(o=O b∧fr=(0,0))) (DO o) (St.initT xs sz es0) w).nm (2*90000+1)=o:=by
    show DO o (2*90000+1)=o
    simp[DO]
   cases hr with
   | d hr=>exact DVRel.vrel (X:=cx (.of fun b fr=>(w.heap.size≤b∧fr=(0,0))∨A0 b fr∨(o=O b∧fr=(0,0))) (DO o) (St.initT xs sz es0) w) (hr.mono hv)
   | r hr=>
    cases hr with
    | nil=>exact .v (.sc (.ownNil hfd hnd))
    | o own hl=>exact .v (.sc (.own hfd hnd (Ka own hv) hl))
 ·cases hcs
def GA(ts:Z RV)(sz:zC)(es1:Z (Z D))(e:Xl)(σ:St):Prop:=
 match e with
 | .exit _=>False
 | .pan _=>False
 | _=>OutVs σ ts [.sc (.o sz es1)]
section
variable {P : Program}
theorem gX(hm:P.follows .mixedOrders=T){f:FuncId}{c:Xg}{ts:Z RV}{nt:zC}{xs:Z TV}{sz:zC}{es0 es1:Z (Z D)}(he:AE P f=O (c.strip,ts,nt))(hl:xs.length≤nt)(h:B5 P c (GA ts sz es1) (St.initT xs sz es0)):FCt P f xs sz es0 es1:=by
 unfold AE at he
 split at he
 ·rename_i fn hf
  split at he
  ·rename_i C ts' hb hr
   simp only[zG] at he
   obtain⟨c',hc,e⟩:=he;cases e;intro w A0 vs o ho hG hvs;refine calls_of_wp hf hb ?_;have hlv:=hvs.len;refine wp_mono (Ic (df:= []) hm c C _ (DO o) (St.initT xs sz es0) _ w hc h (wI fn.ntmps ho hG hvs) (by simp; omega) zE) fun e a w' hq=> ?_
   obtain⟨e',nm,σ,he,hq,R,hnt,hdf⟩:=hq
   have key:OutVs σ ts [.sc (.o sz es1)]→a.defers= []∧∃v,(results fn a.tmps).run P w'= .ok v w'∧∃(v':Value) (o':I zC),Ending.returned v= .returned v'∧(∀b,o'=O b→(w.heap.size≤b∨o=O b)∧b<w'.heap.size)∧BelowX w.heap.size (GE w o) w'∧
     RCRel (Ai (fun b fr=>o'≠O b∧((w.heap.size≤b∧fr=(0,0))∨A0 b fr∨(o=O b∧fr=(0,0)))) w') w' (.o sz es1) v' o':=by
    intro hout;let bs:=(D1 σ ts [.sc (.o sz es1)]).map (Ba nm)
    have hbs:∀b,O b∈bs→∃id,nm (2*id+1)=O b:=by
     intro b hb;obtain⟨q,_,hb⟩:=zV.1 hb;cases q with
     | none=>simp[Ba] at hb
     | some id=>exact⟨id,hb⟩
    have hview:∀b C,A9 (fun b fr=>(w.heap.size≤b∧fr=(0,0))∨A0 b fr∨(o=O b∧fr=(0,0))) nm w' b C→Ai (fun b fr=>O b∉bs∧((w.heap.size≤b∧fr=(0,0))∨A0 b fr∨(o=O b∧fr=(0,0)))) w' b C:=fun b C ⟨g1,cc,tt,fr,g2,g3⟩=>⟨cc,tt,fr,⟨fun hm2=>by
     obtain⟨id,e⟩:=hbs b hm2;exact g1 _ e,g2⟩,g3⟩
    obtain⟨vs',hrun,hvl,hrel⟩:=HR (P:=P) (f:=fun | .tmp t=>pure (a.tmps.getD t undef) | .cell c t=>do loadVar t (← asAddr (a.tmps.getD c undef))) R hview (fun _=>rfl) (fun _ _=>rfl) hr hout;have h1:vs'.length=1:=by rw[hvl,← hout.len]; rfl
    obtain⟨v1,rfl⟩:=zT.1 h1
    have hrc:∃o',bs= [o']∧RCRel (Ai (fun b fr=>O b∉bs∧((w.heap.size≤b∧fr=(0,0))∨A0 b fr∨(o=O b∧fr=(0,0)))) w') w' (.o sz es1) v1 o':=by
     revert hrel
     show R1Rels _ _ _ [v1] bs→_
     generalize hgen:(Ai (fun b fr=>O b∉bs∧((w.heap.size≤b∧fr=(0,0))∨A0 b fr∨(o=O b∧fr=(0,0)))) w')=V
     clear hgen hview hbs
     generalize bs=q
     intro hrel;cases hrel with | cons x y=>
     cases y;cases x with | sc x=>exact⟨_,by simp,x⟩
    obtain⟨o',hb1,hrc⟩:=hrc;rw[hb1] at hrc hbs
    refine⟨hdf,v1,?_,v1,o',zE,fun b hb=> ?_,R.below,?_⟩
    ·unfold results;rw[← Array.toArray_toList (xs:=fn.results)];simp only[yJ,Sem.run_bind,map_eq_pure_bind];erw [hrun]
     simp only[Result.andThen_ok,Sem.run_pure];simp
    ·obtain⟨id,e⟩:=hbs b (by simp[hb]);obtain⟨q1,q2⟩:=R.names _ _ e;exact⟨q1.imp (fun h=>h) fun h=>Tw h,q2⟩
    ·have hvv:∀b C,Ai (fun b fr=>O b∉ [o']∧((w.heap.size≤b∧fr=(0,0))∨A0 b fr∨(o=O b∧fr=(0,0)))) w' b C→Ai (fun b fr=>o'≠O b∧((w.heap.size≤b∧fr=(0,0))∨A0 b fr∨(o=O b∧fr=(0,0)))) w' b C:=fun b C ⟨cc,tt,fr,⟨g1,g2⟩,g3⟩=>⟨cc,tt,fr,⟨fun e=>g1 (by simp[e]),g2⟩,g3⟩
     cases hrc with
     | nil=>exact .nil
     | o own hl=>exact .o (Ka own hvv) hl
   cases e' with
   | normal=>obtain rfl:e= .normal:=he; exact key hq
   | ret=>obtain rfl:e= .ret:=he; exact key hq
   | exit id=>exact hq.elim
   | pan d=>exact hq.elim
  ·cases he
 ·cases he
theorem T7(hm:P.follows .mixedOrders=T){f nt:zC}{c:Xg}{ts:Z RV}{xs:Z TV}{sz:zC}{es0 es1:Z (Z D)}{σ:St}(he:AE P f=O (c.strip,ts,nt))(hl:zY xs.length nt=T)(hσ:St.initT xs sz es0=σ)(h:go P [.code c] (GA ts sz es1) .normal (O σ)):FCt P f xs sz es0 es1:=
 gX hm he (zM hl) (hσ▸JV h)
theorem U4{k:Z Fr}{Q:Xl→St→Prop}{σ:St}{its:Z AItem}{d f:zC}{args:Z Opd}{xs:Z TV}{sz:zC}{es0 es1:Z (Z D)}(hf:FCt P f xs sz es0 es1)(id:zC)(hx:Mz id (args.map σ.val)=O xs)(hr:A1 σ.rows id=O (sz,es0))(hfr:σ.fresh d=T)(hid:Nat.blt id 99999999999=T)(hne:(id==d*64)=F)
  (h:go P (.ops its::k) Q .normal (O ((σ.behindT id d sz es1).set d (.v (.sc (.own (d*64))))))):go P (.ops ((U,.call d f args)::its)::k) Q .normal (O σ):=
 LZ (hf.callC hx hr hfr (by simpa[Nat.blt_eq] using hid) (by simpa using hne)) h
theorem YO{k:Z Fr}{Q:Xl→St→Prop}{σ:St}{its:Z AItem}{α:Type}{row:α→Z D}{d sz:zC} [Row row sz]{lo:Opd}{xs:Z α}{zx:α}{zs:Z D}{id:zC}{l:zA}{p:zC × zC}(h2:A1 σ.rows id=O (sz,zH row xs))(h3:C4 (σ.val lo)=O l)
  (hb:bnd (xs.length:zA) (xs.length:zA) l xs.length=O p) (hz:row zx=zs) (H:go P (.ops its::k) Q .normal (O {(σ.set d (.v (.sc (.osub id p.1 p.2)))) with rows:=put σ.rows id (sz,zH row (xs.take p.1++yD (p.2 - p.1) zx)) })) :
  go P (.ops ((U,.clr (.t d) sz zs)::its)::k) Q .normal (AD σ d (Dd σ sz (.v (.sc (.own id))) (O lo) U U)):=by
 subst hz
 have hp:p.1≤p.2∧p.2=xs.length:=by
  unfold bnd at hb
  split at hb
  ·cases hb; exact⟨by simp; omega,by simp⟩
  ·cases hb
 have hs:Dd σ sz (.v (.sc (.own id))) (O lo) U U=O (.v (.sc (.osub id p.1 p.2))):=by
  simp only[Dd,h2,Option.isNone_none,and_self,if_true,QH,yA,Ex,h3,GG,hb,yX]
 rw[hs,Vq,B8 rfl]
 have e:(σ.set d (.v (.sc (.osub id p.1 p.2)))).step (.clr (.t d) sz (row zx))=O {(σ.set d (.v (.sc (.osub id p.1 p.2)))) with rows:=put σ.rows id (sz,zH row (xs.take p.1++yD (p.2 - p.1) zx))}:=by
  have h2':A1 (σ.set d (.v (.sc (.osub id p.1 p.2)))).rows id=O (sz,zH row xs):=h2;have hv:(σ.set d (.v (.sc (.osub id p.1 p.2)))).val (.t d)= .v (.sc (.osub id p.1 p.2)):=by simp[St.val,St.get_set_same]
  have hl:(row zx).length=sz:=Row.len (row:=row) zx;simp only[St.step,hv,St.clrV,h2',yA];rw[if_pos ⟨trivial,hl,hp.1,hp.2⟩];simp only[yG,kC,List.map_replicate];rfl
 rw[e];exact H
theorem QE{σ:St}{id d sz:zC}{es1:Z (Z D)}:σ.behindT id d sz es1=⟨(σ.map (AC.kill id)).env,(σ.map (AC.kill id)).bx,put (erase σ.rows [id]) (d*64) (sz,es1)⟩:=rfl
variable {k : Z Fr} {Q : Xl → St → Prop} {σ : St} {its : Z AItem} {d f : zC} {args : Z Opd}
theorem AF{xs:Z DV}{rs:Z R1}(hf:FC P f xs rs)(h:go P (.ops its::k) Q .normal (O (σ.inst d rs)))(h1:σ.toIVs args=O xs:=by exact rfl)(h3:σ.fresh d=T:=by exact rfl)(h4:zY (rs.flatMap R1.cells).length 64=T:=by exact rfl) :
  go P (.ops ((U,.call d f args)::its)::k) Q .normal (O σ):=LY hf h1 h3 (zM h4) h
theorem D6{N:Z zC}{ds:Z AZ}{xs:Z DV}{rs:Z R1}(hf:FC P f xs rs)(h:go P (.dops ds::k) Q .normal (O (σ.inst d rs)))(h1:(σ.less N).toIVs args=O xs:=by exact rfl)(h3:σ.fresh d=T:=by exact rfl)(h4:zY (rs.flatMap R1.cells).length 64=T:=by exact rfl) :
  go P (.dops ((O N,U,.call d f args)::ds)::k) Q .normal (O σ):=th hf h1 h3 (zM h4) h
theorem TA{X:Opd}{y:V1}(H:go P (.ops its::k) Q .normal (O {(σ.set d (.v (.sc (.pb d 0)))) with bx:=put σ.bx d y.cells }))(hX:σ.val X= .v y:=by exact rfl)(hf:σ.fresh d=T:=by exact rfl)(hu:y.cells.all (fun c=> !c.uses d)=T:=by exact rfl) :
  go P (.ops ((U,.box d X)::its)::k) Q .normal (O σ):=tY hX hf hu H
theorem Ku{cs:Z AC}(H:go P (.ops its::k) Q .normal (O {(σ.set d (.v (.sc (.pb d 0)))) with bx:=put σ.bx d cs }))(hf:σ.fresh d=T:=by exact rfl)(hu:cs.all (fun c=> !c.uses d)=T:=by exact rfl) :
  go P (.ops ((U,.alloc d cs)::its)::k) Q .normal (O σ):=tM hf hu H
theorem Bc{sz:zC}{zs:Z D}{len:zC}{ps:Z (zC × Opd)}{es:Z (Z D)}(H:go P (.ops its::k) Q .normal (O {(σ.set d (.v (.sc (.own (d*64))))) with rows:=put σ.rows (d*64) (sz,es) }))(hm:σ.made (.bslice d sz zs len ps)=O (.row d sz es):=by exact rfl)(hf:σ.fresh d=T:=by exact rfl) :
  go P (.ops ((U,.bslice d sz zs len ps)::its)::k) Q .normal (O σ):=U2 hm hf H
theorem CY{b:zB}(h:go P k Q .normal (O σ))(hb:b=T:=by exact rfl):go P (.fr b::k) Q .normal (O σ):=tu hb h
theorem El{id sz:zC}{es:Z (Z D)}(H:go P (.ops its::k) Q .normal (O {(σ.map (AC.frz id es)) with rows:=erase σ.rows [id] }))(hf:A1 σ.rows id=O (sz,es):=by exact rfl)(h0:(id / 99999999999==0)=T:=by exact rfl) :
  go P (.ops ((U,.frz id)::its)::k) Q .normal (O σ):=tx hf H h0
end
theorem t0{α β:Sort _}{a:α}{b:β}:(a=a∧True)∧b=b:=⟨⟨rfl,⟨⟩⟩,rfl⟩
abbrev Kp(P:Program)(A B C:Z zC)(τ:St)(k:Z Fr)(Q:Xl→St→Prop):Prop:=∀{σ:St},σ.kept A B C=τ→go P k Q .normal (O σ)
abbrev aM{α:Type}(r:α→Z D)(l:Z α):AC:=aL (zH r l)
abbrev pB(n:zC):zC × AV:=(n,vc (.pb n 0))
abbrev pI(n:zC)(x:zA):zC × AV:=(n,vc (aI x))
abbrev pL{α:Type}(n:zC)(r:α→Z D)(l:Z α):zC × AV:=(n,vc (aL (zH r l)))
abbrev pW(n m:zC):zC × AV:=(n,vc (.own m))
end
theorem W2{n:zC}{h:n<2 ^ 8}:UInt8.ofBitVec (BitVec.ofFin ⟨n,h⟩)=UInt8.ofNat n:=by
 apply UInt8.toNat_inj.1
 simp[UInt8.toNat,UInt8.ofNat,BitVec.toNat];omega
def HL(c:Xg):Xg:=c
def Xg.cnt:Xg→zC
 | .seq x y=>x.cnt+y.cnt+1
 | .cond _ x y=>x.cnt+y.cnt+1
 | .block _ c=>c.cnt+1
 | .loop c=>c.cnt+1
 | _=>1
abbrev Hw:=Z (zC × Z zC × Z zC × Z zC) × Z (zC × zC × AItem)
abbrev h0:Hw:=([],[])
def Hw.cut(H:Hw)(n:zC)(c:Xg):Xg:=match H.1.lookup n with | some (a,b,r)=>HL (.seq (.reg [(U,.keep a b r)]) c) | none=>c
def M9(n:zC):Z (zC × zC × AItem)→Z AItem→Z AItem
 | [],l=>l
 | (m,j,x)::r,l=>bif m==n then M9 n r (l.take j++x::l.drop j) else M9 n r l
def CE(H:Hw):zC→Xg→Xg
 | n,.seq x y=>H.cut n (.seq (CE H (n+1) x) (CE H (n+1+x.cnt) y))
 | n,.cond c x y=>H.cut n (.cond c (CE H (n+1) x) (CE H (n+1+x.cnt) y))
 | n,.block i c=>H.cut n (.block i (CE H (n+1) c))
 | n,.loop c=> .loop (H.cut n (CE H (n+1) c))
 | n,.reg l=>H.cut n (.reg (M9 n H.2 l))
 | n,.pan l x=>H.cut n (.pan (M9 n H.2 l) x)
 | n,.cal l d f xs=>H.cut n (.cal (M9 n H.2 l) d f xs)
 | n,.drw l=>H.cut n (match M9 n H.2 [] with | []=> .drw l | s=> .seq (.reg s) (.drw l))
 | n,c=>H.cut n c
def Ke(H:Hw)(t:zC):zC→Xg→Z Fr→Z Fr
 | n,.seq x y,k=>bif t==n then .code (CE H n (.seq x y))::k else bif Nat.blt t (n+1+x.cnt) then Ke H t (n+1) x (.code (CE H (n+1+x.cnt) y)::k) else Ke H t (n+1+x.cnt) y k
 | n,.cond c x y,k=>bif t==n then .code (CE H n (.cond c x y))::k else bif Nat.blt t (n+1+x.cnt) then Ke H t (n+1) x k else Ke H t (n+1+x.cnt) y k
 | n,.block i c,k=>bif t==n then .code (CE H n (.block i c))::k else Ke H t (n+1) c (.blk i::k)
 | n,.loop c,k=>bif t==n then .code (CE H n (.loop c))::k else Ke H t (n+1) c (.code (CE H n (.loop c))::k)
 | n,c,k=> .code (CE H n c)::k
def QJ(P:Program)(f:zC):Xg:=match AE P f with | some e=>e.1 | none=> .skip
def sk(P:Program)(f:zC)(H:Hw)(t:zC):Z Fr:=Ke H t 0 (QJ P f) []
abbrev Bp(P:Program)(f:zC)(H:Hw):Xg:=CE H 0 (QJ P f)
abbrev Kh(P:Program)(f:zC)(H:Hw)(t:zC)(A B C:Z zC)(τ:St)(Q:Xl→St→Prop):Prop:=∀{σ:St},σ.kept A B C=τ→∀{S:Z Fr},S=sk P f H t→go P S Q .normal (O σ)
theorem Bt{P:Program}{f:zC}(H:Hw){Q:Xl→St→Prop}{σ:St}(h:∀S,S=sk P f H 0→go P S Q .normal (O σ))(hs:sk P f H 0= [.code (CE H 0 (QJ P f))]:=by kernel_rfl):go P [.code (Bp P f H)] Q .normal (O σ):=h _ hs.symm
theorem As{P:Program}{c:Xg}{k:Z Fr}{Q:Xl→St→Prop}{σ:I St}(h:go P (.code c::k) Q .normal σ):go P (.code (HL c)::k) Q .normal σ:=h
theorem A3{P:Program}(hm:P.follows .mixedOrders=T)(H:Hw)(ts:Z RV)(nt:zC){f:FuncId}{ds:Z DV}{rs:Z R1}(h:∀S,S=sk P f H 0→go P S (A5 ts rs) .normal (O (St.init ds)))(he:AE P f=O ((Bp P f H).strip,ts,nt):=by kernel_rfl)(hs:sk P f H 0= [.code (CE H 0 (QJ P f))]:=by kernel_rfl)(hl:zY ds.length nt=T:=by exact rfl):FC P f ds rs:=gM hm he hl (Bt H h hs)
theorem ev{P:Program}{Q:Xl→St→Prop}{x:Xl}{σ:I St}{S E S1 S2:Z Fr}(hS:S=E)(h:go P S2 Q x σ)(e1:E=S1:=by conv=>lhs; reduce)(e2:S1=S2:=by first | (simp only[Int.reduceOfNat,Int.reduceNegSucc,W2,UInt8.reduceOfNat]; done) | (simp only[Int.reduceOfNat,Int.reduceNegSucc,W2,UInt8.reduceOfNat]; rfl) | rfl):go P S Q x σ:=by rw[hS,e1,e2]; exact h
section
inductive WV where
 | d (x:DV)
 | r
 | p (k:zC)
 | clo (f:FuncId) (ks:Z zC)
def WV.av:WV→AV
 | .d x=>x.av
 | .r=> .v (.sc (.own 99999999999))
 | .p k=> .v (.sc (.pb (99999999999+k) 0))
 | .clo f ks=> .v (.sc (.clo f (ks.map (99999999999+ ·))))
inductive WVRel (h:A6) (w:World) (ps:Z zC) (o:I zC) (sz:zC) (es:Z (Z D)):WV→Value→Prop
 | d {x v}:DVRel h x v→WVRel h w ps o sz es (.d x) v
 | r {v}:RCRel h w (.o sz es) v o→WVRel h w ps o sz es .r v
 | p {k b}:ps[k]?=O b→WVRel h w ps o sz es (.p k) (.pointer (O ⟨b,0,U⟩))
 | clo {f ks bs}:ks.mapM (fun k=>ps[k]?)=O bs→WVRel h w ps o sz es (.clo f ks) (.func (.func f) #[] (bs.map fun b=>Value.pointer (O ⟨b,0,U⟩)).toArray)
inductive WVRels (h:A6) (w:World) (ps:Z zC) (o:I zC) (sz:zC) (es:Z (Z D)):Z WV→Z Value→Prop
 | nil:WVRels h w ps o sz es [] []
 | cons {x v xs vs}:WVRel h w ps o sz es x v→WVRels h w ps o sz es xs vs→WVRels h w ps o sz es (x::xs) (v::vs)
section
variable {h : A6} {w : World} {ps : Z zC} {o : I zC} {sz : zC} {es : Z (Z D)}
theorem WVRels.len:∀{xs vs},WVRels h w ps o sz es xs vs→xs.length=vs.length
 | _,_,.nil=>rfl
 | _,_,.cons _ b=>by simp[b.len]
theorem WVRels.get:∀{xs:Z WV} {vs:Z Value} (i:zC) {x:WV} {v:Value},WVRels h w ps o sz es xs vs→xs[i]?=O x→vs[i]?=O v→WVRel h w ps o sz es x v
 | _,_,_,_,_,.nil,hd,_=>by simp at hd
 | _,_,0,_,_,.cons a _,hd,hv=>by simp at hd hv; subst hd hv; exact a
 | _,_,i+1,_,_,.cons _ b,hd,hv=>WVRels.get i b (by simpa using hd) (by simpa using hv)
end
def Wx(h:A6)(w:World)(ps:Z zC)(cs:Z (Z D)):Prop:=∀(k:zC) c,cs[k]?=O c→∃p C t,ps[k]?=O p∧w.heap[p]?=O (.cells C t (0,0))∧Reps h c C.toList∧C.toList.length=c.length
def PT(ps:Z zC)(o:I zC):Aa:=fun i=>if i=199999999999 then o else if 199999999998≤i∧i % 2=0 then ps[(i - 199999999998) / 2]? else U
theorem A0o{ps:Z zC}{o:I zC}{i b:zC}(h:PT ps o i=O b):AG≤i∧((i=199999999999∧o=O b)∨∃k,i=2*(99999999999+k)∧ps[k]?=O b):=by
 unfold PT at h;unfold AG;split at h
 ·exact⟨by omega,.inl ⟨by assumption,h⟩⟩
 ·split at h
  ·rename_i q
   exact⟨q.1,.inr ⟨(i - 199999999998) / 2,by omega,h⟩⟩
  ·cases h
theorem A0n{ps:Z zC}{o:I zC}:PT ps o (2*99999999999+1)=o:=by simp[PT]
def Kw(w:World)(ps:Z zC)(o:I zC):Base:= .of w (PT ps o)
theorem mY{w:World}{ps:Z zC}{o:I zC}{b:zC}(h:(Kw w ps o).M b):o=O b∨b∈ps:=by
 obtain⟨i,_,e⟩:=Base.of_M h;rcases(A0o e).2 with ⟨_,e⟩|⟨k,_,e⟩
 ·exact .inl e
 ·exact .inr (zK e)
def FCw(P:Program)(f:FuncId)(xs:Z WV)(sz:zC)(cs0 es0:Z (Z D))(cs1 es1:Z (Z D)):Prop:=
 ∀(w:World) (A:B9) (ps:Z zC) (o:I zC) (vs:Z Value),ps.Nodup→(∀b∈ps,b<w.heap.size∧(∀fr,¬A b fr)∧o≠O b)→(∀b,o=O b→b<w.heap.size∧∀fr,¬A b fr)→(∀w2,BelowX w.heap.size (Kw w ps o) w2→GoodW w2)→
  Wx (Ai A w) w ps cs0→WVRels (Ai A w) w ps o sz es0 xs vs→Calls P f vs.toArray w fun e w'=>∃v,e= .returned v∧BelowX w.heap.size (Kw w ps o) w'∧
   Wx (Ai (fun b fr=>(w.heap.size≤b∧fr=(0,0))∨A b fr) w') w' ps cs1∧∃v',RCRel (Ai (fun b fr=>(w.heap.size≤b∧fr=(0,0))∨A b fr) w') w' (.o sz es1) v' o
def VM(ids:Z zC)(rid:zC):AV→I WV
 | .v (.sc (.own k))=>bif k==rid then O .r else U
 | .v (.sc (.pb k 0))=>(ids.idxOf? k).map .p
 | .v (.sc (.clo f l))=>(l.mapM fun i=>ids.idxOf? i).map (.clo f)
 | x=>(Kj x).map .d
def Qg(ids:Z zC)(rid:zC):Z AV→I (Z WV)
 | []=>O []
 | x::xs=>match VM ids rid x,Qg ids rid xs with
  | some y,O ys=>O (y::ys)
  | _,_=>U
def MN(bx:Z (zC × Z AC)):Z zC→I (Z (Z AC))
 | []=>O []
 | id::ids=>match A1 bx id,MN bx ids with
  | some r,O R=>O (r::R)
  | _,_=>U
theorem Tz{bx:Z (zC × Z AC)}:∀{ids:Z zC} {R:Z (Z AC)},MN bx ids=O R→R.length=ids.length∧∀(j id:zC),ids[j]?=O id→A1 bx id=R[j]?
 | [],R,h=>by
  simp[MN] at h;subst h;exact⟨zE,fun j id hj=>by simp at hj⟩
 | id::ids,R,h=>by
  simp only[MN] at h;split at h
  ·rename_i r R' h1 h2
   cases h;obtain⟨q1,q2⟩:=Tz h2;refine⟨by simp[q1],fun j i hj=> ?_⟩;cases j with
   | zero=>simp at hj; subst hj; simpa using h1
   | succ j=>simpa using q2 j i (by simpa using hj)
  ·cases h
def AC.nz:AC→AC
 | .nil=> .dat (.sl [])
 | c=>c
theorem CRel.nz{X:Cx}{c:AC}{v:Value}(H:CRel X c v):CRel X c.nz v:=by
 cases c with
 | nil=>cases H; exact .dat .nil
 | _=>exact H
theorem CRels.nz{X:Cx}:∀{cs:Z AC} {vs:Z Value},CRels X cs vs→CRels X (cs.map AC.nz) vs
 | _,_,.nil=> .nil
 | _,_,.cons a b=> .cons a.nz b.nz
def F8(bx:Z (zC × Z AC)):Z zC→Z (Z D)→Z (zC × Z AC)
 | id::ids,c::cs=>F8 (put bx id (c.map .dat)) ids cs
 | _,_=>bx
theorem Vr{id:zC}:∀{ids:Z zC} {cs:Z (Z D)} {bx:Z (zC × Z AC)},id∉ids→A1 (F8 bx ids cs) id=A1 bx id
 | [],_,_,_=>by simp[F8]
 | _::_,[],_,_=>by simp[F8]
 | i::ids,c::cs,bx,h=>by
  simp only[zR,not_or] at h;rw[F8,Vr h.2,Bn _ _ h.1]
theorem cZ:∀{ids:Z zC} {cs:Z (Z D)} {bx:Z (zC × Z AC)} {j id:zC} {c:Z D},ids.Nodup→ids[j]?=O id→cs[j]?=O c→A1 (F8 bx ids cs) id=O (c.map .dat)
 | [],_,_,_,_,_,_,h,_=>by simp at h
 | _::_,[],_,_,_,_,_,_,h=>by simp at h
 | i::ids,c::cs,bx,j,id,d,hn,h1,h2=>by
  rw[List.nodup_cons] at hn
  cases j with
  | zero=>
   simp at h1 h2
   subst h1 h2;rw[F8,Vr hn.1,Bl]
  | succ j=>
   rw[F8];exact cZ hn.2 (by simpa using h1) (by simpa using h2)
theorem Vt{X:Cx}:∀{c:Z D} {vs:Z Value},CRels X (c.map .dat) vs→Reps X.h c vs∧vs.length=c.length
 | [],vs,h=>by
  have h:CRels X [] vs:=h;cases h;exact⟨.nil,zE⟩
 | c::cs,vs,h=>by
  have h:CRels X (.dat c::cs.map .dat) vs:=h;cases h with | cons a b=>cases a with | dat a=>exact⟨.cons a (Vt b).1,by simp[(Vt b).2]⟩
theorem ck{X:Cx}:∀{c:Z D} {vs:Z Value},Reps X.h c vs→vs.length=c.length→CRels X (c.map .dat) vs
 | [],[],_,_=> .nil
 | [],_::_,_,h=>by cases h
 | c::cs,vs,h,hl=>by
  cases h with | cons a b=>exact .cons (.dat a) (ck b (by simpa using hl))
def Cp(nm:Aa)(ids:Z zC):Z zC:=ids.map fun i=>(nm (2*i)).getD 0
section
variable {P : Program} {A : Ar} {B : zC} {w0 : Base} {w : World} {nm : Aa} {σ : St} {tmps : Array Value}
theorem A5k{ids:Z zC}{rid sz:zC}{es:Z (Z D)}(hf:A1 σ.rows rid=O (sz,es)){av:AV}{v:Value}{x:WV}(H:VRel (cx A nm σ w) av v)(h:VM ids rid av=O x):WVRel (A9 A nm w) w (Cp nm ids) (nm (2*rid+1)) sz es x v:=by
 have hat:∀{k j b:zC},ids.idxOf? k=O j→nm (2*k)=O b→(Cp nm ids)[j]?=O b:=fun{k j b} h1 h2=>by
  have:=List.idxOf?_eq_some_iff.1 h1;obtain⟨hj,e,_⟩:=this;simp only[Cp,zX,zI hj];simp[e,h2]
 unfold VM at h;split at h
 ·rename_i k
  by_cases hk:k=rid
  ·subst hk;simp at h;subst h;exact .r (PW (X:=cx A nm σ w) H.inv_sc hf)
  ·have:(k==rid)=F:=by simpa using hk
   simp[this] at h
 ·simp only[zG] at h;obtain⟨j,h1,rfl⟩:=h;cases H.inv_sc with | pb e=>exact .p (hat h1 e)
 ·rename_i f l
  simp only[zG] at h;obtain⟨js,h1,rfl⟩:=h;cases H.inv_sc with | @clo _ _ bs e=>
  refine .clo ?_;clear H
  induction l generalizing js bs with
  | nil=>simp at h1 e; subst h1 e; rfl
  | cons i l ih=>
   simp only[yI] at h1 e
   cases a1:ids.idxOf? i with
   | none=>rw[a1] at h1; cases h1
   | some j=>
    rw[a1] at h1
    cases a2:l.mapM fun i=>ids.idxOf? i with
    | none=>rw[a2] at h1; cases h1
    | some js'=>
     rw[a2] at h1
     cases h1;cases b1:(cx A nm σ w).nm (2*i) with
     | none=>rw[b1] at e; cases e
     | some b=>
      rw[b1] at e
      cases b2:l.mapM fun i=>(cx A nm σ w).nm (2*i) with
      | none=>rw[b2] at e; cases e
      | some bs'=>
       rw[b2] at e
       cases e;have e1:=hat a1 b1;have e2:=ih _ a2 b2;simp only[yI,e1,e2];rfl
 ·simp only[zG] at h;obtain⟨d,h1,rfl⟩:=h;exact .d (Mv (X:=cx A nm σ w) H h1)
theorem eM{ids:Z zC}{rid sz:zC}{es:Z (Z D)}(hf:A1 σ.rows rid=O (sz,es)):∀{avs:Z AV} {vs:Z Value} {xs:Z WV},VsRel (cx A nm σ w) avs vs→Qg ids rid avs=O xs→WVRels (A9 A nm w) w (Cp nm ids) (nm (2*rid+1)) sz es xs vs
 | [],vs,xs,H,h=>by
  simp[Qg] at h;subst h;obtain rfl:vs= []:=zL.1 H.1.symm;exact .nil
 | a::avs,vs,xs,H,h=>by
  unfold Qg at h;split at h
  ·rename_i x xs' h1 h2
   cases h;cases vs with
   | nil=>have:=H.1; simp at this
   | cons v vs=>
    exact .cons (A5k hf (H.2 0 a v zE zE) h1) (eM hf ⟨by have:=H.1; simpa using this,fun i u v hu hv=>H.2 (i+1) u v (by simpa using hu) (by simpa using hv)⟩ h2)
  ·cases h
def St.behindW(σ:St)(ids:Z zC)(rid sz:zC)(cs1 es1:Z (Z D)):St:={σ with bx:=F8 σ.bx ids cs1,rows:=put σ.rows rid (sz,es1)}
theorem FCw.callC{f:FuncId}{xs:Z WV}{sz:zC}{cs0 es0 cs1 es1:Z (Z D)}(H:FCw P f xs sz cs0 es0 cs1 es1){ids:Z zC}{rid:zC}{avs:Z AV}(hx:Qg ids rid avs=O xs)(hb:(MN σ.bx ids).map (zH (zH AC.nz))=O (cs0.map (zH .dat)))(hf:A1 σ.rows rid=O (sz,es0))(hnd:ids.Nodup)(hc:cs1.length=cs0.length)(hl:es1.length=es0.length) :
  CallC P f avs σ (σ.behindW ids rid sz cs1 es1) .undef:=by
 intro A B w0 w nm tmps vs R hvs;obtain⟨R0,hb0,hb⟩:=zG.1 hb;obtain⟨hbl,hbat⟩:=Tz hb0
 have hbl:cs0.length=ids.length:=by
  have:=congrArg yZ hb;simp only[yA] at this
  omega
 have hbox:∀(j id:zC),ids[j]?=O id→∃b c C t,nm (2*id)=O b∧cs0[j]?=O c∧(Cp nm ids)[j]?=O b∧w.heap[b]?=O (.cells C t (0,0))∧Reps (A9 A nm w) c C.toList∧C.toList.length=c.length:=fun j id hj=>by
  have hjl:j<cs0.length:=by rw[hbl]; exact(zJ.1 hj).1
  have e:=hbat j id hj;have hjr:j<R0.length:=by rw[(Tz hb0).1]; exact(zJ.1 hj).1
  rw[zI hjr] at e
  have eq:R0[j].map AC.nz=cs0[j].map .dat:=by
   have:=congrArg (fun l=>l[j]?) hb;simpa[hjr,hjl] using this
  obtain⟨b,C,t,k1,k2,k3⟩:=R.bxs id _ e;have k3:=k3.nz;rw[eq] at k3
  have k1:nm (2*id)=O b:=k1;refine⟨b,cs0[j],C,t,k1,zI hjl,?_,k2,Vt k3⟩;simp[Cp,hj,k1]
 have hps:∀b∈Cp nm ids,∃j id:zC,ids[j]?=O id∧(Cp nm ids)[j]?=O b∧nm (2*id)=O b:=fun b hm=>by
  obtain⟨j,hj⟩:=yP hm;have hjl:j<ids.length:=by have:=(zJ.1 hj).1; simpa[Cp] using this
  obtain⟨b',_,_,_,k1,_,k3,_⟩:=hbox j _ (zI hjl);rw[hj] at k3
  cases k3;exact⟨j,_,zI hjl,hj,k1⟩
 have hM:∀b,(Kw w (Cp nm ids) (nm (2*rid+1))).M b→nm (2*rid+1)=O b∨∃id∈ids,nm (2*id)=O b:=fun b h=>by
  rcases mY h with h|h
  ·exact .inl h
  ·obtain⟨j,id,h1,_,h3⟩:=hps b h;exact .inr ⟨id,zK h1,h3⟩
 have hnames:∀b,(Kw w (Cp nm ids) (nm (2*rid+1))).M b→B≤b∨w0.M b:=fun b h=>(hM b h).elim (fun h=>(R.names _ _ h).1) fun⟨_,_,h⟩=>(R.names _ _ h).1
 have hpn:(Cp nm ids).Nodup:=by
  rw[List.Nodup,yV];intro i j hi hj hij e;have hi':i<ids.length:=by simpa[Cp] using hi
  have hj':j<ids.length:=by simpa[Cp] using hj
  obtain⟨b,_,_,_,a1,_,a3,_⟩:=hbox i _ (zI hi');obtain⟨c,_,_,_,b1,_,b3,_⟩:=hbox j _ (zI hj');rw[zI hi] at a3
  rw[zI hj] at b3
  cases a3;cases b3;rw[e] at a1
  have:=R.inj _ _ _ a1 b1;have e2:ids[i]=ids[j]:=by omega
  exact yV.1 hnd i j hi' hj' hij e2
 refine(H w (fun b fr=>(∀i,nm i≠O b)∧A b fr) (Cp nm ids) (nm (2*rid+1)) vs hpn (fun b hm=> ?_) (fun b e=>⟨(R.names _ _ e).2,fun _ h=>h.1 _ e⟩) (fun w2 hb2=>R.good w2 (R.below.afterZ zE hb2 R.size R.there hnames fun b hv=>hv.elim)) (fun k c hk=> ?_) (by rw[E2]; exact eM hf hvs hx)).mono fun e w' h=> ?_
 ·obtain⟨_,id,_,_,e⟩:=hps b hm;refine⟨(R.names _ _ e).2,fun _ h=>h.1 _ e,fun e2=> ?_⟩;have:=R.inj _ _ _ e e2;omega
 ·have hkl:k<ids.length:=by rw[← hbl]; exact(zJ.1 hk).1
  obtain⟨b,c',C,t,k1,k2,k3,k4,k5⟩:=hbox k _ (zI hkl);rw[hk] at k2
  cases k2;exact⟨b,C,t,k3,k4,by rw[E2]; exact k5.1,k5.2⟩
 obtain⟨v,rfl,hb2,hh,v',hr⟩:=h;have hbel:BelowX B w0 w':=R.below.afterZ rfl hb2 R.size R.there hnames fun b hv=>hv.elim
 have hsame:∀b,b<w.heap.size→nm (2*rid+1)≠O b→(∀id∈ids,nm (2*id)≠O b)→w'.heap[b]?=w.heap[b]?:=fun b hlt h1 h2=>hb2.block b hlt (fun hm=>(hM b hm).elim h1 fun⟨id,q1,q2⟩=>h2 id q1 q2) fun hv=>hv.elim
 have hview:∀b C,A9 A nm w b C→A9 A nm w' b C:=CS fun b hlt hnb=>⟨hnb,hsame b hlt (hnb _) fun id _=>hnb _⟩
 have hvw:∀b C,Ai (fun b fr=>(w.heap.size≤b∧fr=(0,0))∨((∀i,nm i≠O b)∧A b fr)) w' b C→A9 A nm w' b C:=fun b C ⟨cc,tt,fr,g1,g2⟩=>by
  rcases g1 with ⟨g1,rfl⟩|g1
  ·exact⟨fun i e=>by have:=(R.names i b e).2; omega,cc,tt,(0,0),R.all.all b (.inl (zN R.size g1)),g2⟩
  ·exact⟨g1.1,cc,tt,fr,g1.2,g2⟩
 have hcell:∀c v,CRel (cx A nm σ w) c v→CRel (cx A nm (σ.behindW ids rid sz cs1 es1) w') c v:=fun c v H=>by
  by_cases hc2:c.has rid=T
  ·refine H.turn hc2 (X:=cx A nm σ w) (Y:=cx A nm (σ.behindW ids rid sz cs1 es1) w') (id:=rid) (sz:=sz) (es:=es0) (es':=es1) hf (Bl _ _ _) hl zE fun b cap hn own=> ?_
   have hn':nm (2*rid+1)=O b:=hn;rw[hn'] at hr
   cases hr with | o own' _=>
   obtain⟨k1,k2,k3,C',t',k4,k5,k6⟩:=own';obtain⟨q1,q2,q3,C,t,q4,q5,q6⟩:=own;have hm:Base.M (Kw w (Cp nm ids) (nm (2*rid+1))) b:= .inl ⟨2*99999999999+1,by unfold AG; omega,(A0n (ps:=Cp nm ids) (o:=nm (2*rid+1))).trans hn'⟩;obtain⟨C2,e1,e2⟩:=hb2.room b hm C t (0,0) q4;rw[k4] at e1
   cases e1;have hcap:=yC k1 (k5.symm.trans (e2.trans q5));subst hcap;exact⟨k1,k2,k3,C',t',k4,k5,k6.mono hvw⟩
  ·refine H.move hview (fun id hid=> .inr ⟨?_,zE,fun b hbn=> ?_⟩) (fun id _ b hb2=>hb2)
   ·show A1 (put σ.rows rid (sz,es1)) id=A1 σ.rows id
    rw[Bn _ _ fun e=>hc2 (by rw[← e]; exact hid)]
   ·refine hsame b (R.names _ _ hbn).2 (fun e=> ?_) fun id' _ e=> ?_
    ·have:=R.inj _ _ _ hbn e;have e3:id=rid:=by omega
     exact hc2 (e3▸hid)
    ·have:=R.inj _ _ _ hbn e;omega
 refine⟨v,nm,zE,⟨hbel,zN R.size hb2.size,R.all,R.good,fun i b hi=> ?_,R.inj,R.pin,fun k=>(R.env k).to fun c v _=>hcell c v,fun id cs hcs=> ?_⟩,.undef⟩
 ·obtain⟨h1,h2⟩:=R.names i b hi;exact⟨h1,zS h2 hb2.size⟩
 ·have hcs:A1 (F8 σ.bx ids cs1) id=O cs:=hcs;by_cases hid:id∈ids
  ·obtain⟨j,hj⟩:=yP hid;have hjl:j<cs1.length:=by rw[hc,hbl]; exact(zJ.1 hj).1
   rw[cZ hnd hj (zI hjl)] at hcs
   cases hcs;obtain⟨b,_,_,_,k1,_,k3,_⟩:=hbox j id hj;obtain⟨p,C,t,h1,h2,h3,h4⟩:=hh j _ (zI hjl);rw[k3] at h1
   cases h1;exact⟨b,C,t,k1,h2,ck (X:=cx A nm (σ.behindW ids rid sz cs1 es1) w') (h3.mono hvw) h4⟩
  ·rw[Vr hid] at hcs
   obtain⟨b,C,t,h1,h2,h3⟩:=R.bxs id cs hcs;have h1:nm (2*id)=O b:=h1;refine⟨b,C,t,h1,(hsame b (R.names _ _ h1).2 (fun e=> ?_) fun id' hi e=> ?_).trans h2,h3.to fun c v _=>hcell c v⟩
   ·have:=R.inj _ _ _ h1 e; omega
   ·have:=R.inj _ _ _ h1 e;have e3:id=id':=by omega
    exact hid (e3▸hi)
end
section
variable {P : Program}
variable {k : Z Fr} {Q : Xl → St → Prop} {σ : St} {its : Z AItem} {d f : zC} {args : Z Opd} {xs : Z WV} {sz : zC} {cs0 es0 cs1 es1 : Z (Z D)}
end
section
variable {P : Program} {A : Ar} {B : zC} {w0 : Base} {w : World} {nm : Aa} {σ : St} {tmps : Array Value}
end
end
section
open Go.MapKept
section
variable {P : Program} {mt kt et : TypeId}
end
section
variable {P : Program} {A : Ar} {B : zC} {w0 : Base} {w w' : World} {nm : Aa} {σ τ : St} {a : Act} {ops : Array Oper} {o : Oper} {rest : Z Oper} {Q : Exit → Act → World → Prop} {g : I (zC × zB)}
def EC(P:Program)(ops:Array Oper)(d:zC)(o:Oper)(ao:AOp)(g:I (zC × zB)):Prop:=o.dst=O d∧Ac P d o=O ao∧Ie ops o.guard=O g
def I5(ops:Array Oper)(d:I zC)(o:Oper)(x:Op)(g:I (zC × zB)):Prop:=o.dst=d∧o.op=x∧Ie ops o.guard=O g
end
structure TideOps (P:Program) (nt:zC) (ops:Array Oper) (mt kt et:TypeId):Prop where
 hm:P.underlying mt=O (.map kt et)
 hk:P.underlying kt=O .string
 hz:∀w,(zeroValue et).run P w= .ok (.int .i64 0) w
 hl:ops.toList= [ops[0]!,ops[1]!,ops[2]!,ops[3]!,ops[4]!,ops[5]!,ops[6]!,ops[7]!,ops[8]!,ops[9]!,ops[10]!,ops[11]!,ops[12]!,ops[13]!,ops[14]!,ops[15]!,ops[16]!]
 h14:EC P ops 14 ops[0]! (.mv 14 (.t 6)) U
 h15:EC P ops 15 ops[1]! (.un 15 .not (.t 14)) U
 h16:EC P ops 16 ops[2]! (.mv 16 (.t 15)) U
 h17:EC P ops 17 ops[3]! (.mv 17 (.t 5)) (O (16,F))
 h18:EC P ops 18 ops[4]! (.len 18 (.t 17)) (O (16,F))
 h19:I5 ops (O 19) ops[5]! (.makeMap mt U) (O (16,F))
 hi1:I5 ops U ops[6]! (.insert mt (.tmp 19) (.const (.string ⟨([109,101,97,110]:Z zD).toArray⟩)) (.const (.int .i64 1))) (O (16,F))
 hi2:I5 ops U ops[7]! (.insert mt (.tmp 19) (.const (.string ⟨([119,97,118,101]:Z zD).toArray⟩)) (.const (.int .i64 3))) (O (16,F))
 hi3:I5 ops U ops[8]! (.insert mt (.tmp 19) (.const (.string ⟨([115,117,114,103,101]:Z zD).toArray⟩)) (.const (.int .i64 2))) (O (16,F))
 hi4:I5 ops U ops[9]! (.insert mt (.tmp 19) (.const (.string ⟨([103,97,112]:Z zD).toArray⟩)) (.const (.int .i64 1))) (O (16,F))
 h20:I5 ops (O 20) ops[10]! (.move (.tmp 19)) (O (16,F))
 h21:EC P ops 21 ops[11]! (.mv 21 (.t 1)) (O (16,F))
 h22:EC P ops 22 ops[12]! (.iaddr 22 (.t 21) (.c (.v (.sc (.dat (.int .i64 0))))) 1) (O (16,F))
 h23:EC P ops 23 ops[13]! (.load 23 (.t 22) F 1) (O (16,F))
 h24:I5 ops (O 24) ops[14]! (.lookup mt (.tmp 20) (.tmp 23) F) (O (16,F))
 h25:EC P ops 25 ops[15]! (.bin 25 .neq (.t 18) (.t 24)) (O (16,F))
 h26:EC P ops 26 ops[16]! (.pick 26 (.t 16) (.c (.v (.sc (.dat (.bool T))))) (.t 25)) U
 hnt:26<nt
section
variable {P : Program} {σ : St} {ops : Array Oper} {id mt kt et nt : zC} {C : Code}
end
end
section
inductive Tg (b:zC):D→Prop
 | here {k es}:Tg b (.slb b k es)
 | sl {es r d}:r∈es→d∈r→Tg b d→Tg b (.sl es)
def BS(b:zC)(es:Z (Z D)):Prop:=∃r∈es,∃d∈r,Tg b d
theorem Reps.mem{h:A6}{d:D}:∀{ds:Z D} {vs:Z Value},Reps h ds vs→d∈ds→∃v,Rep h d v
 | _,_,.nil,hd=>by cases hd
 | _,_,.cons a b,hd=>by
  rcases zR.1 hd with rfl|hd
  ·exact⟨_,a⟩
  ·exact b.mem hd
theorem RepRows.mem{h:A6}{sz:zC}{r:Z D}:∀{es:Z (Z D)} {vs:Z Value},RepRows h sz es vs→r∈es→∃us,Reps h r us
 | _,_,.nil,hd=>by cases hd
 | _,_,.cons _ b c,hd=>by
  rcases zR.1 hd with rfl|hd
  ·exact⟨_,b⟩
  ·exact c.mem hd
theorem Rep.tg{h:A6}{b:zC}:∀{d:D} {v:Value},Tg b d→Rep h d v→∃C,h b C:=by
 intro d v H
 induction H generalizing v with
 | here=>intro R; cases R with | slb a _ _ _ _ _ _=>exact⟨_,a⟩
 | sl h1 h2 _ ih=>
  intro R;cases R with
  | nil=>cases h1
  | sl a _ b _ _ _=>
   obtain⟨us,hr⟩:=b.mem h1;obtain⟨u,hu⟩:=hr.mem h2;exact ih hu
theorem RepRows.tg{h:A6}{b sz:zC}{es:Z (Z D)}{vs:Z Value}(H:RepRows h sz es vs):BS b es→∃C,h b C:=fun⟨r,h1,d,h2,h3⟩=>by
 obtain⟨us,hr⟩:=H.mem h1;obtain⟨u,hu⟩:=hr.mem h2;exact hu.tg h3
theorem OwnB.tg{h:A6}{w:World}{b c sz cap:zC}{es:Z (Z D)}(H:OwnB h w c sz cap es)(ht:BS b es):∃C,h b C:=by
 obtain⟨_,_,_,C,t,_,_,h6⟩:=H;exact h6.tg ht
def AC.tg(rs:Rows)(b:zC):AC→Prop
 | .dat d=>Tg b d
 | .own id | .osub id _ _ | .pe id _ _=>∃sz es,A1 rs id=O (sz,es)∧BS b es
 | _=>False
def St.tg(σ:St)(b:zC):Prop:=∃c,σ.Uses c∧c.tg σ.rows b
theorem CRel.tg{X:Cx}{b:zC}{c:AC}{v:Value}(H:CRel X c v)(ht:c.tg X.rs b):∃C,X.h b C:=by
 cases c with
 | dat d=>exact H.inv_dat.tg ht
 | own id=>
  obtain⟨sz,es,h1,h2⟩:=ht;rcases H.inv_own h1 with ⟨rfl,_⟩|⟨_,_,_,h3,_⟩
  ·obtain⟨r,hr,_⟩:=h2; cases hr
  ·exact h3.tg h2
 | osub id lo hi=>
  obtain⟨sz,es,h1,h2⟩:=ht;rcases H.inv_osub h1 with ⟨rfl,_⟩|⟨_,_,_,_,_,h3,_⟩
  ·obtain⟨r,hr,_⟩:=h2; cases hr
  ·exact h3.tg h2
 | pe id i o=>
  obtain⟨sz,es,h1,h2⟩:=ht;obtain⟨_,_,_,h3,_⟩:=H.inv_pe h1;exact h3.tg h2
 | _=>exact ht.elim
section
variable {P : Program} {A : Ar} {B : zC} {w0 : Base} {w : World} {nm : Aa} {σ : St} {tmps : Array Value}
theorem CRels.all{X:Cx}{Q:AC→Prop}(hQ:∀c v,CRel X c v→Q c):∀{cs:Z AC} {vs:Z Value},CRels X cs vs→∀c∈cs,Q c
 | _,_,.nil=>fun c hc=>by cases hc
 | _,_,.cons a b=>fun c hc=>by
  rcases zR.1 hc with rfl|hc
  ·exact hQ _ _ a
  ·exact b.all hQ c hc
theorem V1Rel.all{X:Cx}{Q:AC→Prop}(hQ:∀c v,CRel X c v→Q c){x:V1}{v:Value}(H:V1Rel X x v):∀c∈x.cells,Q c:=by
 cases H with
 | sc h=>exact CRels.all hQ (.cons h .nil)
 | ag h=>exact CRels.all hQ h
theorem V1Rels.all{X:Cx}{Q:AC→Prop}(hQ:∀c v,CRel X c v→Q c):∀{l:Z V1} {vs:Z Value},V1Rels X l vs→∀c∈l.flatMap V1.cells,Q c
 | _,_,.nil=>fun c hc=>by simp at hc
 | _,_,.cons a b=>fun c hc=>by
  simp only[List.flatMap_cons,List.mem_append] at hc
  exact hc.elim (a.all hQ c) (b.all hQ c)
theorem VRel.all{X:Cx}{Q:AC→Prop}(hQ:∀c v,CRel X c v→Q c){x:AV}{v:Value}(H:VRel X x v):∀c∈x.cells,Q c:=by
 cases H with
 | undef=>intro c hc; cases hc
 | no=>intro c hc; cases hc
 | v h=>exact h.all hQ
 | tup h=>exact h.all hQ
 | ev h=>intro c hc; simp only[AV.cells,zZ] at hc; subst hc; exact hQ _ _ h
theorem Rel.uses(R:Rel A B w0 nm σ tmps w){Q:AC→Prop}(hQ:∀c v,CRel (cx A nm σ w) c v→Q c):∀c,σ.Uses c→Q c:=by
 rintro c (⟨k,hc⟩|⟨id,cs,hf,hc⟩)
 ·exact(R.env k).all hQ c hc
 ·obtain⟨_,C,t,_,_,h3⟩:=R.bxs id cs hf;exact h3.all hQ c hc
theorem Rel.tg(R:Rel A B w0 nm σ tmps w){b:zC}(h:σ.tg b):∃C,A9 A nm w b C:=by
 obtain⟨c,hu,ht⟩:=h;exact R.uses (Q:=fun c=>c.tg σ.rows b→∃C,A9 A nm w b C) (fun c v H ht=>CRel.tg (X:=cx A nm σ w) H ht) c hu ht
theorem St.tg_own{k id sz b:zC}{es:Z (Z D)}(h:σ.get k= .v (.sc (.own id)))(hf:A1 σ.rows id=O (sz,es))(ht:BS b es):σ.tg b:=
 ⟨.own id,.inl ⟨k,by rw[h]; simp[AV.cells,V1.cells]⟩,sz,es,hf,ht⟩
end
mutual
inductive Un:D→D→Prop
 | same {d}:Un d d
 | slb {b k es es'}:UnRows es es'→Un (.slb b k es) (.sl es')
 | sl {es es'}:UnRows es es'→Un (.sl es) (.sl es')
inductive Uns:Z D→Z D→Prop
 | nil:Uns [] []
 | cons {d d' ds ds'}:Un d d'→Uns ds ds'→Uns (d::ds) (d'::ds')
inductive UnRows:Z (Z D)→Z (Z D)→Prop
 | nil:UnRows [] []
 | cons {d d' ds ds'}:Uns d d'→UnRows ds ds'→UnRows (d::ds) (d'::ds')
end
theorem Uns.refl:∀{ds:Z D},Uns ds ds
 | []=> .nil
 | _::_=> .cons .same .refl
theorem UnRows.refl:∀{ds:Z (Z D)},UnRows ds ds
 | []=> .nil
 | _::_=> .cons .refl .refl
theorem Uns.len:∀{a b:Z D},Uns a b→a.length=b.length
 | _,_,.nil=>rfl
 | _,_,.cons _ h=>by simp[h.len]
theorem UnRows.len:∀{a b:Z (Z D)},UnRows a b→a.length=b.length
 | _,_,.nil=>rfl
 | _,_,.cons _ h=>by simp[h.len]
mutual
theorem Rep.un{h:A6}:∀{d d':D} {v:Value},Un d d'→Rep h d v→Rep h d' v
 | _,_,_,.same,H=>H
 | _,_,_,.slb u,.slb a z b c d e _=> .sl a z (RepRows.un u b) (c.trans u.len) d e
 | _,_,_,.sl u,.nil=>by cases u; exact .nil
 | _,_,_,.sl u,.sl a z b c d e=> .sl a z (RepRows.un u b) (c.trans u.len) d e
theorem Reps.un{h:A6}:∀{d d':Z D} {v:Z Value},Uns d d'→Reps h d v→Reps h d' v
 | _,_,_,.nil,.nil=> .nil
 | _,_,_,.cons u us,.cons a b=> .cons (Rep.un u a) (Reps.un us b)
theorem RepRows.un{h:A6}{sz:zC}:∀{d d':Z (Z D)} {v:Z Value},UnRows d d'→RepRows h sz d v→RepRows h sz d' v
 | _,_,_,.nil,.nil=> .nil
 | _,_,_,.cons u us,.cons a b c=> .cons (u.len.symm.trans a) (Reps.un u b) (RepRows.un us c)
end
inductive UnV:DV→DV→Prop
 | sc {d d'}:Un d d'→UnV (.sc d) (.sc d')
 | ag {d d'}:Uns d d'→UnV (.ag d) (.ag d')
inductive UnVs:Z DV→Z DV→Prop
 | nil:UnVs [] []
 | cons {d d' ds ds'}:UnV d d'→UnVs ds ds'→UnVs (d::ds) (d'::ds')
theorem UnV.refl{d:DV}:UnV d d:=by cases d<;>first | exact .sc .same | exact .ag .refl
theorem UnVs.refl:∀{ds:Z DV},UnVs ds ds
 | []=> .nil
 | _::_=> .cons .refl .refl
theorem DVRels.un{h:A6}:∀{d d':Z DV} {v:Z Value},UnVs d d'→DVRels h d v→DVRels h d' v
 | _,_,_,.nil,.nil=> .nil
 | _,_,_,.cons (.sc u) us,.cons (.sc a) b=> .cons (.sc (a.un u)) (b.un us)
 | _,_,_,.cons (.ag u) us,.cons (.ag a e) b=> .cons (.ag (a.un u) (u.len.symm.trans e)) (b.un us)
theorem FC.un{P:Program}{f:FuncId}{ds ds':Z DV}{rs:Z R1}(H:FC P f ds rs)(u:UnVs ds' ds):FC P f ds' rs:=fun w A vs hG hvs=>H w A vs hG (hvs.un u)
def RC.tg(b:zC):RC→Prop
 | .v d=>Tg b d
 | .o _ es=>BS b es
def R1s.tg(b:zC)(rs:Z R1):Prop:=∃c∈rs.flatMap R1.cells,c.tg b
def FCs(P:Program)(f:FuncId)(ds:Z DV)(RS:Z R1→Prop):Prop:=
 ∀(w:World) (A:B9) (vs:Z Value),GoodW w→DVRels (Ai A w) ds vs→Calls P f vs.toArray w fun e w'=>
  ∃(rs:Z R1) (v:Value) (bs:Z (I zC)),RS rs∧e= .returned v∧RowKit.Below w.heap.size w w'∧RRel (Ai (fun b fr=>O b∉bs∧((w.heap.size≤b∧fr=(0,0))∨False)) w') w' rs v bs∧
   (∀b,O b∈bs→w.heap.size≤b∧b<w'.heap.size)∧(∀(i j b:zC),bs[i]?=O (O b)→bs[j]?=O (O b)→i=j)
theorem FCf.s{P:Program}{f:FuncId}{ds:Z DV}{rs:Z R1}(H:FCf P f ds rs):FCs P f ds (· = rs):=fun w A vs hG hvs=>(H w A vs hG hvs).mono fun e w' ⟨v,bs,h⟩=>⟨rs,v,bs,rfl,h⟩
theorem FCs.mono{P:Program}{f:FuncId}{ds:Z DV}{RS RS':Z R1→Prop}(H:FCs P f ds RS)(h:∀rs,RS rs→RS' rs):FCs P f ds RS':=fun w A vs hG hvs=>(H w A vs hG hvs).mono fun e w' ⟨rs,v,bs,h1,h2⟩=>⟨rs,v,bs,h rs h1,h2⟩
theorem FC.newf{P:Program}{f:FuncId}{ds:Z DV}{rs:Z R1}(H:FC P f ds rs)(hf:Cu rs):FCf P f ds rs:=fun w A vs hG hvs=>(H w A vs hG hvs).mono fun e w' ⟨v,bs,h1,h2,h3,h4⟩=>⟨v,bs,h1,h2,h3.conv fun c hc=> .inr (hf c hc),h4⟩
theorem RCRel.tg{h:A6}{w:World}{b:zC}{c:RC}{v:Value}{o:I zC}(H:RCRel h w c v o)(ht:c.tg b):∃C,h b C:=by
 cases H with
 | v a=>exact a.tg ht
 | nil=>obtain⟨r,hr,_⟩:=ht; cases hr
 | o a _=>exact a.tg ht
theorem RCRels.get{h:A6}{w:World}{c:RC}:∀{cs:Z RC} {vs:Z Value} {bs:Z (I zC)},RCRels h w cs vs bs→c∈cs→∃v o,RCRel h w c v o
 | _,_,_,.nil,hc=>by cases hc
 | _,_,_,.cons a b,hc=>by
  rcases zR.1 hc with rfl|hc
  ·exact⟨_,_,a⟩
  ·exact b.get hc
theorem R1Rel.get{h:A6}{w:World}{c:RC}{r:R1}{v:Value}{bs:Z (I zC)}(H:R1Rel h w r v bs)(hc:c∈r.cells):∃v o,RCRel h w c v o:=by
 cases H with
 | sc a=>exact(RCRels.cons a .nil).get hc
 | ag a=>exact a.get hc
theorem R1Rels.get{h:A6}{w:World}{c:RC}:∀{rs:Z R1} {vs:Z Value} {bs:Z (I zC)},R1Rels h w rs vs bs→c∈rs.flatMap R1.cells→∃v o,RCRel h w c v o
 | _,_,_,.nil,hc=>by simp at hc
 | _,_,_,.cons a b,hc=>by
  simp only[List.flatMap_cons,List.mem_append] at hc
  exact hc.elim a.get b.get
theorem RRel.get{h:A6}{w:World}{c:RC}{rs:Z R1}{v:Value}{bs:Z (I zC)}(H:RRel h w rs v bs)(hc:c∈rs.flatMap R1.cells):∃v o,RCRel h w c v o:=by
 cases H with
 | one a=>exact a.get (by simpa using hc)
 | many _ a=>exact a.get hc
section
variable {P : Program} {A : Ar} {B : zC} {w0 : Base} {w : World} {nm : Aa} {σ : St} {tmps : Array Value}
theorem A51{b:zC}{C:Z Value}(h:A9 A nm w b C):b<w.heap.size:=by
 obtain⟨_,c,t,fr,_,h2,_⟩:=h;exact DM h2
def Xx(σ:St)(rs:Z R1):Prop:=∀t t',σ.tg t→R1s.tg t' rs→t<t'
theorem FCs.callS{f:FuncId}{ds ds':Z DV}{RS:Z R1→Prop}(H:FCs P f ds RS){d:zC}{avs:Z AV}(hx:σ.toDL avs=O ds')(hu:UnVs ds' ds)(hfr:σ.fresh d=T)(h64:∀rs,RS rs→(rs.flatMap R1.cells).length≤64) :
  Qq P f avs σ fun σ' r=>∃rs,RS rs∧Xx σ rs∧σ'={σ with rows:=Bi σ.rows (BH d rs)}∧r=BK d rs:=by
 intro A B w0 w nm tmps vs R hvs;refine(H w (fun _ _=>True) vs (R.good w R.below) (((VF R hvs hx).un hu).mono fun _ _ h=>W6 h)).mono fun e w' h=> ?_
 obtain⟨rs,v,bs,hrs,rfl,h2,h3,h4,h5⟩:=h;obtain⟨nm',R',hv⟩:=R.behind0 hfr (h64 _ hrs) (A':=fun _ _=>False) (.inl fun _ _ h=>h.elim) h2 h3 h4 h5;refine⟨v,nm',_,_,zE,⟨rs,hrs,fun t t' ht ht'=> ?_,zE,zE⟩,R',hv⟩;obtain⟨C,hC⟩:=R.tg ht;obtain⟨c,hc,hct⟩:=ht';obtain⟨v1,o1,hr1⟩:=h3.get hc;obtain⟨C',cc,tt,fr,⟨_,k⟩,_⟩:=hr1.tg hct;have:=A51 hC;rcases k with k|k
 ·omega
 ·exact k.elim
theorem Pd{k:Z Fr}{Q:Xl→St→Prop}{its:Z AItem}{d f:zC}{args:Z Opd}{ds ds':Z DV}{RS:Z R1→Prop}(H:FCs P f ds RS)(hx:σ.toDL (args.map σ.val)=O ds')(hu:UnVs ds' ds)(hfr:σ.fresh d=T)(h64:∀rs,RS rs→(rs.flatMap R1.cells).length≤64)
  (h:∀rs,RS rs→Xx σ rs→go P (.ops its::k) Q .normal (O (σ.inst d rs))):go P (.ops ((U,.call d f args)::its)::k) Q .normal (O σ):=
 .inr (.inr ⟨_,H.callS hx hu hfr h64,fun _ _ ⟨rs,h1,h2,e1,e2⟩=>by subst e1 e2; exact h rs h1 h2⟩)
end
def MF(ts:Z RV)(RS:Z R1→Prop)(e:Xl)(σ:St):Prop:=∃rs,RS rs∧A5 ts rs e σ
section
variable {P : Program}
theorem gW(hm:P.follows .mixedOrders=T){f:FuncId}{fn:Func}{C:Code}{c:Xg}{ts:Z RV}{ds:Z DV}{RS:Z R1→Prop}(hf:P.funcs[f]?=O fn)(hb:fn.body=O C)(hc:Bd P fn.ntmps C=O c.strip)
  (hr:DS P fn.results.toList=O ts) (hl:ds.length≤fn.ntmps) (h:B5 P c (MF ts RS) (St.initO ds)):FCs P f ds RS:=by
 intro w A0 vs hG hvs;refine calls_of_wp hf hb ?_;have hlen:=hvs.len;refine wp_mono (Ic (df:= []) hm c C _ (fun _=>U) (St.initO ds) _ w hc h (au fn.ntmps hG hvs) (by simp; omega) zE) fun e a w' hp=> ?_
 obtain⟨e',nm,σ,he,⟨rs,hrs,hq⟩,R,hnt,hdf⟩:=hp
 have key:Qw ts rs σ→a.defers= []∧∃v,(results fn a.tmps).run P w'= .ok v w'∧∃(rs:Z R1) (v':Value) (bs:Z (I zC)),RS rs∧Ending.returned v= .returned v'∧RowKit.Below w.heap.size w w'∧
   RRel (Ai (fun b fr=>O b∉bs∧((w.heap.size≤b∧fr=(0,0))∨False)) w') w' rs v' bs∧(∀b,O b∈bs→w.heap.size≤b∧b<w'.heap.size)∧(∀(i j b:zC),bs[i]?=O (O b)→bs[j]?=O (O b)→i=j):=by
  rintro⟨ho,hnd⟩
  let ids:=D1 σ ts rs
  have hbs:∀b,O b∈ids.map (Ba nm)→∃id,O id∈ids∧nm (2*id+1)=O b:=by
   intro b hb;obtain⟨o,ho,hb⟩:=zV.1 hb;cases o with
   | none=>simp[Ba] at hb
   | some id=>exact⟨id,ho,hb⟩
  have hview:∀b C,A9 (fun b fr=>w.heap.size≤b∧fr=(0,0)) nm w' b C→Ai (fun b fr=>O b∉ids.map (Ba nm)∧((w.heap.size≤b∧fr=(0,0))∨False)) w' b C:=by
   rintro b C ⟨h1,c,t,fr,h2,h3⟩
   refine⟨c,t,fr,⟨fun hb=> ?_,.inl h2⟩,h3⟩;obtain⟨id,_,hn⟩:=hbs b hb;exact h1 _ hn
  obtain⟨vs',hrun,hvl,hrel⟩:=HR (P:=P) (f:=fun | .tmp t=>pure (a.tmps.getD t undef) | .cell c t=>do loadVar t (← asAddr (a.tmps.getD c undef))) R hview (fun _=>rfl) (fun _ _=>rfl) hr ho;refine⟨hdf,(if h:vs'.length=1 then vs'[0] else .tuple vs'.toArray),?_,rs,_,ids.map (Ba nm),hrs,zE,R.below.plain (fun _=>rfl),?_,fun b hb=> ?_,fun i j b hi hj=> ?_⟩
  ·unfold results;rw[← Array.toArray_toList (xs:=fn.results)];simp only[yJ,Sem.run_bind,map_eq_pure_bind];erw [hrun]
   simp only[Result.andThen_ok,Sem.run_pure];simp
  ·split
   ·rename_i h1
    obtain⟨v1,rfl⟩:=zT.1 h1;have hrl:rs.length=1:=by rw[ho.len,← hvl]; exact h1
    obtain⟨r,rfl⟩:=zT.1 hrl;revert hrel
    show R1Rels _ _ [r] [v1] (ids.map (Ba nm))→_
    generalize ids.map (Ba nm)=bs
    intro hrel;cases hrel with
    | cons h1 h2=>
     cases h2;simp only[yB] at h1 ⊢
     exact .one h1
   ·rename_i h1
    refine .many ?_ hrel;rw[ho.len,← hvl];exact h1
  ·obtain⟨id,_,hn⟩:=hbs b hb;obtain⟨k1,k2⟩:=R.names _ _ hn;refine⟨k1.resolve_right ?_,k2⟩;intro hmm;obtain⟨i,_,hi⟩:=Base.of_M hmm;cases hi
  ·simp only[zX,zG] at hi hj
   obtain⟨x,hx,hxb⟩:=hi;obtain⟨y,hy,hyb⟩:=hj;cases x with
   | none=>simp[Ba] at hxb
   | some x=>
    cases y with
    | none=>simp[Ba] at hyb
    | some y=>
     have:=R.inj _ _ _ hxb hyb;have e:x=y:=by omega
     subst e;exact Sz hnd i j x hx hy
 cases e' with
 | normal=>obtain rfl:e= .normal:=he; exact key hq
 | ret=>obtain rfl:e= .ret:=he; exact key hq
 | exit id=>exact hq.elim
 | pan d=>exact hq.elim
theorem gV(hm:P.follows .mixedOrders=T){f:FuncId}{c:Xg}{ts:Z RV}{nt:zC}{ds:Z DV}{RS:Z R1→Prop}(he:AE P f=O (c.strip,ts,nt))(hl:ds.length≤nt)(h:B5 P c (MF ts RS) (St.initO ds)):FCs P f ds RS:=by
 unfold AE at he
 split at he
 ·rename_i fn hf
  split at he
  ·rename_i C ts' hb hr
   simp only[zG] at he
   obtain⟨c',hc,e⟩:=he;cases e;exact gW hm hf hb hc hr hl h
  ·cases he
 ·cases he
theorem T6(hm:P.follows .mixedOrders=T){f nt:zC}{c:Xg}{ts:Z RV}{ds:Z DV}{RS:Z R1→Prop}{σ:St}(he:AE P f=O (c.strip,ts,nt))(hl:zY ds.length nt=T)(hσ:St.initO ds=σ)
  (h:go P [.code c] (MF ts RS) .normal (O σ)):FCs P f ds RS:=gV hm he (zM hl) (hσ▸JV h)
end
def D.tagW(k:I zC)(b:zC):D→D
 | .sl (e::es)=> .slb b k (e::es)
 | d=>d
def RC.tagO(b:zC):RC→RC
 | .o sz es=> .v (D.tagW (O sz) b (.sl es))
 | c=>c
def Qe(g:zC→zC):zC→Z RC→Z RC
 | _,[]=> []
 | j,c::cs=>c.tagO (g j)::Qe g (j+1) cs
def DZ(g:zC→zC):zC→Z R1→Z R1
 | _,[]=> []
 | j,.sc c::rs=> .sc (c.tagO (g j))::DZ g (j+1) rs
 | j,.ag cs::rs=> .ag (Qe g j cs)::DZ g (j+cs.length) rs
theorem OwnB.tagW{h:A6}{w:World}{b sz cap:zC}{es:Z (Z D)}{h':A6}(H:OwnB h w b sz cap es)(hh:∀b C,h b C→h' b C)(hb:∀C t,w.heap[b]?=O (.cells C t (0,0))→h' b C.toList) :
  Rep h' (D.tagW (O sz) b (.sl es)) (.slice (O ⟨b,0,U⟩) es.length cap):=by
 obtain⟨a1,a2,a3,C,t,a4,a5,a6⟩:=H;cases es with
 | nil=>exact .nil
 | cons e es=>exact .slb (C:=C.toList) (hb C t a4) a1 (by simpa using a6.mono hh) rfl a2 a3 (fun s hs=>by cases hs; exact⟨rfl,rfl,by simpa using a5⟩)
theorem RCRel.tagO{h h':A6}{w:World}{c:RC}{v:Value}{o:I zC}(H:RCRel h w c v o)(hh:∀b C,h b C→h' b C)(hb:∀b C t,o=O b→w.heap[b]?=O (.cells C t (0,0))→h' b C.toList):RCRel h' w (c.tagO (o.getD 0)) v U:=by
 cases H with
 | v a=>exact .v (a.mono hh)
 | nil=>exact .v .nil
 | o a hl=>subst hl; exact .v (a.tagW hh fun C t e=>hb _ C t rfl e)
theorem RCRels.tagO{h h':A6}{w:World}{g:zC→zC}:∀{cs:Z RC} {vs:Z Value} {bs:Z (I zC)} {j:zC},RCRels h w cs vs bs→(∀b C,h b C→h' b C)→(∀b C t,O b∈bs→w.heap[b]?=O (.cells C t (0,0))→h' b C.toList)→
  (∀(i:zC) (o:I zC),bs[i]?=O o→g (j+i)=o.getD 0)→RCRels h' w (Qe g j cs) vs (bs.map fun _=>U)
 | _,_,_,_,.nil,_,_,_=> .nil
 | _,_,_,j,.cons a b,hh,hb,hg=>by
  refine .cons ?_ (RCRels.tagO b hh (fun b C t hm=>hb b C t (zO _ hm)) fun i o hi=> ?_)
  ·have:=hg 0 _ rfl;rw[Nat.add_zero] at this
   rw[this];exact a.tagO hh fun b C t e=>hb b C t (by rw[e]; exact zP)
  ·have:=hg (i+1) o (by simpa using hi);rwa [show j+(i+1)=j+1+i by omega] at this
theorem VD{g:zC→zC}:∀{rs:Z R1} {j:zC},(DZ g j rs).length=rs.length
 | [],_=>rfl
 | .sc _::_,_=>by simp[DZ,VD]
 | .ag _::_,_=>by simp[DZ,VD]
theorem R1Rels.tagO{h h':A6}{w:World}{g:zC→zC}:∀{rs:Z R1} {vs:Z Value} {bs:Z (I zC)} {j:zC},R1Rels h w rs vs bs→(∀b C,h b C→h' b C)→(∀b C t,O b∈bs→w.heap[b]?=O (.cells C t (0,0))→h' b C.toList)→
  (∀(i:zC) (o:I zC),bs[i]?=O o→g (j+i)=o.getD 0)→R1Rels h' w (DZ g j rs) vs (bs.map fun _=>U)
 | _,_,_,_,.nil,_,_,_=> .nil
 | _,_,_,j,.cons (c:= .sc c) a b,hh,hb,hg=>by
  cases a with | sc a=>
  have h1:=hg 0 _ rfl;rw[Nat.add_zero] at h1
  refine R1Rels.cons (b:= [U]) (.sc ?_) (R1Rels.tagO b hh (fun b C t hm=>hb b C t (zO _ hm)) fun i o hi=> ?_)
  ·rw[h1];exact a.tagO hh fun b C t e=>hb b C t (by rw[e]; exact zP)
  ·have:=hg (i+1) o (by simpa using hi);rwa [show j+(i+1)=j+1+i by omega] at this
 | _,_,_,j,.cons (c:= .ag cs) (bs:=bs2) a b,hh,hb,hg=>by
  rename_i Bc
  cases a with | ag a=>
  have hl:=a.len;rw[yG];refine .cons (.ag (a.tagO hh (fun b C t hm=>hb b C t (List.mem_append_left _ hm)) fun i o hi=>hg i o ?_)) (R1Rels.tagO b hh (fun b C t hm=>hb b C t (List.mem_append_right _ hm)) fun i o hi=> ?_)
  ·rw[List.getElem?_append_left (zJ.1 hi).1]; exact hi
  ·have:=hg (cs.length+i) o (by rw[List.getElem?_append_right (by omega),show cs.length+i - _=i by rw[hl]; omega]; exact hi);rwa [show j+(cs.length+i)=j+cs.length+i by omega] at this
theorem RRel.tagO{h h':A6}{w:World}{rs:Z R1}{v:Value}{bs:Z (I zC)}(H:RRel h w rs v bs)(hh:∀b C,h b C→h' b C)(hb:∀b C t,O b∈bs→w.heap[b]?=O (.cells C t (0,0))→h' b C.toList) :
  RRel h' w (DZ (fun j=>((bs[j]?).join).getD 0) 0 rs) v (bs.map fun _=>U):=by
 have hg:∀(i:zC) (o:I zC),bs[i]?=O o→(fun j=>((bs[j]?).join).getD 0) (0+i)=o.getD 0:=fun i o hi=>by simp[hi]
 cases H with
 | one a=>
  have:=R1Rels.tagO (h':=h') (j:=0) (g:=fun j=>((bs[j]?).join).getD 0) (.cons a .nil) hh (by simpa using hb) (fun i o hi=>hg i o (by simpa using hi));rename_i r
  cases r with
  | sc c=>
   simp only[DZ,yB] at this ⊢
   revert this
   generalize zH (fun _=>U) bs=q
   intro this;cases this with | cons x y=>cases y; rw[yB]; exact .one x
  | ag cs=>
   simp only[DZ,yB] at this ⊢
   revert this
   generalize zH (fun _=>U) bs=q
   intro this;cases this with | cons x y=>cases y; rw[yB]; exact .one x
 | many hl a=>exact .many (by rwa [VD]) (a.tagO hh hb hg)
theorem FCf.tag{P:Program}{f:FuncId}{ds:Z DV}{rs:Z R1}(H:FCf P f ds rs):FCs P f ds fun rs'=>∃g,rs'=DZ g 0 rs:=fun w A vs hG hvs=>(H w A vs hG hvs).mono fun e w' ⟨v,bs,h1,h2,h3,h4,h5⟩=>by
 refine⟨_,v,bs.map fun _=>U,⟨_,zE⟩,h1,h2,h3.tagO (fun b C hC=> ?_) (fun b C t hm hC=> ?_),fun b hb=> ?_,fun i j b hi=> ?_⟩
 ·obtain⟨c,t,fr,⟨_,k⟩,k2⟩:=hC;exact⟨c,t,fr,⟨by simp,k⟩,k2⟩
 ·exact⟨C,t,_,⟨by simp,.inl ⟨(h4 b hm).1,zE⟩⟩,hC,zE⟩
 ·simp at hb
 ·simp at hi
inductive Sh:D→Prop
 | flat {d}:d.flat=T→Sh d
 | nil:Sh (.sl [])
 | slb {b k es}:(∀r∈es,∀d∈r,d.flat=T)→Sh (.slb b k es)
theorem Rep.sh{h h':A6}{d:D}{v:Value}(H:Sh d)(R:Rep h d v)(hh:∀b C,Tg b d→h b C→h' b C):Rep h' d v:=by
 cases H with
 | flat hf=>exact R.flat hf
 | nil=>cases R with
  | nil=>exact .nil
  | sl a z b c d e=>simp at c; subst c; exact .nil
 | slb hf=>cases R with | slb a z b c d e g=>exact .slb (hh _ _ .here a) z (b.flat hf) c d e g
theorem Reps.sh{h h':A6}:∀{ds:Z D} {vs:Z Value},Reps h ds vs→(∀d∈ds,Sh d)→(∀b C,(∃d∈ds,Tg b d)→h b C→h' b C)→Reps h' ds vs
 | _,_,.nil,_,_=> .nil
 | _,_,.cons a b,H,hh=> .cons (a.sh (H _ zP) fun b C ht=>hh b C ⟨_,zP,ht⟩) (b.sh (fun d hd=>H d (zO _ hd)) fun b C ⟨d,hd,ht⟩=>hh b C ⟨d,zO _ hd,ht⟩)
theorem RepRows.sh{h h':A6}{sz:zC}:∀{es:Z (Z D)} {vs:Z Value},RepRows h sz es vs→(∀r∈es,∀d∈r,Sh d)→(∀b C,BS b es→h b C→h' b C)→RepRows h' sz es vs
 | _,_,.nil,_,_=> .nil
 | _,_,.cons a b c,H,hh=> .cons a (b.sh (H _ zP) fun b C ⟨d,hd,ht⟩=>hh b C ⟨_,zP,d,hd,ht⟩) (c.sh (fun r hr=>H r (zO _ hr)) fun b C ⟨r,hr,h2⟩=>hh b C ⟨r,zO _ hr,h2⟩)
def AC.mapD(g:D→D):AC→AC
 | .dat d=> .dat (g d)
 | .mix _=> .undef
 | c=>c
theorem CRel.shift{X Y:Cx}{g:D→D}{c:AC}{v:Value}(H:CRel X c v)(hd:∀d v,c= .dat d→Rep X.h d v→Rep Y.h (g d) v)(hnm:∀i,Y.nm i=X.nm i)(hdead:∀id,A1 X.rs id=U→A1 Y.rs id=U)
  (hrow:∀id sz es,c.has id=T→A1 X.rs id=O (sz,es)→∃es',es'.length=es.length∧A1 Y.rs id=O (sz,es')∧∀b cap,X.nm (2*id+1)=O b→OwnB X.h X.w b sz cap es→OwnB Y.h Y.w b sz cap es')
  (hz:Y.o=X.o∧Y.v=X.v∧Y.new=X.new):CRel Y (c.mapD g) v:=by
 have h1:=H.one;cases H with
 | undef h=>exact .undef h
 | dat h=>exact .dat (hd _ _ rfl h)
 | @ownNil id sz a0 hf hn=>
  obtain⟨es',e1,e2,_⟩:=hrow id sz [] (by simp[AC.has]) hf;obtain rfl:=zL.1 e1;exact .ownNil e2 ((hnm _).trans hn)
 | @own id sz es b cap len hf hn hown hl=>
  obtain⟨es',e1,e2,e3⟩:=hrow id sz es (by simp[AC.has]) hf;exact .own e2 ((hnm _).trans hn) (e3 _ _ hn hown) (hl.trans e1.symm)
 | ownDead hf _=>exact .ownDead (hdead _ hf) h1
 | @osubNil id sz a0 hf hn=>
  obtain⟨es',e1,e2,_⟩:=hrow id sz [] (by simp[AC.has]) hf;obtain rfl:=zL.1 e1;exact .osubNil e2 ((hnm _).trans hn)
 | @osub id sz es lo hi b cap cap' len off hf hn hown a1 a2 a3 a4 a5 a6=>
  obtain⟨es',e1,e2,e3⟩:=hrow id sz es (by simp[AC.has]) hf;exact .osub e2 ((hnm _).trans hn) (e3 _ _ hn hown) a1 (e1▸a2) a3 a4 a5 a6
 | osubDead hf _=>exact .osubDead (hdead _ hf) h1
 | nil=>exact .nil
 | pb hb=>exact .pb ((hnm _).trans hb)
 | @pe id sz es idx off b cap o hf hn hown a1 a2=>
  obtain⟨es',e1,e2,e3⟩:=hrow id sz es (by simp[AC.has]) hf;exact .pe e2 ((hnm _).trans hn) (e3 _ _ hn hown) (e1▸a1) a2
 | peDead hf _=>exact .peDead (hdead _ hf) h1
 | clo hb=>exact .clo (by rw[show(fun i=>Y.nm (2*i))=fun i=>X.nm (2*i) from funext fun i=>hnm _]; exact hb)
 | z=>exact .z
 | old hn hd=>exact .old (hz.2.2.trans hn) (hz.1▸hd)
 | nw hn ho=>exact .nw (hz.2.2.trans hn) ho
 | mix h=>exact .undef h1
 | vol p q=>exact .vol (hz.2.1▸p) q
 | ipb hb=>exact .ipb ((hnm _).trans hb)
def D.upd(b:zC)(ps:Z (Z D)):D→D
 | .slb t k es=>bif t==b then .slb t k ps else .slb t k es
 | d=>d
def St.updT(σ:St)(b:zC)(ps:Z (Z D)):St:={σ.map (AC.mapD (D.upd b ps)) with rows:=σ.rows.map fun p=>(p.1,p.2.1,p.2.2.map (zH (D.upd b ps)))}
def Gz(b sz:zC)(ps:Z (Z D))(d:D):Prop:=Sh d∧∀k es,d= .slb b k es→k=O sz∧es=ps
theorem U0{f:Z (Z D)→Z (Z D)}:∀(rs:Rows) (id:zC),A1 (rs.map fun p=>(p.1,p.2.1,f p.2.2)) id=(A1 rs id).map fun p=>(p.1,f p.2)
 | [],_=>rfl
 | (k,s,es)::rs,id=>by
  simp only[yS,A1];cases k==id with
  | true=>rfl
  | false=>exact U0 rs id
theorem Rep.upd{h h':A6}{b sz:zC}{ps ps':Z (Z D)}{d:D}{v:Value}(ho:Gz b sz ps d)(R:Rep h d v)(hh:∀t C,t≠b→h t C→h' t C)(hn:∀v,Rep h (.slb b (O sz) ps) v→Rep h' (.slb b (O sz) ps') v):Rep h' (d.upd b ps') v:=by
 obtain⟨hs,hk⟩:=ho;cases hs with
 | flat hf=>
  have e:d.upd b ps'=d:=by cases d<;>first | rfl | cases hf
  rw[e];exact R.flat hf
 | nil=>exact R.sh .nil fun t C ht=>by cases ht; simp_all
 | @slb t k es hf=>
  by_cases ht:t=b
  ·subst ht;obtain⟨rfl,rfl⟩:=hk _ _ rfl;simp only[D.upd,beq_self_eq_true,cond_true];exact hn v R
  ·have e:(t==b)=F:=by simpa using ht
   simp only[D.upd,e,cond_false];exact R.sh (.slb hf) fun t' C h1 h2=>by cases h1; exact hh _ C ht h2
theorem Reps.upd{h h':A6}{b sz:zC}{ps ps':Z (Z D)}(hh:∀t C,t≠b→h t C→h' t C)(hn:∀v,Rep h (.slb b (O sz) ps) v→Rep h' (.slb b (O sz) ps') v):∀{ds:Z D} {vs:Z Value},Reps h ds vs→(∀d∈ds,Gz b sz ps d)→Reps h' (ds.map (D.upd b ps')) vs
 | _,_,.nil,_=> .nil
 | _,_,.cons a r,H=> .cons (a.upd (H _ zP) hh hn) (r.upd hh hn fun d hd=>H d (zO _ hd))
theorem RepRows.upd{h h':A6}{b sz n:zC}{ps ps':Z (Z D)}(hh:∀t C,t≠b→h t C→h' t C)(hn:∀v,Rep h (.slb b (O sz) ps) v→Rep h' (.slb b (O sz) ps') v):∀{es:Z (Z D)} {vs:Z Value},RepRows h n es vs→(∀r∈es,∀d∈r,Gz b sz ps d)→RepRows h' n (es.map (zH (D.upd b ps'))) vs
 | _,_,.nil,_=> .nil
 | _,_,.cons a r c,H=> .cons (by simpa using a) (r.upd hh hn (H _ zP)) (c.upd hh hn fun d hd=>H d (zO _ hd))
section
variable {P : Program} {A : Ar} {B : zC} {w0 : Base} {w : World} {nm : Aa} {σ : St} {tmps : Array Value}
theorem Rel.isNw(R:Rel A B w0 nm σ tmps w){k:zC}(h:σ.get k= .ev .nw):A.new=T:=by
 have H:=R.env k;rw[h] at H
 cases H with | ev H=>cases H with | nw hn _=>exact hn
theorem FCx.callT{f:FuncId}{x r:D}{sz b k:zC}{ps ps':Z (Z D)}(H:FCx P f [.sc (.r 0),.sc (.d x)] [(sz,ps)] [(sz,ps')] r)(hl:ps'.length=ps.length)(hfl:∀r∈ps,∀d∈r,d.flat=T)(hfl':∀r∈ps',∀d∈r,d.flat=T)(hx:x.flat=T)(hnw:σ.get k= .ev .nw)
  (hok:∀c,σ.Uses c→∀d,c= .dat d→Gz b sz ps d) (hrows:∀id s es,A1 σ.rows id=O (s,es)→∀r∈es,∀d∈r,Gz b sz ps d) :
  CallC P f [.v (.sc (.dat (.slb b (O sz) ps))),.v (.sc (.dat x))] σ (σ.updT b ps') (.v (.sc (.dat r))):=by
 intro A B w0 w nm tmps vs R hvs;have hnew:=R.isNw hnw
 obtain⟨v0,vx,rfl⟩:∃v0 vx,vs= [v0,vx]:=by
  have:=hvs.1
  match vs,this with
  | [a,b],_=>exact⟨a,b,rfl⟩
 have h0:=(hvs.2 0 _ v0 rfl rfl).inv_sc.inv_dat;have hxv:=(hvs.2 1 _ vx rfl rfl).inv_sc.inv_dat;cases h0 with | @slb _ _ _ C sz' off cap len hC hz hrep hlen hcap hmax hwhole=>
 obtain⟨rfl,rfl,hCl⟩:=hwhole _ rfl;obtain⟨hun,c,t,fr,hA,hheap,rfl⟩:=hC;obtain⟨hBb,rfl⟩:=R.all.new hnew b fr hA;have hM:B≤b∨w0.M b:=hBb.imp id .inr
 have hnp:∀i q,Bf [O b] i=O q→q=b:=fun i q e=>by
  obtain⟨j,_,h2⟩:=HP e;cases j with
  | zero=>simpa using h2.symm
  | succ j=>simp at h2
 have after:∀w2,BelowX w.heap.size (.of w (Bf [O b])) w2→BelowX B w0 w2:=fun w2 h=>R.below.after h R.size R.there fun i q e=>hnp i q e▸hM
 have own0:OwnB BN w b sz cap ps:=⟨hz,hlen▸hcap,hmax,c,t,hheap,by simpa using hCl,by simpa using hrep.flat hfl⟩;refine(H w [_,vx] [O b] rfl (fun i j q hi hj=> ?_) (fun q hq=> ?_) (fun w2 h=>R.good w2 (after w2 h)) (.cons (.sc (.r zE zE own0 hlen)) (.cons (.sc (.d (hxv.flat hx))) .nil))).mono fun e w' h=> ?_
 ·cases i with
  | zero=>cases j with
   | zero=>rfl
   | succ j=>simp at hj
  | succ i=>simp at hi
 ·simp at hq; subst hq; exact DM hheap
 obtain⟨v,rfl,hb,hv,hrow⟩:=h;obtain⟨sz2,es2,cap2,e1,a1,a2,a3,C2,t2,a4,a5,a6⟩:=hrow 0 b rfl;simp at e1
 obtain⟨rfl,rfl⟩:=e1;have hMb:∀q,(Base.of w (Bf [O b])).M q→q=b:=fun q hq=>by obtain⟨i,_,e⟩:=Base.of_M hq; exact hnp i q e
 have hsame:∀q,q<w.heap.size→q≠b→w'.heap[q]?=w.heap[q]?:=fun q hq hne=>hb.block q hq (fun h=>hne (hMb q h)) fun h=>h.elim
 have hpin:Bf [O b] (AG+2*0+1)=O b:=Ml (bs:= [O b]) (j:=0) (o:=some b) rfl
 have hMbb:(Base.of w (Bf [O b])).M b:=by
  generalize AG+2*0+1=i at hpin
  obtain⟨j,rfl,_⟩:=HP hpin;exact .inl ⟨_,Nat.le_add_right_of_le (Nat.le_add_right _ _),hpin⟩
 have hsz:C2.size=c.size∧t2=t:=by
  obtain⟨C',k1,k2⟩:=hb.room b hMbb _ _ _ hheap;rw[a4] at k1
  cases k1;exact⟨k2,zE⟩
 have hcap2:cap2=cap:=by
  have h1:cap2*sz=cap*sz:=by rw[← a5,hsz.1,← hCl,Array.length_toList]
  exact yC hz h1
 have hh:∀q D0,q≠b→A9 A nm w q D0→A9 A nm w' q D0:=fun q D0 hq ⟨g1,cc,tt,fr,g2,g3,g4⟩=>⟨g1,cc,tt,fr,g2,(hsame q (DM g3) hq).trans g3,g4⟩
 have hnw2:∀u,Rep (A9 A nm w) (.slb b (O sz) ps) u→Rep (A9 A nm w') (.slb b (O sz) ps') u:=fun u hu=>by
  cases hu with | @slb _ _ _ D0 s2 o2 cp2 ln2 g1 g2 g3 g4 g5 g6 g7=>
  obtain⟨rfl,rfl,g8⟩:=g7 _ rfl;obtain⟨_,cc,tt,fr,_,g9,rfl⟩:=g1;rw[hheap] at g9
  cases g9;have ecap:cp2=cap:=yC hz (g8.symm.trans hCl);subst ecap
  exact .slb (C:=C2.toList) ⟨hun,C2,t2,_,hA,a4,zE⟩ g2 (by simpa using a6.mono Gm) (g4.trans hl.symm) g5 g6 fun s hs=>by
   cases hs;exact⟨zE,zE,by rw[Array.length_toList,a5,hcap2]⟩
 have hnmb:∀i q,nm i=O q→q≠b:=fun i q hi e=>hun i (e▸hi)
 refine⟨v,nm,zE,?_,.v (.sc (.dat (hv.mono Gm)))⟩;refine R.carry (f:=AC.mapD (D.upd b ps')) (after w' hb) (zN R.size hb.size) (fun i q hi=> ?_) R.inj (fun _ _=>rfl) (fun q=>St.get_map) (fun id=>Hz) (fun id cs _ q hq=>⟨hq,hsame q (R.names _ _ hq).2 (hnmb _ _ hq)⟩) (fun c v hu hr=> ?_)
 ·obtain⟨h1,h2⟩:=R.names i q hi;exact⟨h1,zS h2 hb.size⟩
 ·refine hr.shift (fun d u e hd=>hd.upd (hok c hu d e) hh hnw2) (fun _=>rfl) (fun id hf=> ?_) (fun id s es _ hf=> ?_) ⟨zE,zE,zE⟩
  ·show A1 (σ.rows.map _) id=U
   rw[U0 (f:=zH (zH (D.upd b ps'))),show A1 σ.rows id=U from hf];rfl
  ·refine⟨es.map (zH (D.upd b ps')),by simp,?_,fun q cp hq ho=> ?_⟩
   ·show A1 (σ.rows.map _) id=_
    rw[U0 (f:=zH (zH (D.upd b ps'))),show A1 σ.rows id=O (s,es) from hf];rfl
   ·obtain⟨b1,b2,b3,C3,t3,b4,b5,b6⟩:=ho;exact⟨b1,by simpa using b2,b3,C3,t3,(hsame q (R.names _ _ hq).2 (hnmb _ _ hq)).trans b4,b5,b6.upd hh hnw2 (hrows id s es hf)⟩
end
def Ia(w:World)(bs:Z (I zC))(ms:zC→Prop):Base:=⟨w,Bf bs,fun b=>ms b∧b<w.heap.size,fun _ h=>h.2,fun _=>False,fun _ h=>h.elim⟩
def Kl(ms:zC→Prop)(w:World):A6:=Ai (fun b fr=>ms b∧fr=(0,0)) w
def FCm(P:Program)(f:FuncId)(x:D)(sz:zC)(es0 es1:Z (Z D))(r:D):Prop:=
 ∀(w:World) (v vx:Value) (o:I zC) (ms:zC→Prop),(∀b,o=O b→b<w.heap.size∧¬ms b)→(∀w2,BelowX w.heap.size (Ia w [o] ms) w2→GoodW w2)→RCRel (Kl ms w) w (.o sz es0) v o→Rep BN x vx→Calls P f #[v,vx] w fun e w'=>
  ∃v',e= .returned v'∧BelowX w.heap.size (Ia w [o] ms) w'∧Rep BN r v'∧∀b,o=O b→∃cap,OwnB (Kl ms w') w' b sz cap es1
theorem Mj{o:I zC}{i b:zC}(h:Bf [o] i=O b):i=AG+1∧o=O b:=by
 obtain⟨j,h1,h2⟩:=HP h;cases j with
 | zero=>exact⟨h1,by simpa using h2⟩
 | succ j=>simp at h2
theorem npOf1_at{o:I zC}:Bf [o] (2*99999999999+1)=o:=by
 have:=Ml (bs:= [o]) (j:=0) (o:=o) rfl;rwa [show AG+2*0+1=2*99999999999+1 by unfold AG; omega] at this
def ML(w:World)(ms:zC→Prop):Ar:=⟨fun b fr=>(w.heap.size≤b∨(ms b∧b<w.heap.size))∧fr=(0,0),BN,BN,T⟩
def St.initM(x:D)(sz:zC)(es0:Z (Z D)):St:=⟨[(0,.v (.sc (.own 99999999999))),(1,.v (.sc (.dat x))),(77777,.ev .nw)],[],[(99999999999,sz,es0)]⟩
theorem wH{w:World}{o:I zC}{ms:zC→Prop}{x:D}{sz:zC}{es0:Z (Z D)}{v vx:Value}(nt:zC)(h2:2≤nt)(hnt:nt≤77777)(ho:∀b,o=O b→b<w.heap.size∧¬ms b)(hG:∀w2,BelowX w.heap.size (Ia w [o] ms) w2→GoodW w2)
  (hr:RCRel (Kl ms w) w (.o sz es0) v o) (hx:Rep BN x vx):Rel (ML w ms) w.heap.size (Ia w [o] ms) (Bf [o]) (St.initM x sz es0) (#[v,vx]++Array.replicate (nt - 2) undef) w:=by
 have hv:∀b C,Kl ms w b C→A9 (ML w ms) (Bf [o]) w b C:=fun b C ⟨c,t,fr,⟨h0,h1⟩,h3,h4⟩=>⟨fun i e=>(ho b (Mj e).2).2 h0,c,t,fr,⟨.inr ⟨h0,DM h3⟩,h1⟩,h3,h4⟩
 refine⟨BelowX.start _ _ (fun _ h=>h.elim),yL _,⟨fun b hb=>⟨hb,zE⟩,fun _ _ h=>h.elim,fun _ _ h=>h.elim,fun _ _ h=>h.elim,fun _ b fr h=>h⟩,hG,fun i b hi=> ?_,fun i j b hi hj=> ?_,fun i hi=>rfl,fun k=> ?_,fun id cs hcs=>by cases hcs⟩
 ·obtain⟨h1,h3⟩:=Mj hi;exact⟨.inr (.inl ⟨i,by omega,hi⟩),(ho b h3).1⟩
 ·rw[(Mj hi).1,(Mj hj).1]
 ·by_cases k0:k=0
  ·subst k0;refine .v (.sc ?_);show CRel _ (.own 99999999999) _
   have e:(#[v,vx]++Array.replicate (nt - 2) undef).getD 0 undef=v:=by rw[Array.getD_eq_getD_getElem?,Array.getElem?_append_left (by simp)]; rfl
   rw[e];have hfd:A1 (cx (ML w ms) (Bf [o]) (St.initM x sz es0) w).rs 99999999999=O (sz,es0):=rfl;have hnd:(cx (ML w ms) (Bf [o]) (St.initM x sz es0) w).nm (2*99999999999+1)=o:=npOf1_at;cases hr with
   | nil=>exact .ownNil hfd hnd
   | o own hl=>exact .own hfd hnd (Ka own hv) hl
  ·by_cases k1:k=1
   ·subst k1;refine .v (.sc (.dat ?_));have e:(#[v,vx]++Array.replicate (nt - 2) undef).getD 1 undef=vx:=by rw[Array.getD_eq_getD_getElem?,Array.getElem?_append_left (by simp)]; rfl
    rw[e];exact hx.mono Gm
   ·by_cases k2:k=77777
    ·subst k2;exact .ev (u:= .bool T) (.nw zE zE)
    ·have:(St.initM x sz es0).get k= .undef:=by
      have e0:(0==k)=F:=by simpa using fun e=>k0 e.symm
      have e1:(1==k)=F:=by simpa using fun e=>k1 e.symm
      have e2:(77777==k)=F:=by simpa using fun e=>k2 e.symm
      simp[St.get,St.initM,A1,e0,e1,e2]
     rw[this];exact .undef
section
variable {P : Program}
theorem gT(hm:P.follows .mixedOrders=T){f:FuncId}{c:Xg}{ts:Z RV}{nt sz:zC}{x r:D}{es0 es1:Z (Z D)}{p:zC × zC}(he:AE P f=O (c.strip,ts,nt))(h2:zY 2 nt=T)(hnt:zY nt 77777=T)(hrf:r.flat=T)
  (hsh:∀q∈es1,∀d∈q,Sh d) (htg:∀b,BS b es1→BS b es0) (h:B5 P c (CD ts r [(sz,es1)] [p]) (St.initM x sz es0)):FCm P f x sz es0 es1 r:=by
 unfold AE at he
 split at he
 ·rename_i fn hf
  split at he
  ·rename_i C ts' hb hr
   simp only[zG] at he
   obtain⟨c',hc,e⟩:=he;cases e;intro w v vx o ms ho hG hrc hx;refine calls_of_wp hf hb ?_
   have htn:∀b,BS b es0→ms b:=fun b ht=>by
    cases hrc with
    | nil=>obtain⟨q,hq,_⟩:=ht; cases hq
    | o own _=>
     obtain⟨C,c,t,fr,⟨k,_⟩,_⟩:=own.tg ht;exact k
   have h2':=zM h2;refine wp_mono (Ic (df:= []) hm c C _ (Bf [o]) (St.initM x sz es0) ⟨#[v,vx]++Array.replicate (fn.ntmps - 2) undef,[]⟩ w hc h (wH fn.ntmps h2' (zM hnt) ho hG hrc hx) (by simp; omega) zE) fun e a w' hq=> ?_
   obtain⟨e',nm,σ,he,hq,R,hnt,hdf⟩:=hq
   have key:OutVs σ ts [.sc (.v r)]∧RowsOut σ 0 [(sz,es1)] [p]→a.defers= []∧∃v,(results fn a.tmps).run P w'= .ok v w'∧∃v',Ending.returned v= .returned v'∧BelowX w.heap.size (Ia w [o] ms) w'∧Rep BN r v'∧∀b,o=O b→∃cap,OwnB (Kl ms w') w' b sz cap es1:=by
    rintro⟨ho1,hro⟩
    obtain⟨v,rb,hrun,hrel⟩:=cm R (fun _ _ h=>h) hr ho1;refine⟨hdf,v,hrun,v,zE,R.below,?_,fun b hob=> ?_⟩
    ·cases hrel with
     | one hrel=>
      cases hrel with | sc hrel=>
      cases hrel with | v hrel=>exact hrel.flat hrf
     | many h=>simp at h
    ·obtain⟨row,l,p',y,k1,k2,k3,k4⟩:=hro.there (j:=0) (by simp);simp only[List.getElem?_cons_zero,Option.some.injEq] at k1
     subst k1;rw[Nat.zero_add] at k3 k4
     have hv:=R.env l;rw[k2] at hv
     have hy:V1Rel (cx (ML w ms) nm σ w') y (a.tmps.getD l undef):=by cases hv with | v H=>exact H
     obtain⟨u,_,hcr⟩:=hy.cells.get k3
     have hpin:nm (2*99999999999+1)=O b:=by
      have:=R.pin (2*99999999999+1) (by unfold AG; omega);rw[this];exact npOf1_at.trans hob
     rcases hcr.inv_own k4 with ⟨_,k5,_⟩|⟨b',cap,k5,k6,_⟩
     ·have k5':nm (2*99999999999+1)=U:=k5;rw[hpin] at k5'; cases k5'
     ·have k5':nm (2*99999999999+1)=O b':=k5;rw[hpin] at k5'
      cases k5';obtain⟨a1,a2,a3,C1,t1,a4,a5,a6⟩:=k6;exact⟨cap,a1,a2,a3,C1,t1,a4,a5,a6.sh hsh fun q D0 ht ⟨_,cc,tt,fr,⟨_,g2⟩,g3,g4⟩=>⟨cc,tt,fr,⟨htn q (htg q ht),g2⟩,g3,g4⟩⟩
   cases e' with
   | normal=>obtain rfl:e= .normal:=he; exact key hq
   | ret=>obtain rfl:e= .ret:=he; exact key hq
   | exit id=>exact hq.elim
   | pan d=>exact hq.elim
  ·cases he
 ·cases he
theorem gU(hm:P.follows .mixedOrders=T){f:FuncId}{c:Xg}{ts:Z RV}{nt sz:zC}{x r:D}{es0 es1:Z (Z D)}{p:zC × zC}{σ:St}(he:AE P f=O (c.strip,ts,nt))(h2:zY 2 nt=T)(hnt:zY nt 77777=T)(hrf:r.flat=T)
  (hsh:∀q∈es1,∀d∈q,Sh d) (htg:∀b,BS b es1→BS b es0) (hσ:St.initM x sz es0=σ) (h:go P [.code c] (CD ts r [(sz,es1)] [p]) .normal (O σ)):FCm P f x sz es0 es1 r:=gT hm he h2 hnt hrf hsh htg (hσ▸JV h)
end
def AC.apart(rs:Rows)(id:zC)(ms:zC→Prop):AC→Prop
 | .dat d=>Sh d∧∀b,Tg b d→¬ms b
 | .own k | .osub k _ _ | .pe k _ _=>k=id∨∀s es,A1 rs k=O (s,es)→(∀r∈es,∀d∈r,Sh d)∧∀b,BS b es→¬ms b
 | .mix _=>False
 | _=>True
section
variable {P : Program} {A : Ar} {B : zC} {w0 : Base} {w : World} {nm : Aa} {σ : St} {tmps : Array Value}
theorem FCm.callC{f:FuncId}{x r:D}{sz id:zC}{es0 es1:Z (Z D)}(H:FCm P f x sz es0 es1 r)(hl:es1.length=es0.length)(hf:A1 σ.rows id=O (sz,es0))(hsh:∀r∈es0,∀d∈r,Sh d)(hx:x.flat=T)
  (hnew:∀{A:Ar} {B:zC} {w0:Base} {w:World} {nm:Aa} {tmps:Array Value},Rel A B w0 nm σ tmps w→A.new=T) (hap:∀c,σ.Uses c→c.apart σ.rows id fun b=>BS b es0) :
  CallC P f [.v (.sc (.own id)),.v (.sc (.dat x))] σ {σ with rows:=put σ.rows id (sz,es1)} (.v (.sc (.dat r))):=by
 intro A B w0 w nm tmps vs R hvs;have hn:=hnew R
 obtain⟨v0,vx,rfl⟩:∃v0 vx,vs= [v0,vx]:=by
  have:=hvs.1
  match vs,this with
  | [a,b],_=>exact⟨a,b,rfl⟩
 have h0:=PW (X:=cx A nm σ w) (hvs.2 0 _ v0 rfl rfl).inv_sc hf;have hxv:=(hvs.2 1 _ vx rfl rfl).inv_sc.inv_dat;let ms:zC→Prop:=fun b=>BS b es0
 have htv:∀b,ms b→∃C,A9 A nm w b C:=fun b hb=>by
  have h0':RCRel (A9 A nm w) w (.o sz es0) v0 (nm (2*id+1)):=h0;exact h0'.tg hb
 have hms:∀b,ms b→(∀i,nm i≠O b)∧(B≤b∨w0.M b)∧b<w.heap.size∧∀fr,A b fr→fr=(0,0):=fun b hb=>by
  obtain⟨C,g1,c,t,fr,g2,g3,_⟩:=htv b hb;exact⟨g1,(R.all.new hn b fr g2).1.elim .inl fun h=> .inr (.inr h),DM g3,fun fr h=>(R.all.new hn b fr h).2⟩
 have hmsA:∀b C,ms b→A9 A nm w b C→Kl ms w b C:=fun b C hb ⟨_,c,t,fr,g2,g3,g4⟩=>⟨c,t,fr,⟨hb,(hms b hb).2.2.2 fr g2⟩,g3,g4⟩
 have hM:∀b,(Ia w [nm (2*id+1)] ms).M b→B≤b∨w0.M b:=fun b hb=>by
  rcases hb with ⟨i,_,e⟩|⟨hb,_⟩
  ·exact(R.names _ _ (Mj e).2).1
  ·exact(hms b hb).2.1
 have after:∀w2,BelowX w.heap.size (Ia w [nm (2*id+1)] ms) w2→BelowX B w0 w2:=fun w2 h=>R.below.afterZ rfl h R.size R.there hM fun b hb=>hb.elim
 have hrc:RCRel (Kl ms w) w (.o sz es0) v0 (nm (2*id+1)):=by
  have h0':RCRel (A9 A nm w) w (.o sz es0) v0 (nm (2*id+1)):=h0;revert h0'
  generalize nm (2*id+1)=o
  intro h0';cases h0' with
  | nil=>exact .nil
  | o own hl=>
   obtain⟨a1,a2,a3,C,t,a4,a5,a6⟩:=own;exact .o ⟨a1,a2,a3,C,t,a4,a5,a6.sh hsh fun b C ht hC=>hmsA b C ht hC⟩ hl
 refine(H w v0 vx (nm (2*id+1)) ms (fun b e=>⟨(R.names _ _ e).2,fun hb=>(hms b hb).1 _ e⟩) (fun w2 h=>R.good w2 (after w2 h)) hrc (hxv.flat hx)).mono fun e w' h=> ?_
 obtain⟨v,rfl,hb,hv,hrow⟩:=h;have hsame:∀b,b<w.heap.size→nm (2*id+1)≠O b→¬ms b→w'.heap[b]?=w.heap[b]?:=fun b hlt h1 h2=>hb.block b hlt (fun hm=>hm.elim (fun⟨i,_,e⟩=>h1 (Mj e).2) fun h=>h2 h.1) fun h=>h.elim
 have hview:∀b C,¬ms b→A9 A nm w b C→A9 A nm w' b C:=fun b C hn ⟨g1,c,t,fr,g2,g3,g4⟩=>⟨g1,c,t,fr,g2,(hsame b (DM g3) (g1 _) hn).trans g3,g4⟩
 have hnb:∀i b,nm i=O b→¬ms b:=fun i b hi hb=>(hms b hb).1 i hi
 refine⟨v,nm,zE,?_,.v (.sc (.dat (hv.mono Gm)))⟩;refine R.carry (f:=fun c=>c) (after w' hb) (zN R.size hb.size) (fun i b hi=> ?_) R.inj (fun _ _=>rfl) (fun k=>by rw[AV.mapId]; rfl) (fun k=>by simp) (fun k cs _ b hbn=>⟨hbn,hsame b (R.names _ _ hbn).2 (fun e=> ?_) (hnb _ _ hbn)⟩) (fun c v hu hr=> ?_)
 ·obtain⟨h1,h2⟩:=R.names i b hi;exact⟨h1,zS h2 hb.size⟩
 ·have:=R.inj _ _ _ hbn e; omega
 ·have hac:=hap c hu;have hsh:=hr.shift (Y:=cx A nm {σ with rows:=put σ.rows id (sz,es1)} w') (g:=fun d=>d) (fun d u e hd=> ?_) (fun _=>rfl) (fun k hk=> ?_) (fun k s es hh hfk=> ?_) ⟨rfl,rfl,rfl⟩
  ·have e:AC.mapD (fun d=>d) c=c:=by cases c<;>first | rfl | exact hac.elim
   rwa [e] at hsh
  ·subst e;exact hd.sh hac.1 fun b C ht hC=>hview b C (hac.2 b ht) hC
  ·have hk':A1 σ.rows k=U:=hk;show A1 (put σ.rows id (sz,es1)) k=U
   rw[Bn _ _ (fun e=>by subst e; rw[hk'] at hf; cases hf)];exact hk'
  ·have hfk':A1 σ.rows k=O (s,es):=hfk;by_cases hki:k=id
   ·subst hki;rw[hf] at hfk'
    cases hfk';refine⟨es1,hl,Bl _ _ _,fun b cap hbn ho=> ?_⟩;obtain⟨cap',a1,a2,a3,C1,t1,a4,a5,a6⟩:=hrow b hbn;obtain⟨b1,b2,b3,C0,t0,b4,b5,b6⟩:=ho
    have hcap:cap'=cap:=by
     obtain⟨C',q1,q2⟩:=hb.room b (.inl ⟨AG+1,by omega,by
      have:=Ml (bs:= [nm (2*k+1)]) (j:=0) (o:=nm (2*k+1)) rfl;rw[show AG+2*0+1=AG+1 by omega] at this
      exact this.trans hbn⟩) C0 t0 _ b4
     rw[a4] at q1
     cases q1;exact yC b1 (a5.symm.trans (q2.trans b5))
    subst hcap
    exact⟨a1,a2,a3,C1,t1,a4,a5,a6.mono fun b C ⟨cc,tt,fr,⟨g1,g2⟩,g3,g4⟩=>by
     obtain⟨C9,h8,c9,t9,fr9,h9,_,_⟩:=htv b g1;subst g2;have e9:=(hms b g1).2.2.2 fr9 h9;subst e9;exact⟨h8,cc,tt,_,h9,g3,g4⟩⟩
   ·refine⟨es,zE,?_,fun b cap hbn ho=> ?_⟩
    ·show A1 (put σ.rows id (sz,es1)) k=_
     rw[Bn _ _ hki];exact hfk'
    ·have hak:(∀r∈es,∀d∈r,Sh d)∧∀b,BS b es→¬ms b:=by
      cases c<;>first
       | (cases hh; done)
       | skip
      all_goals
       simp only[AC.has,beq_iff_eq] at hh
       subst hh;exact hac.elim (fun e=>absurd e hki) fun h=>h s es hfk'
     obtain⟨b1,b2,b3,C0,t0,b4,b5,b6⟩:=ho;have hne:nm (2*id+1)≠O b:=fun e=>by have:=R.inj _ _ _ hbn e; omega
     exact⟨b1,b2,b3,C0,t0,(hsame b (R.names _ _ hbn).2 hne (hnb _ _ hbn)).trans b4,b5,b6.sh hak.1 fun b C ht hC=>hview b C (hak.2 b ht) hC⟩
end
def I1(k:I zC)(bs:Z zC)(es:Z (Z D)):Z (Z D):=List.zipWith (fun b r=>r.map (D.tagW k b)) bs es
def Kr(r:Z D):Prop:=∃p es q,r=p++ .sl es::q∧(∀d∈p,d.flat=T)∧∀d∈q,d.flat=T
theorem A4y{k:I zC}{b:zC}{d:D}(h:d.flat=T):D.tagW k b d=d:=by cases d<;>first | rfl | cases h
theorem V7{k:I zC}{b:zC}:∀{ds:Z D},(∀d∈ds,d.flat=T)→ds.map (D.tagW k b)=ds
 | [],_=>rfl
 | d::ds,h=>by rw[yS,A4y (h d zP),V7 fun d hd=>h d (zO _ hd)]
theorem Rep.stamp{h:A6}{es:Z (Z D)}{v:Value}(R:Rep h (.sl es) v):∃b,Rep h (D.tagW U b (.sl es)) v:=by
 cases R with
 | nil=>exact⟨0,.nil⟩
 | @sl _ b C sz off cap len a z g c d e=>
  cases es with
  | nil=>simp at c; subst c; exact⟨0,.nil⟩
  | cons x es=>exact⟨b,.slb a z g c d e fun s hs=>by cases hs⟩
theorem Reps.stamp0{h:A6}:∀{p:Z D} {es:Z (Z D)} {q:Z D} {vs:Z Value},Reps h (p++ .sl es::q) vs→∃b,Reps h (p++D.tagW U b (.sl es)::q) vs
 | [],_,_,_,.cons a r=>by obtain⟨b,hb⟩:=a.stamp; exact⟨b,.cons hb r⟩
 | _::_,_,_,_,.cons a r=>by obtain⟨b,hb⟩:=Reps.stamp0 r; exact⟨b,.cons a hb⟩
theorem Reps.stamp{h:A6}{r:Z D}{vs:Z Value}(H:Reps h r vs)(ho:Kr r):∃b,Reps h (r.map (D.tagW U b)) vs:=by
 obtain⟨p,es,q,rfl,hp,hq⟩:=ho;obtain⟨b,hb⟩:=H.stamp0;refine⟨b,?_⟩;rw[yG,yS,V7 hp,V7 hq];exact hb
theorem RepRows.stamp{h:A6}{sz:zC}:∀{es:Z (Z D)} {vs:Z Value},RepRows h sz es vs→(∀r∈es,Kr r)→∃bs:Z zC,bs.length=es.length∧RepRows h sz (I1 U bs es) vs
 | _,_,.nil,_=>⟨[],rfl,.nil⟩
 | _,_,.cons a b c,H=>by
  obtain⟨x,hx⟩:=b.stamp (H _ zP);obtain⟨bs,h1,h2⟩:=c.stamp fun r hr=>H r (zO _ hr)
  exact⟨x::bs,by simp[h1],.cons (by simpa using a) hx h2⟩
theorem du{k:I zC}{bs:Z zC}{es:Z (Z D)}(h:bs.length=es.length):(I1 k bs es).length=es.length:=by simp[I1,h]
theorem RCRel.stamp{h:A6}{w:World}{sz:zC}{es:Z (Z D)}{v:Value}{o:I zC}(H:RCRel h w (.o sz es) v o)(ho:∀r∈es,Kr r):∃bs:Z zC,bs.length=es.length∧RCRel h w (.o sz (I1 U bs es)) v o:=by
 cases H with
 | nil=>exact⟨[],rfl,.nil⟩
 | o a hl=>
  obtain⟨a1,a2,a3,C,t,a4,a5,a6⟩:=a;obtain⟨bs,h1,h2⟩:=a6.stamp ho;exact⟨bs,h1,.o ⟨a1,by rw[du h1]; exact a2,a3,C,t,a4,a5,h2⟩ (by rw[du h1]; exact hl)⟩
theorem RRel.stamp{h:A6}{w:World}{sz:zC}{es:Z (Z D)}{rs:Z R1}{v:Value}{bs:Z (I zC)}(H:RRel h w (.sc (.o sz es)::rs) v bs)(ho:∀r∈es,Kr r):∃ts:Z zC,ts.length=es.length∧RRel h w (.sc (.o sz (I1 U ts es))::rs) v bs:=by
 cases H with
 | one a=>
  cases a with | sc a=>
  obtain⟨ts,h1,h2⟩:=a.stamp ho;exact⟨ts,h1,.one (.sc h2)⟩
 | many hl a=>
  cases a with | cons a b=>
  cases a with | sc a=>
  obtain⟨ts,h1,h2⟩:=a.stamp ho;exact⟨ts,h1,.many (by simpa using hl) (.cons (.sc h2) b)⟩
def FCi(P:Program)(f:FuncId)(ds:Z DV)(RS:Z R1→Prop):Prop:=
 ∀(w:World) (A:B9) (vs:Z Value),GoodW w→DVRels (Ai A w) ds vs→Calls P f vs.toArray w fun e w'=>
  ∃(rs:Z R1) (v:Value) (bs:Z (I zC)),RS rs∧e= .returned v∧RowKit.Below w.heap.size w w'∧RRel (Ai (fun b fr=>O b∉bs∧((w.heap.size≤b∧fr=(0,0))∨A b fr)) w') w' rs v bs∧
   (∀b,O b∈bs→w.heap.size≤b∧b<w'.heap.size)∧(∀(i j b:zC),bs[i]?=O (O b)→bs[j]?=O (O b)→i=j)
theorem FC.stamp{P:Program}{f:FuncId}{ds:Z DV}{sz:zC}{es:Z (Z D)}{rs:Z R1}(H:FC P f ds (.sc (.o sz es)::rs))(ho:∀r∈es,Kr r):FCi P f ds fun rs'=>∃ts:Z zC,ts.length=es.length∧rs'= .sc (.o sz (I1 U ts es))::rs:=fun w A vs hG hvs=>
 (H w A vs hG hvs).mono fun e w' ⟨v,bs,h1,h2,h3,h4⟩=>by
  obtain⟨ts,k1,k2⟩:=h3.stamp ho;exact⟨_,v,bs,⟨ts,k1,zE⟩,h1,h2,k2,h4⟩
def Mu:Z AV→I (Z DV)
 | []=>O []
 | x::xs=>match Kj x,Mu xs with
  | some d,O ds=>O (d::ds)
  | _,_=>U
section
variable {P : Program} {A : Ar} {B : zC} {w0 : Base} {w : World} {nm : Aa} {σ : St} {tmps : Array Value}
theorem eC:∀{avs:Z AV} {vs:Z Value} {ds:Z DV},VsRel (cx A nm σ w) avs vs→Mu avs=O ds→DVRels (A9 A nm w) ds vs
 | [],vs,ds,H,h=>by
  obtain rfl:vs= []:=zL.1 H.1.symm;simp[Mu] at h;subst h;exact .nil
 | x::avs,vs,ds,H,h=>by
  unfold Mu at h;split at h
  ·rename_i d ds' h1 h2
   cases h;cases vs with
   | nil=>have:=H.1; simp at this
   | cons v vs=>exact .cons (Mv (X:=cx A nm σ w) (H.2 0 x v rfl rfl) h1) (eC ⟨by have:=H.1; simpa using this,fun i u v hu hv=>H.2 (i+1) u v (by simpa using hu) (by simpa using hv)⟩ h2)
  ·cases h
theorem FCi.callS{f:FuncId}{ds:Z DV}{RS:Z R1→Prop}(H:FCi P f ds RS){d:zC}{avs:Z AV}(hx:Mu avs=O ds)(hfr:σ.fresh d=T)(h64:∀rs,RS rs→(rs.flatMap R1.cells).length≤64) :
  Qq P f avs σ fun σ' r=>∃rs,RS rs∧σ'={σ with rows:=Bi σ.rows (BH d rs)}∧r=BK d rs:=by
 intro A B w0 w nm tmps vs R hvs;refine(H w (fun b fr=>(∀i,nm i≠O b)∧A b fr) vs (R.good w R.below) (by rw[E2]; exact eC hvs hx)).mono fun e w' h=> ?_
 obtain⟨rs,v,bs,hrs,rfl,h2,h3,h4,h5⟩:=h;obtain⟨nm',R',hv⟩:=R.behind0 hfr (h64 _ hrs) (.inl fun b fr h=>h) h2 h3 h4 h5;exact⟨v,nm',_,_,zE,⟨rs,hrs,zE,zE⟩,R',hv⟩
theorem tc{k:Z Fr}{Q:Xl→St→Prop}{its:Z AItem}{d f:zC}{args:Z Opd}{ds:Z DV}{RS:Z R1→Prop}(H:FCi P f ds RS)(hx:Mu (args.map σ.val)=O ds)(hfr:σ.fresh d=T)(h64:∀rs,RS rs→(rs.flatMap R1.cells).length≤64)
  (h:∀rs,RS rs→go P (.ops its::k) Q .normal (O (σ.inst d rs))):go P (.ops ((U,.call d f args)::its)::k) Q .normal (O σ):=
 .inr (.inr ⟨_,H.callS hx hfr h64,fun _ _ ⟨rs,h1,e1,e2⟩=>by subst e1 e2; exact h rs h1⟩)
end
def SO:AC→I D
 | .dat d | .old d | .mix d=>O d
 | .nil=>O (.sl [])
 | _=>U
def My:Z AC→I (Z D)
 | []=>O []
 | c::cs=>match SO c,My cs with
  | some d,O ds=>O (d::ds)
  | _,_=>U
def SP:AV→I DV
 | .v (.sc c)=>(SO c).map .sc
 | .v (.ag cs)=>(My cs).map .ag
 | _=>U
def Mx:Z AV→I (Z DV)
 | []=>O []
 | x::xs=>match SP x,Mx xs with
  | some d,O ds=>O (d::ds)
  | _,_=>U
def Sw(d:D):AC:=bif d.fl then .dat d else .mix d
def RC.mx:RC→I AC
 | .v d=>O (Sw d)
 | _=>U
def PQ:Z RC→I (Z AC)
 | []=>O []
 | c::cs=>match c.mx,PQ cs with
  | some x,O xs=>O (x::xs)
  | _,_=>U
def R1.mx:R1→I V1
 | .sc c=>c.mx.map .sc
 | .ag cs=>(PQ cs).map .ag
def Mh:Z R1→I (Z V1)
 | []=>O []
 | r::rs=>match r.mx,Mh rs with
  | some x,O xs=>O (x::xs)
  | _,_=>U
def Mg:Z R1→I AV
 | [r]=>r.mx.map .v
 | rs=>(Mh rs).map .tup
section
variable {P : Program} {A : Ar} {B : zC} {w0 : Base} {w : World} {nm : Aa} {σ : St} {tmps : Array Value}
def Df(A:Ar)(nm:Aa)(w:World):A6:=fun b C=>A.o b C∨A9 A nm w b C
theorem eH{c:AC}{v:Value}{d:D}(H:CRel (cx A nm σ w) c v)(hd:SO c=O d):Rep (Df A nm w) d v:=by
 cases c<;>simp only[SO,Option.some.injEq,reduceCtorEq] at hd<;>subst hd
 case dat=>exact H.inv_dat.mono fun b C h=> .inr h
 case nil=>cases H; exact .nil
 case old=>cases H with | old _ H=>exact H.mono fun b C h=> .inl h
 case mix=>cases H with | mix H=>exact H
theorem VI:∀{cs:Z AC} {vs:Z Value} {ds:Z D},CRels (cx A nm σ w) cs vs→My cs=O ds→Reps (Df A nm w) ds vs∧ds.length=vs.length
 | [],_,ds,.nil,h=>by simp[My] at h; subst h; exact⟨.nil,rfl⟩
 | c::cs,_,ds,.cons a b,h=>by
  unfold My at h;split at h
  ·rename_i d ds' h1 h2
   cases h;obtain⟨k1,k2⟩:=VI b h2;exact⟨.cons (eH a h1) k1,by simp[k2]⟩
  ·cases h
theorem eG{av:AV}{v:Value}{d:DV}(H:VRel (cx A nm σ w) av v)(hd:SP av=O d):DVRel (Df A nm w) d v:=by
 unfold SP at hd
 split at hd
 ·simp only[zG] at hd
  obtain⟨d',h1,rfl⟩:=hd;exact .sc (eH H.inv_sc h1)
 ·simp only[zG] at hd
  obtain⟨ds,h1,rfl⟩:=hd;obtain⟨vs,rfl,hcs⟩:=H.inv_ag;obtain⟨h2,h3⟩:=VI hcs h1;exact .ag h2 h3
 ·cases hd
theorem eF:∀{avs:Z AV} {vs:Z Value} {ds:Z DV},VsRel (cx A nm σ w) avs vs→Mx avs=O ds→DVRels (Df A nm w) ds vs
 | [],vs,ds,H,h=>by
  obtain rfl:vs= []:=zL.1 H.1.symm;simp[Mx] at h;subst h;exact .nil
 | x::avs,vs,ds,H,h=>by
  unfold Mx at h;split at h
  ·rename_i d ds' h1 h2
   cases h;cases vs with
   | nil=>have:=H.1; simp at this
   | cons v vs=>exact .cons (eG (H.2 0 x v rfl rfl) h1) (eF ⟨by have:=H.1; simpa using this,fun i u v hu hv=>H.2 (i+1) u v (by simpa using hu) (by simpa using hv)⟩ h2)
  ·cases h
theorem D.fl_flat{d:D}(h:d.fl=T):d.flat=T:=by cases d<;>first | rfl | cases h
theorem zk{d:D}{v:Value}(H:Rep (Df A nm w) d v):CRel (cx A nm σ w) (Sw d) v:=by
 unfold Sw;cases hf:d.fl with
 | true=>exact .dat (H.flat (D.fl_flat hf))
 | false=>exact .mix H
theorem cB{h:A6}(hh:∀b C,h b C→Df A nm w b C){c:RC}{v:Value}{o:I zC}{x:AC}{W:World}(H:RCRel h W c v o)(hc:c.mx=O x):CRel (cx A nm σ w) x v:=by
 cases H with
 | v a=>cases hc; exact zk (a.mono hh)
 | nil=>cases hc
 | o=>cases hc
theorem bw{h:A6}(hh:∀b C,h b C→Df A nm w b C){W:World}:∀{cs:Z RC} {vs:Z Value} {bs:Z (I zC)} {xs:Z AC},RCRels h W cs vs bs→PQ cs=O xs→CRels (cx A nm σ w) xs vs
 | _,_,_,xs,.nil,e=>by simp[PQ] at e; subst e; exact .nil
 | _,_,_,xs,.cons a b,e=>by
  unfold PQ at e
  split at e
  ·rename_i x xs' h1 h2
   cases e;exact .cons (cB hh a h1) (bw hh b h2)
  ·cases e
theorem bv{h:A6}(hh:∀b C,h b C→Df A nm w b C){W:World}{r:R1}{v:Value}{bs:Z (I zC)}{x:V1}(H:R1Rel h W r v bs)(e:r.mx=O x):V1Rel (cx A nm σ w) x v:=by
 cases H with
 | sc a=>
  simp only[R1.mx,zG] at e
  obtain⟨y,h1,rfl⟩:=e;exact .sc (cB hh a h1)
 | ag a=>
  simp only[R1.mx,zG] at e
  obtain⟨y,h1,rfl⟩:=e;exact .ag (bw hh a h1)
theorem cA{h:A6}(hh:∀b C,h b C→Df A nm w b C){W:World}:∀{rs:Z R1} {vs:Z Value} {bs:Z (I zC)} {xs:Z V1},R1Rels h W rs vs bs→Mh rs=O xs→V1Rels (cx A nm σ w) xs vs
 | _,_,_,xs,.nil,e=>by simp[Mh] at e; subst e; exact .nil
 | _,_,_,xs,.cons a b,e=>by
  unfold Mh at e
  split at e
  ·rename_i x xs' h1 h2
   cases e;exact .cons (bv hh a h1) (cA hh b h2)
  ·cases e
theorem A0b{h:A6}(hh:∀b C,h b C→Df A nm w b C){W:World}{rs:Z R1}{v:Value}{bs:Z (I zC)}{x:AV}(H:RRel h W rs v bs)(e:Mg rs=O x):VRel (cx A nm σ w) x v:=by
 cases H with
 | one a=>
  simp only[Mg,zG] at e
  obtain⟨y,h1,rfl⟩:=e;exact .v (bv hh a h1)
 | many hl a=>
  have e2:Mg rs=(Mh rs).map .tup:=by
   unfold Mg;split
   ·simp at hl
   ·rfl
  rw[e2] at e
  simp only[zG] at e
  obtain⟨y,h1,rfl⟩:=e;exact .tup (cA hh a h1)
theorem FC.callM{f:FuncId}{ds:Z DV}{rs:Z R1}{x:AV}(H:FC P f ds rs){avs:Z AV}(hx:Mx avs=O ds)(hr:Mg rs=O x):CallC P f avs σ σ x:=by
 intro A B w0 w nm tmps vs R hvs
 have hin:∀b C,Df A nm w b C→Ai (fun b fr=>(∃C,A.o b C)∨((∀i,nm i≠O b)∧A b fr)) w b C:=fun b C h=>by
  rcases h with h|⟨g1,c,t,fr,g2,g3,g4⟩
  ·obtain⟨c,t,fr,k1,k2⟩:=R.oldAt h;exact⟨c,t,fr,.inl ⟨C,h⟩,k1,k2⟩
  ·exact⟨c,t,fr,.inr ⟨g1,g2⟩,g3,g4⟩
 refine(H w _ vs (R.good w R.below) ((eF hvs hx).mono hin)).mono fun e w' h=> ?_
 obtain⟨v,bs,rfl,hb,hres,hn,_⟩:=h;have hsame:∀b,b<w.heap.size→w'.heap[b]?=w.heap[b]?:=fun b h=>hb.block b h
 have hview:∀b C,A9 A nm w b C→A9 A nm w' b C:=fun b C ⟨g1,c,t,fr,g2,g3,g4⟩=>⟨g1,c,t,fr,g2,(hsame b (DM g3)).trans g3,g4⟩
 have hout:∀b C,Ai (fun b fr=>O b∉bs∧((w.heap.size≤b∧fr=(0,0))∨((∃C,A.o b C)∨((∀i,nm i≠O b)∧A b fr)))) w' b C→Df A nm w' b C:=by
  rintro b C ⟨c,t,fr,⟨_,k⟩,k2,k3⟩
  rcases k with ⟨k,rfl⟩|⟨C0,k⟩|⟨k,k'⟩
  ·refine .inr ⟨fun i e=> ?_,c,t,_,R.all.all b (.inl (zN R.size k)),k2,k3⟩;have:=(R.names i b e).2;omega
  ·obtain⟨c1,t1,CY,q1,q2⟩:=R.oldAt k;rw[hsame b (DM q1),q1] at k2
   cases k2;exact .inl ((q2.symm.trans k3)▸k)
  ·exact .inr ⟨k,c,t,fr,k',k2,k3⟩
 refine⟨v,nm,zE,?_,A0b (σ:=σ) hout hres hr⟩;refine R.carry (f:=fun c=>c) (R.below.trans R.there hb R.size) (zN R.size hb.size) (fun i b hi=> ?_) R.inj (fun _ _=>rfl) (fun k=>by rw[AV.mapId]) (fun id=>by simp) (fun id cs _ b hbn=>⟨hbn,hsame b (R.names _ _ hbn).2⟩) (fun c v _ hr=> ?_)
 ·obtain⟨h1,h2⟩:=R.names i b hi;exact⟨h1,zS h2 hb.size⟩
 ·exact hr.move hview (fun id _=> .inr ⟨zE,zE,fun b hbn=>hsame b (R.names _ _ hbn).2⟩) (fun id _ b hbn=>hbn)
theorem YN{k:Z Fr}{Q:Xl→St→Prop}{its:Z AItem}{d f:zC}{args:Z Opd}{ds:Z DV}{rs:Z R1}{x:AV}(hf:FC P f ds rs)(hx:Mx (args.map σ.val)=O ds)(hr:Mg rs=O x)
  (h:go P (.ops its::k) Q .normal (O (σ.set d x))):go P (.ops ((U,.call d f args)::its)::k) Q .normal (O σ):=LZ (hf.callM hx hr) h
theorem FCf.asV{P:Program}{f:FuncId}{ds:Z DV}{rs rs':Z R1}(H:FCf P f ds rs)(e:rs.map R1.asV=rs'):FCf P f ds rs':=by
 subst e;intro w A vs hG hvs;refine(H w A vs hG hvs).mono fun e w' h=> ?_
 obtain⟨v,bs,rfl,h2,h3,h4,_⟩:=h;refine⟨v,bs.map fun _=>U,zE,h2,h3.asV (fun b C ⟨c,t,fr,⟨_,k2⟩,k3⟩=>⟨c,t,fr,⟨HN,k2⟩,k3⟩) (fun k hk C t hC=>⟨C,t,_,⟨HN,.inl ⟨(h4 k hk).1,zE⟩⟩,hC,zE⟩),fun b hb=>absurd hb HN,fun i j b hi _=> ?_⟩;exact absurd (zK hi) HN
def MO(σ:St):Z zC→I (Z D)
 | []=>O []
 | i::is=>match (A1 σ.bx i).bind My,MO σ is with
  | some ds,O r=>O (.pd ds::r)
  | _,_=>U
def VK(σ:St)(id:zC):AV→I TV
 | .v (.sc (.own k))=>bif k==id then O .r else U
 | .v (.sc (.clo f ids))=>(MO σ ids).map fun ds=> .d (.sc (.clo f ds))
 | x=>(SP x).map .d
def MA(σ:St)(id:zC):Z AV→I (Z TV)
 | []=>O []
 | x::xs=>match VK σ id x,MA σ id xs with
  | some y,O ys=>O (y::ys)
  | _,_=>U
theorem Rel.notOwn(R:Rel A B w0 nm σ tmps w){b:zC}{C:Z Value}{i:zC}(h:Df A nm w b C):nm i≠O b:=fun e=>by
 rcases h with h|h
 ·obtain⟨h1,h2,_⟩:=R.all.old b C h;rcases(R.names i b e).1 with h|h
  ·omega
  ·exact h2 h
 ·exact h.1 i e
theorem W7(R:Rel A B w0 nm σ tmps w){i:zC}:∀b C,Df A nm w b C→Ai (fun b _=>nm i≠O b) w b C:=fun b C h=>by
 have hn:=R.notOwn (i:=i) h;rcases h with h|⟨g1,c,t,fr,g2,g3,g4⟩
 ·obtain⟨c,t,fr,k1,k2⟩:=R.oldAt h;exact⟨c,t,fr,hn,k1,k2⟩
 ·exact⟨c,t,fr,hn,g3,g4⟩
theorem TC(R:Rel A B w0 nm σ tmps w){id:zC}:∀{ids bs:Z zC} {ds:Z D},ids.mapM (fun i=>nm (2*i))=O bs→MO σ ids=O ds→Reps (Ai (fun b _=>nm (2*id+1)≠O b) w) ds (bs.map fun b=>Value.pointer (O ⟨b,0,U⟩))∧ds.length=bs.length
 | [],bs,ds,hb,hd=>by
  simp at hb
  subst hb;simp[MO] at hd
  subst hd;exact⟨.nil,zE⟩
 | i::ids,bs,ds,hb,hd=>by
  simp only[yI,yQ,yY] at hb
  cases hn:nm (2*i) with
  | none=>simp[hn] at hb
  | some b=>
   cases hr:ids.mapM (fun i=>nm (2*i)) with
   | none=>simp[hn,hr] at hb
   | some bs'=>
    simp[hn,hr] at hb
    subst hb;simp only[MO] at hd
    split at hd
    ·rename_i d ds' h1 h2
     cases hd;obtain⟨h3,h4⟩:=TC R hr h2;simp only[zU] at h1
     obtain⟨cs,hcs,h1⟩:=h1;obtain⟨b',C,t,k1,k2,k3⟩:=R.bxs i cs hcs;have e:b'=b:=zW (k1.symm.trans hn);subst e;refine⟨.cons (.pd (C:=C.toList) ⟨C,t,_,fun e=> ?_,k2,zE⟩ ?_) h3,by simp[h4]⟩
     ·have:=R.inj _ _ _ hn e;omega
     ·simpa using(VI k3 h1).1.mono (W7 R)
    ·cases hd
theorem A5i(R:Rel A B w0 nm σ tmps w){id sz:zC}{es:Z (Z D)}(hf:A1 σ.rows id=O (sz,es)){av:AV}{v:Value}{x:TV}(H:VRel (cx A nm σ w) av v)(h:VK σ id av=O x):TVRel (Ai (fun b _=>nm (2*id+1)≠O b) w) w (nm (2*id+1)) sz es x v:=by
 unfold VK at h;split at h
 ·rename_i k
  by_cases hk:k=id
  ·subst hk;simp at h;subst h;exact .r (RCRel.conv (PW (X:=cx A nm σ w) H.inv_sc hf) (.inl fun b C h=>W7 R b C (.inr h)))
  ·have:(k==id)=F:=by simpa using hk
   simp[this] at h
 ·simp only[zG] at h;obtain⟨ds,h1,rfl⟩:=h;have hc:=H.inv_sc;cases hc with | clo hb=>
  exact .d (.sc (.clo (TC R hb h1).1 (by simpa using(TC (id:=id) R hb h1).2)))
 ·simp only[zG] at h;obtain⟨d,h1,rfl⟩:=h;exact .d ((eG H h1).mono (W7 R))
theorem eJ(R:Rel A B w0 nm σ tmps w){id sz:zC}{es:Z (Z D)}(hf:A1 σ.rows id=O (sz,es))(hid:id<99999999999):∀{avs:Z AV} {vs:Z Value} {xs:Z TV},VsRel (cx A nm σ w) avs vs→MA σ id avs=O xs→TVRels (Ai (fun b _=>nm (2*id+1)≠O b) w) w (nm (2*id+1)) sz es xs vs
 | [],vs,xs,H,h=>by
  simp[MA] at h;subst h;obtain rfl:vs= []:=zL.1 H.1.symm;exact .nil
 | a::avs,vs,xs,H,h=>by
  unfold MA at h;split at h
  ·rename_i x xs' h1 h2
   cases h;cases vs with
   | nil=>have:=H.1; simp at this
   | cons v vs=>
    exact .cons (A5i R hf (H.2 0 a v zE zE) h1) (eJ R hf hid ⟨by have:=H.1; simpa using this,fun i u v hu hv=>H.2 (i+1) u v (by simpa using hu) (by simpa using hv)⟩ h2)
  ·cases h
theorem FCt.callT{f:FuncId}{xs:Z TV}{sz:zC}{es0 es1:Z (Z D)}(H:FCt P f xs sz es0 es1){id d:zC}{avs:Z AV}(hx:MA σ id avs=O xs)(hsh:∀r∈es1,∀d∈r,Sh d)(htg:∀b,BS b es1→BS b es0)(hf:A1 σ.rows id=O (sz,es0))(ho:∃k:zC,avs[k]?=O (AV.v (.sc (.own id))))(hfr:σ.fresh d=T)(hid:id<99999999999)(hne:id≠d*64) :
  CallC P f avs σ (σ.behindT id d sz es1) (.v (.sc (.own (d*64)))):=by
 intro A B w0 w nm tmps vs R hvs;have hM:∀b,(GE w (nm (2*id+1))).M b→nm (2*id+1)=O b:=fun b h=>Tw h
 refine(H w (fun b _=>nm (2*id+1)≠O b) vs (nm (2*id+1)) (fun b e=>⟨(R.names _ _ e).2,fun _ h=>h e⟩) (fun w2 hb2=>R.good w2 (R.below.afterZ zE hb2 R.size R.there (fun b hm=>(R.names _ _ (hM b hm)).1) fun b hv=>hv.elim)) (eJ R hf hid hvs hx)).mono fun e w' h=> ?_
 obtain⟨v,o',rfl,hn,hb,hr⟩:=h;have hfew:=St.fresh_few hfr;have hsame:∀b,b<w.heap.size→nm (2*id+1)≠O b→w'.heap[b]?=w.heap[b]?:=fun b hlt h=>hb.block b hlt (fun hm=>h (hM b hm)) fun hv=>hv.elim
 let nm':Aa:=fun n=>if n=2*id+1 then U else if n=2*(d*64)+1 then o' else nm n
 have hcas:∀n b,nm' n=O b→(n=2*(d*64)+1∧o'=O b)∨(n≠2*id+1∧n≠2*(d*64)+1∧nm n=O b):=fun n b h=>by
  simp only[nm'] at h;split at h
  ·cases h
  ·rename_i h1
   split at h
   ·rename_i h2; exact .inl ⟨h2,h⟩
   ·rename_i h2; exact .inr ⟨h1,h2,h⟩
 have hbel:BelowX B w0 w':=R.below.afterZ rfl hb R.size R.there (fun b hm=>(R.names _ _ (hM b hm)).1) fun b hv=>hv.elim
 have hview:∀b C,A9 A nm w b C→A9 A nm' w' b C:=CS fun b hlt hnb=>⟨fun i e=>by
  rcases hcas i b e with ⟨_,e2⟩|⟨_,_,e2⟩
  ·rcases(hn b e2).1 with h|h
   ·omega
   ·exact hnb _ h
  ·exact hnb i e2,hsame b hlt (hnb _)⟩
 have RK:=R.killed id
 have hrow:∀k,k≠id→k / 64≠d→A1 (σ.behindT id d sz es1).rows k=A1 σ.rows k:=fun k h1 h2=>by
  show A1 (put (erase σ.rows [id]) (d*64) (sz,es1)) k=_
  rw[Bn _ _ (by omega),Hy];have: [id].contains k=F:=by simpa using h1
  rw[this];rfl
 have hcell:∀c v,(σ.map (AC.kill id)).Uses c→CRel (cx A nm (σ.map (AC.kill id)) w) c v→CRel (cx A nm' (σ.behindT id d sz es1) w') c v:=fun c v hu H=>by
  obtain⟨c0,hu0,rfl⟩:=W4 hu
  have hfd:∀k,(AC.kill id c0).has k=T→k≠id∧k / 64≠d:=fun k hk=>by
   obtain⟨q1,q2⟩:=Ua hk;refine⟨q2,fun e=> ?_⟩;have:=W5 q1;rw[e,St.fresh_uses hfr hu0] at this
   cases this
  refine H.move hview (fun k hk=> .inr ?_) (fun k hk b hb2=> ?_)
  ·obtain⟨q1,q2⟩:=hfd k hk;refine⟨hrow k q1 q2,?_,fun b hbn=>hsame b (R.names _ b hbn).2 fun e=> ?_⟩
   ·show nm' (2*k+1)=nm (2*k+1)
    simp only[nm'];rw[if_neg (by omega),if_neg (by omega)]
   ·have:=R.inj _ _ _ hbn e;omega
  ·show nm' (2*k)=O b
   simp only[nm'];rw[if_neg (by omega),if_neg (by omega)];exact hb2
 have hold:∀b,BS b es1→∀C,B7 w' b C→A9 A nm' w' b C:=fun b ht C hC=>by
  obtain⟨C0,h0⟩:∃C0,A9 A nm w b C0:=by
   obtain⟨k,hk⟩:=ho
   obtain⟨v9,hv9⟩:∃v9,vs[k]?=O v9:=by
    have:=(zJ.1 hk).1;rw[hvs.1] at this
    exact⟨_,zI this⟩
   have:=PW (X:=cx A nm σ w) (hvs.2 k _ _ hk hv9).inv_sc hf;exact RCRel.tg (c:= .o sz es0) this (htg b ht)
  obtain⟨g1,c,t,fr,g2,g3,g4⟩:=hview b C0 h0;obtain⟨c',t',fr',k1,rfl⟩:=hC;rw[g3] at k1
  cases k1;exact⟨g1,c,t,fr,g2,g3,zE⟩
 refine⟨v,nm',zE,⟨hbel,zN R.size hb.size,R.all,R.good,fun i b hi=> ?_,fun i j b hi hj=> ?_,fun i hi=> ?_,fun k=> ?_,fun k cs hcs=> ?_⟩,?_⟩
 ·rcases hcas i b hi with ⟨_,e2⟩|⟨_,_,e2⟩
  ·obtain⟨g1,g2⟩:=hn b e2;exact⟨g1.elim (fun h=> .inl (zN R.size h)) fun h=>(R.names _ _ h).1,g2⟩
  ·obtain⟨h1,h2⟩:=R.names i b e2;exact⟨h1,zS h2 hb.size⟩
 ·have old:∀k,k≠2*id+1→nm k=O b→o'=O b→False:=fun k hk e e2=>by
   rcases(hn b e2).1 with h|h
   ·have:=(R.names k b e).2; omega
   ·exact hk (R.inj _ _ _ e h)
  rcases hcas i b hi with ⟨i1,i2⟩|⟨i1,i3,i2⟩
  ·rcases hcas j b hj with ⟨j1,j2⟩|⟨j1,_,j2⟩
   ·omega
   ·exact(old j j1 j2 i2).elim
  ·rcases hcas j b hj with ⟨j1,j2⟩|⟨j1,_,j2⟩
   ·exact(old i i1 i2 j2).elim
   ·exact R.inj i j b i2 j2
 ·have:nm' i=nm i:=by
   simp only[nm'];unfold AG at hi
   rw[if_neg (by omega),if_neg (by omega)]
  exact this.trans (R.pin i hi)
 ·exact(RK.env k).to fun c v hc H=>hcell c v (.inl ⟨k,hc⟩) H
 ·obtain⟨b,C,t,h1,h2,h3⟩:=RK.bxs k cs hcs;have h1':nm (2*k)=O b:=h1;refine⟨b,C,t,?_,(hsame b (R.names _ _ h1').2 fun e=> ?_).trans h2,h3.to fun c v hc H=>hcell c v (.inr ⟨k,cs,hcs,hc⟩) H⟩
  ·show nm' (2*k)=O b
   simp only[nm'];rw[if_neg (by omega),if_neg (by omega)];exact h1'
  ·have:=R.inj _ _ _ h1' e;omega
 ·have hfd:A1 (cx A nm' (σ.behindT id d sz es1) w').rs (d*64)=O (sz,es1):=Bl _ _ _
  have hnd:(cx A nm' (σ.behindT id d sz es1) w').nm (2*(d*64)+1)=o':=by
   show nm' (2*(d*64)+1)=o'
   simp only[nm'];rw[if_neg (by omega)];simp
  cases hr with
  | nil=>exact .v (.sc (.ownNil hfd hnd))
  | o own hl=>
   obtain⟨a1,a2,a3,C1,t1,a4,a5,a6⟩:=own;exact .v (.sc (.own hfd hnd ⟨a1,a2,a3,C1,t1,a4,a5,a6.sh hsh fun b C ht ⟨c,t,fr,_,h1,h2⟩=>hold b ht C ⟨c,t,fr,h1,h2⟩⟩ hl))
end
theorem td{P:Program}{k:Z Fr}{Q:Xl→St→Prop}{σ:St}{its:Z AItem}{d f:zC}{args:Z Opd}{xs:Z TV}{sz:zC}{es0 es1:Z (Z D)}(hf:FCt P f xs sz es0 es1)(id:zC)(hx:MA σ id (args.map σ.val)=O xs)(hr:A1 σ.rows id=O (sz,es0))(hsh:∀r∈es1,∀d∈r,Sh d)(htg:∀b,BS b es1→BS b es0)(ho:∃k:zC,(args.map σ.val)[k]?=O (AV.v (.sc (.own id))))(hfr:σ.fresh d=T)
  (hid:Nat.blt id 99999999999=T) (hne:(id==d*64)=F) (h:go P (.ops its::k) Q .normal (O ((σ.behindT id d sz es1).set d (.v (.sc (.own (d*64))))))):go P (.ops ((U,.call d f args)::its)::k) Q .normal (O σ):=
 LZ (hf.callT hx hsh htg hr ho hfr (zM hid) (by simpa using hne)) h
theorem xO{id:zC}{d:D}:AC.kill id (.mix d)= .mix d:=rfl
theorem si{id:zC}{es:Z (Z D)}{d:D}:AC.frz id es (.mix d)= .mix d:=rfl
theorem A8p{d:D}:AC.wipe (.mix d)= .undef:=rfl
theorem xT{id b:zC}{k:I zC}{d:D}:AC.kill id (.dat (D.tagW k b d))= .dat (D.tagW k b d):=rfl
def Ax:=zF @xO (zF @si (zF @A8p @xT))
theorem Pf{P:Program}{k:Z Fr}{Q:Xl→St→Prop}{σ:St}{o:AOp}{t:zC}{b:zB}{its:Z AZ}(hb:σ.get t= .v (.sc (.dat (.bool b))))(h:go P (.ops [(U,o)]:: .frs its::k) Q .normal (O σ)):go P (.dops ((U,O (t,b),o)::its)::k) Q .normal (O σ):=by
 show AM (O (t,b)) σ _ _
 unfold AM;simp only[hb,if_true,beq_self_eq_true];exact h
theorem Pe{P:Program}{k:Z Fr}{Q:Xl→St→Prop}{σ:St}{o:AOp}{t d:zC}{b:zB}{its:Z AZ}(hb:σ.get t= .v (.sc (.dat (.bool !b))))(hd:o.dst=O d)(h:go P (.fr (CZ its (σ.set d .no)):: .dops its::k) Q .normal (O (σ.set d .no))):go P (.dops ((U,O (t,b),o)::its)::k) Q .normal (O σ):=by
 show AM (O (t,b)) σ _ _
 unfold AM;rw[hd];simp only[hb];cases b<;>exact h
theorem kp{P:Program}{o:AItem}{Q:Xl→St→Prop}{σ:St}(a b c:Z zC)(h:go P [.ops [o,(U,.keep a b c)]] Q .normal (O σ)):∃pre post:Z AItem,pre.all (fun i=>i.2.idle)=T∧post.all (fun i=>i.2.idle)=T∧go P [.ops (pre++o::post)] Q .normal (O σ):=⟨[],[(U,.keep a b c)],rfl,rfl,h⟩
theorem Au{P:Program}{k:Z Fr}{Q:Xl→St→Prop}{σ:St}{its:Z AItem}{d sz:zC}{zs:Z D}{len:zC}{ps:Z (zC × Opd)}(es:Z (Z D))(H:go P (.ops its::k) Q .normal (O {(σ.set d (.v (.sc (.own (d*64))))) with rows:=put σ.rows (d*64) (sz,es) }))(hm:σ.made (.bslice d sz zs len ps)=O (.row d sz es):=by rfl)
  (hf:σ.fresh d=T:=by simp only[St.fresh,List.all_cons,List.all_nil,D4]; simp[AV.cells,V1.cells,AC.uses]):go P (.ops ((U,.bslice d sz zs len ps)::its)::k) Q .normal (O σ):=U2 hm hf H
theorem gi{G:Prop}(k:G:=by first | (intro h; cases h; done) | (intro _ hw; simp at hw; done) | (intro h0 hw; obtain rfl:=hz h0 rfl; (try obtain rfl:=hq hw 0 rfl rfl); (try obtain rfl:=hq hw 1 rfl rfl); (try obtain rfl:=hq hw 2 rfl rfl); (try obtain rfl:=hq hw 3 rfl rfl); (try obtain rfl:=hq hw 4 rfl rfl); (try obtain rfl:=hq hw 5 rfl rfl); (try obtain rfl:=hq hw 6 rfl rfl); (try obtain rfl:=hq hw 7 rfl rfl); (try obtain rfl:=hq hw 8 rfl rfl); (try obtain rfl:=hq hw 9 rfl rfl); (try obtain rfl:=hq hw 10 rfl rfl); (try obtain rfl:=hq hw 11 rfl rfl); (try obtain rfl:=hq hw 12 rfl rfl); (try obtain rfl:=hq hw 13 rfl rfl); (try obtain rfl:=hq hw 14 rfl rfl); (try obtain rfl:=hq hw 15 rfl rfl); (try obtain rfl:=hq hw 16 rfl rfl); (try obtain rfl:=hq hw 17 rfl rfl); (try obtain rfl:=hq hw 18 rfl rfl); (try obtain rfl:=hq hw 19 rfl rfl); (try obtain rfl:=hq hw 20 rfl rfl); (try obtain rfl:=hq hw 21 rfl rfl); (try obtain rfl:=hq hw 22 rfl rfl); (try obtain rfl:=hq hw 23 rfl rfl); (try obtain rfl:=hq hw 24 rfl rfl); (try obtain rfl:=hq hw 25 rfl rfl); refine np ?_; simp only[A7,A8,A4,Nat.reduceBEq,Nat.reduceMul,Nat.reduceAdd,Nat.reduceDiv,Int.reduceBEq,J]; exact ih ..)):G:=k
end
end Go.Vi
