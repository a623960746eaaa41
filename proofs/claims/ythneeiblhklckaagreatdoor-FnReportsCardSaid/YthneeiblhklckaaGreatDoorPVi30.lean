/-
The value level. No condition.
-/
import Derived.Test.YthneeiblhklckaaGreatDoorPVi28
namespace Go.Vi
set_option linter.all false
open And renaming intro → Z
open List renaming map → A, mem_singleton → B, replicate → I
open Nat renaming one_pos → zA
open Bool renaming and_self → zB, true → T, false → F
open Option renaming some → E, none → G
open _root_ renaming List → O, Option → U, Int → V, Bool → W, Nat → Y
abbrev S(n:Y):Opd:= .t n
abbrev K(n:V):Opd:= .c (.v (.sc (.dat (.int .i64 n))))
abbrev K8(n:V):Opd:= .c (.v (.sc (.dat (.int .u8 n))))
abbrev KB(b:W):Opd:= .c (.v (.sc (.dat (.bool b))))
abbrev KS(s:O UInt8):Opd:= .c (.v (.sc (.dat (.str s))))
abbrev KN:Opd:= .c (.v (.sc .nil))
abbrev aI(n:V):AC:= .dat (.int .i64 n)
abbrev a8(n:V):AC:= .dat (.int .u8 n)
abbrev aB(b:W):AC:= .dat (.bool b)
abbrev aS(s:O UInt8):AC:= .dat (.str s)
abbrev aL(es:O (O D)):AC:= .dat (.sl es)
abbrev vc(c:AC):AV:= .v (.sc c)
abbrev va(cs:O AC):AV:= .v (.ag cs)
def rI(n:V):O D:= [.int .i64 n]
def r8(n:V):O D:= [.int .u8 n]
def rB(b:W):O D:= [.bool b]
def rS(s:O UInt8):O D:= [.str s]
def rL{α:Type}(row:α→O D)(xs:O α):O D:= [.sl (xs.map row)]
class Row {α:Type} (row:α→O D) (sz:Y):Prop where
 len:∀x,(row x).length=sz
 pos:0<sz
instance:Row rI 1:=⟨fun _=>rfl,zA⟩
instance:Row r8 1:=⟨fun _=>rfl,zA⟩
instance:Row rB 1:=⟨fun _=>rfl,zA⟩
instance:Row rS 1:=⟨fun _=>rfl,zA⟩
instance {α:Type} (row:α→O D):Row (rL row) 1:=⟨fun _=>rfl,zA⟩
theorem Uo(n:V):rI n= [.int .i64 n]:=rfl
def LR(n:V):UInt8:=UInt8.ofNat n.toNat
theorem Rw:∀{xs:O V},CV (A r8 xs)=E (A LR xs)
 | []=>rfl
 | n::xs=>by
  show(CV (A r8 xs)).map _=_
  rw[Rw];rfl
theorem nZ(n:V):r8 n= [.int .u8 n]:=rfl
theorem nb(b:W):rB b= [.bool b]:=rfl
theorem nd(s:O UInt8):rS s= [.str s]:=rfl
theorem nc{α:Type}(row:α→O D)(xs:O α):rL row xs= [.sl (xs.map row)]:=rfl
theorem R7{α:Type}{row:α→O D}{sz:Y}(h:∀x,(row x).length=sz)(xs:O α):(xs.map row).all (fun d=>d.length==sz)=T:=by
 simp[List.all_map,Function.comp_def,h]
@[irreducible] def bigN:Y:=1208925819614629174706176
def bnd(m h l:V)(n:Y):U (Y × Y):=if 0≤l∧l≤h∧h≤m∧m≤n then E (l.toNat,h.toNat) else G
def BT(l c:V)(bytes:Y):U Y:=if 0≤l∧l≤c∧c*bytes≤140737488355328∧c≤4611686018427387904 then E l.toNat else G
def A7(n m bytes:Y):W:=decide ((n+m)*bytes≤140737488355328∧n+m≤4611686018427387904)
def Bm(n m:Y):W:=decide (n+m≤4611686018427387904)
theorem Ny{α β:Type}{f:α→β}{l:O α}{i:V}:ix (l.map f) i=(ix l i).map f:=by
 unfold ix;split<;>simp
theorem AJ{α:Type}{l:O α}{i:V}{x:α}(h:ix l i=E x):l[i.toNat]?=E x:=by
 unfold ix at h;split at h
 ·exact h
 ·cases h
theorem ob{α β:Type}{o:U α}{f:α→U β}{r:β}(h:o.bind f=E r):∃a,o=E a∧f a=E r:=Option.bind_eq_some_iff.1 h
class FlatRow {α:Type} (row:α→O D):Prop where
 flat:∀x,∀d∈row x,d.flat=T
instance:FlatRow rI:=⟨fun _ d h=>by rw[B.1 h]; rfl⟩
instance:FlatRow r8:=⟨fun _ d h=>by rw[B.1 h]; rfl⟩
instance:FlatRow rB:=⟨fun _ d h=>by rw[B.1 h]; rfl⟩
instance:FlatRow rS:=⟨fun _ d h=>by rw[B.1 h]; rfl⟩
def QC:O RC→Prop
 | []=>True
 | c::cs=>c.flat∧QC cs
theorem D1{rs:O R1}{cs:O RC}(h:rs.flatMap R1.cells=cs)(hf:QC cs):Cd rs:=by
 subst h;unfold Cd;generalize rs.flatMap R1.cells=l at hf
 induction l with
 | nil=>intro c hc; simp at hc
 | cons a l ih=>
  intro c hc;rcases List.mem_cons.1 hc with rfl|hc
  ·exact hf.1
  ·exact ih hf.2 c hc
theorem D2{α:Type}{row:α→O D} [FlatRow row]{sz:Y}{xs:O α}:RC.flat (.o sz (A row xs)):=by
 intro r hr;obtain⟨x,_,rfl⟩:=List.mem_map.1 hr;exact FlatRow.flat x
theorem Q4{α:Type}{row:α→O D}{z:α}{zs:O D}{n:Y}(h:row z=zs):I n zs=A row (I n z):=by rw[List.map_replicate,h]
theorem AQ{α:Type}{b:W}{x:U α}{r:α}(h:(if b=T then x else G)=E r):b=T∧x=E r:=by
 cases b
 ·rw[if_neg Bool.false_ne_true] at h; cases h
 ·exact⟨rfl,by simpa using h⟩
theorem F3{α:Type}{b:W}{x:U α}{r:α}(h:(if b=T then G else x)=E r):b=F∧x=E r:=by
 cases b
 ·exact⟨rfl,by simpa using h⟩
 ·rw[if_pos rfl] at h; cases h
theorem ic{α:Type}{b:W}{x y:U α}{r:α}(h:(if b=T then x else y)=E r):(b=T∧x=E r)∨(b=F∧y=E r):=by
 cases b with
 | true=>exact .inl ⟨rfl,h⟩
 | false=>exact .inr ⟨rfl,h⟩
section
variable {P : Program} {k : O Fr} {Q : Xm → St → Prop} {σ : St} {its : O AItem} {ds : O AN} {o : AOp} {d : Y}
theorem AP{c:Xg}(h:go P (.code c:: .code (.loop c)::k) Q .normal (E σ)):go P (.code (.loop c)::k) Q .normal (E σ):=by
 intro X hX;refine hX σ (Rn c (fun e σ' h=> ?_) h);cases e with
 | normal=>exact h X hX
 | exit id=>exact h
 | ret=>exact h
 | pan d=>exact h
theorem Wd(hm:P.follows .mixedOrders=T){f:FuncId}{c:Xg}{ts:O RV}{nt:Y}{ds:O DV}{rs:O R1}{σ:St}(he:AD P f=E (c.strip,ts,nt))(hl:Nat.ble ds.length nt=T)(hσ:St.init ds=σ)
  (h:go P [.code c] (A9 ts rs) .normal (E σ)):FC P f ds rs:=Wg hm he (Nat.le_of_ble_eq_true hl) fun _=>IM (hσ▸h)
theorem Qz(hm:P.follows .mixedOrders=T){f:FuncId}{c:Xg}{ts:O RV}{nt:Y}{ds:O DV}{rs:O R1}(he:AD P f=E (c.strip,ts,nt))(hl:Nat.ble ds.length nt=T)
  (h:go P [.code c] (A9 ts rs) .normal (E (St.init ds))):FC P f ds rs:=Wd hm he hl rfl h
theorem PG{sz:Y}{es:O (O D)}(hf:σ.fresh d=T):σ.make (.row d sz es)=E {(σ.set d (.v (.sc (.own (d*64))))) with rows:=put σ.rows (d*64) (sz,es)}:=by simp[St.make,hf]
theorem NK{cs:O AC}(hf:σ.fresh d=T)(hu:cs.all (fun c=> !c.uses d)=T):σ.make (.box d cs)=E {(σ.set d (.v (.sc (.pb d 0)))) with bx:=put σ.bx d cs}:=by simp only[St.make,hf,hu,zB,if_true]
theorem Na{m:Mk}(ho:o.isMade=T)(hm:σ.made o=E m){σ':St}(hs:σ.make m=E σ')(H:go P (.ops its::k) Q .normal (E σ')):go P (.ops ((G,o)::its)::k) Q .normal (E σ):=by
 have hc:o.isCall=F:=by cases o<;>first | rfl | (simp[AOp.isMade] at ho; done)
 rw[AT hc,pP ho,hm];show go P (.ops its::k) Q .normal (σ.make m)
 rw[hs];exact H
theorem fi{X:Opd}{y:V1}(hX:σ.val X= .v y)(hf:σ.fresh d=T)(hu:y.cells.all (fun c=> !c.uses d)=T)(H:go P (.ops its::k) Q .normal (E {(σ.set d (.v (.sc (.pb d 0)))) with bx:=put σ.bx d y.cells })) :
  go P (.ops ((G,.box d X)::its)::k) Q .normal (E σ):=Na rfl (by simp only[St.made,hX]) (NK hf hu) H
theorem fT{cs:O AC}(hf:σ.fresh d=T)(hu:cs.all (fun c=> !c.uses d)=T)(H:go P (.ops its::k) Q .normal (E {(σ.set d (.v (.sc (.pb d 0)))) with bx:=put σ.bx d cs })) :
  go P (.ops ((G,.alloc d cs)::its)::k) Q .normal (E σ):=Na rfl rfl (NK hf hu) H
theorem Ce{sz:Y}{zs:O D}{len:Y}{ps:O (Y × Opd)}{es:O (O D)}(hm:σ.made (.bslice d sz zs len ps)=E (.row d sz es))(hf:σ.fresh d=T)
  (H:go P (.ops its::k) Q .normal (E {(σ.set d (.v (.sc (.own (d*64))))) with rows:=put σ.rows (d*64) (sz,es) })):go P (.ops ((G,.bslice d sz zs len ps)::its)::k) Q .normal (E σ):=Na rfl hm (PG hf) H
theorem lX{L C:Opd}{l c:V}{bytes n sz:Y}{zs:O D}{es:O (O D)}(hl:BH (σ.val L)=E l)(hc:BH (σ.val C)=E c)(hb:BT l c bytes=E n)(hz:zs.length=sz)(he:I n zs=es) :
  σ.made (.mksl d sz bytes zs L C)=E (.row d sz es):=by
 unfold BT at hb
 split at hb
 ·rename_i h
  cases hb;subst he;simp only[St.made,hl,hc];rw[if_pos ⟨h.1,h.2.1,h.2.2.1,h.2.2.2,hz⟩]
 ·cases hb
theorem P9{L C:Opd}{l c:V}{bytes n sz:Y}{zs:O D}{es:O (O D)}(hl:BH (σ.val L)=E l)(hc:BH (σ.val C)=E c)(hb:BT l c bytes=E n)(hz:zs.length=sz)(he:I n zs=es)(hf:σ.fresh d=T)
  (H:go P (.ops its::k) Q .normal (E {(σ.set d (.v (.sc (.own (d*64))))) with rows:=put σ.rows (d*64) (sz,es) })):go P (.ops ((G,.mksl d sz bytes zs L C)::its)::k) Q .normal (E σ):=
 Na rfl (lX hl hc hb hz he) (PG hf) H
theorem P8{n:Y}{N:O Y}{m:Mk}(hm:(σ.less (n::N)).made o=E m)(hv:TT (n::N) m=T){σ':St}(hs:σ.make m=E σ')(H:go P (.dops ds::k) Q .normal (E σ')) :
  go P (.dops ((E (n::N),G,o)::ds)::k) Q .normal (E σ):=fw hm hv hs H
theorem Cw{α:Type}{env bx rows}{id sz i off n:Y}{xs:O α}{row:α→O D}{x y:α}{yv:V1}{dd:O D}(hd:yv.toDs=E dd)(hf:A1 rows id=E (sz,A row xs))
  (hx:xs[i]?=E x) (hn:dd.length=n) (ho:Nat.ble (off+n) (row x).length=T) (hy:F5 (row x) off dd=row y) (H:go P k Q .normal (E ⟨env,bx,put rows id (sz,A row (xs.set i y))⟩)) :
  go P k Q .normal (St.storeV ⟨env,bx,rows⟩ n (.v (.sc (.pe id i off))) (.v yv)):=by
 have e:St.storeV ⟨env,bx,rows⟩ n (.v (.sc (.pe id i off))) (.v yv)=E ⟨env,bx,put rows id (sz,A row (xs.set i y))⟩:=by
  simp only[St.storeV,hf,List.getElem?_map,hx,Option.map_some,hd];rw[if_pos ⟨hn,Nat.le_of_ble_eq_true ho⟩,hy,List.map_set]
 rw[e];exact H
end
def Dg{α:Type}:Y→O α→U (O α)
 | 0,l=>E l
 | _+1,[]=>G
 | n+1,_::l=>Dg n l
def F9{α:Type}:Y→O α→U (O α)
 | 0,_=>E []
 | _+1,[]=>G
 | n+1,c::l=>(F9 n l).map (c:: ·)
def Dl{α:Type}:O α→Y→W
 | [],0=>T
 | _::l,n+1=>Dl l n
 | _,_=>F
def BJ{α:Type}:O α→Y→W
 | _,0=>T
 | _::l,n+1=>BJ l n
 | [],_+1=>F
theorem JH{α:Type}:∀(n:Y) (l:O α),Dg n l=if n≤l.length then E (l.drop n) else G
 | 0,l=>by simp[Dg]
 | n+1,[]=>by simp[Dg]
 | n+1,c::l=>by simp[Dg,JH n l]
theorem Ve{α:Type}:∀(n:Y) (l:O α),F9 n l=if n≤l.length then E (l.take n) else G
 | 0,l=>by simp[F9]
 | n+1,[]=>by simp[F9]
 | n+1,c::l=>by simp only[F9,Ve n l]; split<;>simp_all
theorem PC{α:Type}:∀(l:O α) (n:Y),Dl l n=decide (l.length=n)
 | [],0=>by simp[Dl]
 | [],n+1=>by simp[Dl]
 | _::l,0=>by simp[Dl]
 | _::l,n+1=>by simp[Dl,PC l n]
theorem Lw{α:Type}:∀(l:O α) (n:Y),BJ l n=decide (n≤l.length)
 | [],0=>by simp[BJ]
 | [],n+1=>by simp[BJ]
 | _::l,0=>by simp[BJ]
 | _::l,n+1=>by simp[BJ,Lw l n]
theorem cR{α:Type}{l:O α}:Dg 0 l=E l:=by cases l<;>rfl
theorem cS{α:Type}{n:Y}{c:α}{l:O α}:Dg (n+1) (c::l)=Dg n l:=rfl
theorem pu{α:Type}{l:O α}:F9 0 l=E []:=by cases l<;>rfl
theorem pv{α:Type}{n:Y}{c:α}{l:O α}:F9 (n+1) (c::l)=(F9 n l).map (c:: ·):=rfl
theorem kz{α:Type}:Dl ([]:O α) 0=T:=rfl
theorem lA{α:Type}{n:Y}{c:α}{l:O α}:Dl (c::l) (n+1)=Dl l n:=rfl
theorem kx{α:Type}{l:O α}:BJ l 0=T:=by cases l<;>rfl
theorem ky{α:Type}{n:Y}{c:α}{l:O α}:BJ (c::l) (n+1)=BJ l n:=rfl
theorem aA{cs:O AC}{off n:Y}:Cr cs off T n=(Dg off cs).bind fun l=>(F9 n l).map fun l=> .v (.ag l):=by
 simp only[Cr,cond_true,JH,Ve];by_cases h:off≤cs.length
 ·rw[if_pos h];by_cases h2:off+n≤cs.length
  ·rw[if_pos h2,Option.bind_some,if_pos (by simp; omega)]; rfl
  ·rw[if_neg h2,Option.bind_some,if_neg (by simp; omega)]; rfl
 ·rw[if_neg h,if_neg (by omega)]; rfl
theorem oj{cs:O AC}:BB cs 0 []=cs:=by simp[BB]
theorem om{c:AC}{cs ds:O AC}{n:Y}:BB (c::cs) (n+1) ds=c::BB cs n ds:=by
 simp only[BB,List.take_succ_cons,List.cons_append];rw[show n+1+ds.length=(n+ds.length)+1 by omega,List.drop_succ_cons]
theorem oo{c d:AC}{cs ds:O AC}:BB (c::cs) 0 (d::ds)=d::BB cs 0 ds:=by simp[BB]
theorem I1{α β:Type}{a:α}{f:α→U β}:(E a).bind f=f a:=rfl
theorem ZC{α β:Type}{f:α→U β}:(G:U α).bind f=G:=rfl
theorem get_map{α β:Type}{f:α→β}{l:O α}{i:Y}:(A f l)[i]?=(l[i]?).map f:=List.getElem?_map
theorem fR{α:Type}{a:α}{l:O α}:(a::l)[0]?=E a:=rfl
theorem fQ{α:Type}{a:α}{l:O α}{n:Y}:(a::l)[n+1]?=l[n]?:=by simp
theorem cL:A AC.dat []= []:=rfl
theorem cK{d:D}{l:O D}:A AC.dat (d::l)= .dat d::A AC.dat l:=rfl
section
variable {P : Program} {k : O Fr} {Q : Xm → St → Prop} {σ : St} {its : O AItem} {env : O (Y × AV)} {bx : O (Y × O AC)} {rows : Rows}
theorem iU{α:Type}{rs:Rows}{sz:Y}{xs:O α}{row:α→O D} [Row row sz]{kd:IntKind}{i:V}:CM rs sz (.v (.sc (.dat (.sl (A row xs))))) (.v (.sc (.dat (.int kd i))))=(ix xs i).map fun x=> .v (.sc (.dat (.pd (row x)))):=by
 simp only[CM,Ny];cases ix xs i with
 | none=>rfl
 | some x=>simp[Row.len (row:=row) (sz:=sz),Row.pos row]
theorem iT{rs:Rows}{sz id:Y}{kd:IntKind}{i:V}:CM rs sz (.v (.sc (.own id))) (.v (.sc (.dat (.int kd i))))=(A1 rs id).bind fun p=>(ix p.2 i).bind fun _=>bif p.1==sz then E (.v (.sc (.pe id i.toNat 0))) else G:=by
 simp only[CM];cases A1 rs id with
 | none=>rfl
 | some p=>
  obtain⟨a,es⟩:=p;simp only[I1];cases ix es i with
  | none=>rfl
  | some x=>
   by_cases h:a=sz
   ·simp[h]
   ·have h':(a==sz)=F:=by simpa using h
    simp[h,h']
theorem lR{g:W}{n id off:Y}:Cf ⟨env,bx,rows⟩ g n (.v (.sc (.pb id off)))=(A1 bx id).bind fun cs=>Cr cs off g n:=by
 show(match A1 bx id with | some cs=>_ | none=>G)=_
 cases A1 bx id<;>rfl
theorem lT{g:W}{n id i off:Y}:Cf ⟨env,bx,rows⟩ g n (.v (.sc (.pe id i off)))=(A1 rows id).bind fun p=>(p.2[i]?).bind fun d=>Cr (A AC.dat d) off g n:=by
 simp only[Cf];cases A1 rows id with
 | none=>rfl
 | some p=>
  simp only[I1];cases p.2[i]?<;>rfl
theorem lS{g:W}{n:Y}{cs:O D}:Cf σ g n (.v (.sc (.dat (.pd cs))))=Cr (A AC.dat cs) 0 g n:=rfl
theorem eD{rs:Rows}{off id i o:Y}:BZ rs off (.v (.sc (.pe id i o)))=(A1 rs id).map fun _=> .v (.sc (.pe id i (o+off))):=by
 simp only[BZ];cases A1 rs id<;>rfl
theorem eC{rs:Rows}{off:Y}{cs:O D}:BZ rs off (.v (.sc (.dat (.pd cs))))=(Dg off cs).map fun cs=> .v (.sc (.dat (.pd cs))):=by
 simp only[BZ,JH];split<;>rfl
theorem dz{l:O V1}{i:Y}:Ib i (.tup l)=(l[i]?).map .v:=rfl
theorem mK{id off:Y}:F1 (.v (.sc (.pb id off)))=E (.v (.sc (.pb id off))):=rfl
theorem mL{cs:O D}:F1 (.v (.sc (.dat (.pd cs))))=E (.v (.sc (.dat (.pd cs)))):=rfl
theorem qc:A (St.val σ) []= []:=rfl
theorem qZ{x:Opd}{l:O Opd}:A (St.val σ) (x::l)=σ.val x::A (St.val σ) l:=rfl
theorem lx{f:FuncId}:F0 f []=E []:=rfl
theorem lm{f:FuncId}:EY f []=E (.clo f []):=rfl
theorem lp{f:FuncId}{id:Y}{r:O AV}:EY f (.v (.sc (.pb id 0))::r)=(F0 f (.v (.sc (.pb id 0))::r)).map (.clo f):=rfl
theorem lk{f:FuncId}{d:D}{r:O AV}:EY f (.v (.sc (.dat d))::r)=(EZ (.v (.sc (.dat d))::r)).map fun q=> .dat (.clo f q):=rfl
theorem lu:EZ []=E []:=rfl
theorem lr{ds:O D}{r:O AV}:EZ (.v (.sc (.dat (.pd ds)))::r)=(EZ r).map (.pd ds:: ·):=rfl
theorem lv{f:FuncId}{id:Y}{r:O AV}:F0 f (.v (.sc (.pb id 0))::r)=(F0 f r).map (id:: ·):=rfl
def Mu(K:O AC→U (O AC))(off n:Y)(cs:O AC):AV→U (O AC)
 | .v x=>bif Dl x.cells n&&BJ cs (off+n) then K (BB cs off x.cells) else G
 | _=>G
def Fj(σ:St):O (Y × Y × Opd)→O AC→U (O AC)
 | [],cs=>E cs
 | (off,n,x)::r,cs=>Mu (Fj σ r) off n cs (σ.val x)
theorem OD:∀(ps:O (Y × Y × Opd)) (cs:O AC),D0 cs (ps.map fun p=>(p.1,p.2.1,σ.val p.2.2))=Fj σ ps cs
 | [],cs=>rfl
 | (off,n,x)::r,cs=>by
  simp only[List.map_cons,Fj];generalize σ.val x=v
  cases v with
  | v y=>
   simp only[D0,Mu,PC,Lw];by_cases h1:y.cells.length=n
   ·by_cases h2:off+n≤cs.length
    ·subst h1;simp only[h2,and_self,if_true,decide_true,zB,cond_true];exact OD r _
    ·simp[h1,h2]
   ·simp[h1]
  | _=>rfl
theorem ZF{cs:O AC}:Fj σ [] cs=E cs:=rfl
theorem ZE{off n:Y}{x:Opd}{r:O (Y × Y × Opd)}{cs:O AC}:Fj σ ((off,n,x)::r) cs=Mu (Fj σ r) off n cs (σ.val x):=rfl
theorem ZD{K:O AC→U (O AC)}{off n:Y}{cs:O AC}{x:V1}:Mu K off n cs (.v x)=bif Dl x.cells n&&BJ cs (off+n) then K (BB cs off x.cells) else G:=rfl
theorem fY{d zs ps}:go P (.ops ((G,.build d zs ps)::its)::k) Q .normal (E σ)=go P (.ops its::k) Q .normal (Au σ d ((Fj σ ps zs).map fun cs=> .v (.ag cs))):=by rw[fh,OD]
theorem pK{d zs ps}:σ.step (.build d zs ps)=Au σ d ((Fj σ ps zs).map fun cs=> .v (.ag cs)):=by rw[UJ,OD]
theorem pT{n id off:Y}{y:V1}:St.storeV ⟨env,bx,rows⟩ n (.v (.sc (.pb id off))) (.v y)=(A1 bx id).bind fun cs=>bif Dl y.cells n&&BJ cs (off+n) then E ⟨env,put bx id (BB cs off y.cells),rows⟩ else G:=by
 simp only[St.storeV,PC,Lw];cases A1 bx id with
 | none=>rfl
 | some cs=>
  simp only[I1];by_cases h1:y.cells.length=n
  ·by_cases h2:off+n≤cs.length
   ·simp[h1,h2]
   ·simp[h1,h2]
  ·simp[h1]
def O1(sz:Y)(es:O (O D)):W:=es.all fun r=>r.length==sz
theorem oN{α:Type}{sz:Y}{row:α→O D} [Row row sz]{xs:O α}:O1 sz (A row xs)=T:=R7 (Row.len (row:=row)) xs
theorem YQ{d sz bytes id:Y}{y:AV}:St.appV ⟨env,bx,rows⟩ d sz bytes (.v (.sc (.own id))) y=bif id / 99999999999==0 then((A1 rows id).bind fun p=>(appSrc rows y).bind fun es'=>
  bif (p.1==sz)&&(O1 sz es'&&A7 p.2.length es'.length bytes) then E ⟨put (env.map fun p=>(p.1,p.2.map (AC.kill id))) d (.v (.sc (.own id))),bx.map fun p=>(p.1,p.2.map (AC.kill id)),put rows id (sz,p.2++es')⟩ else G) else G:=by
 simp only[St.appV];by_cases h0:id / 99999999999=0
 rotate_left
 ·rw[if_neg h0,show(id / 99999999999==0)=F by simpa using h0];rfl
 rw[if_pos h0,show(id / 99999999999==0)=T by simpa using h0,cond_true];cases A1 rows id with
 | none=>rfl
 | some p=>
  obtain⟨a,es⟩:=p;simp only[I1];cases appSrc rows y with
  | none=>rfl
  | some es'=>
   simp only[I1];by_cases h1:a=sz
   ·by_cases h2:O1 sz es'=T
    ·by_cases h3:A7 es.length es'.length bytes=T
     ·have h3':=of_decide_eq_true h3;rw[if_pos ⟨h1,h2,h3'.1,h3'.2⟩];simp only[h1,beq_self_eq_true,h2,h3,zB,cond_true];rfl
     ·have h3':A7 es.length es'.length bytes=F:=by simpa using h3
      rw[if_neg (fun h=>h3 (decide_eq_true ⟨h.2.2.1,h.2.2.2⟩))];simp[h3']
    ·have h2':O1 sz es'=F:=by simpa using h2
     rw[if_neg (fun h=>h2 h.2.1)];simp[h2']
   ·have h1':(a==sz)=F:=by simpa using h1
    rw[if_neg (fun h=>h1 h.1)];simp[h1']
theorem pC{rs:Rows}{es:O (O D)}:appSrc rs (.v (.sc (.dat (.sl es))))=E es:=rfl
theorem pD{rs:Rows}:appSrc rs (.v (.sc .nil))=E []:=rfl
theorem pE{rs:Rows}{id:Y}:appSrc rs (.v (.sc (.own id)))=(A1 rs id).map fun p=>p.2:=by
 simp only[appSrc,toD0];cases A1 rs id<;>rfl
theorem lb{α:Type}{f:α→O D}{a b:O α}:A f a++A f b=A f (a++b):=List.map_append.symm
def Ef(σ:St)(n:Y):U Opd→U V
 | none=>E n
 | some x=>BH (σ.val x)
def Gg(n:Y):U V→U V→U V→U (Y × Y)
 | some m,E h,E l=>bnd m h l n
 | _,_,_=>G
theorem OE{lo hi mx:U Opd}{n:Y}:Du σ lo hi mx n=Gg n (Ef σ n mx) (Ef σ n hi) (match lo with | none=>E 0 | some x=>BH (σ.val x)):=by
 cases mx<;>cases hi<;>cases lo<;>(simp only[Du,Gg,Ef]; first | rfl | (split<;>simp_all[Gg,bnd]))
def LG(σ:St):U Opd→U V
 | none=>E 0
 | some x=>BH (σ.val x)
theorem oy{α:Type}{sz:Y}{lo hi mx:U Opd}{xs:O α}{row:α→O D} [Row row sz]:DJ σ sz (.v (.sc (.dat (.sl (A row xs))))) lo hi mx=(Gg xs.length (Ef σ xs.length mx) (Ef σ xs.length hi) (LG σ lo)).map fun p=> .v (.sc (.dat (.sl (A row ((xs.drop p.1).take (p.2 - p.1)))))):=by
 have h:(A row xs).all (fun d=>d.length==sz)=T:=R7 (Row.len (row:=row)) xs;simp only[DJ,h,Row.pos row (sz:=sz),decide_true,zB,if_true,List.length_map,OE];cases lo<;>simp[LG,List.map_drop,List.map_take]
theorem pJ{lo hi:U Opd}{s:O UInt8}:G5 σ (.v (.sc (.dat (.str s)))) lo hi=(Gg s.length (Ef σ s.length G) (Ef σ s.length hi) (LG σ lo)).map fun p=> .v (.sc (.dat (.str ((s.drop p.1).take (p.2 - p.1))))):=by
 simp only[G5,OE];cases lo<;>rfl
theorem mf{n:Y}:Ef σ n G=E (n:V):=rfl
theorem mg{n:Y}{x:Opd}:Ef σ n (E x)=BH (σ.val x):=rfl
theorem md:LG σ G=E 0:=rfl
theorem me{x:Opd}:LG σ (E x)=BH (σ.val x):=rfl
theorem YT{kd:IntKind}{i:V}:BH (.v (.sc (.dat (.int kd i))))=E i:=rfl
theorem ZI{n:Y}{m h l:V}:Gg n (E m) (E h) (E l)=bnd m h l n:=rfl
theorem pc{x y:O UInt8}:G6 .add x y=bif Bm x.length y.length then E (.str (x++y)) else G:=by
 simp only[G6,Bm];by_cases h:x.length+y.length≤4611686018427387904
 ·simp[h]
 ·simp[h]
theorem jN{k:IntKind}{x y:V}:AA .and k x y=E (.int k (AI .and k x y)):=rfl
theorem jW{k:IntKind}{x y:V}:AA .or k x y=E (.int k (AI .or k x y)):=rfl
theorem jh{k:IntKind}{x y:V}:AA .xor k x y=E (.int k (AI .xor k x y)):=rfl
theorem Zo:(T==T)=T:=rfl
theorem Zn:(T==F)=F:=rfl
theorem Zl:(F==T)=F:=rfl
theorem Zk:(F==F)=T:=rfl
theorem YC{b:W}:(F&&b)=F:=rfl
end
def Ub{α:Type}(k:Y):U α→O (Y × α)→O (Y × α)
 | some v,r=>(k,v)::r
 | none,r=>r
theorem nE{α:Type}{l:O (Y × α)}:BV l []= []:=rfl
theorem nD{α:Type}{l:O (Y × α)}{k:Y}{ks:O Y}:BV l (k::ks)=Ub k (A1 l k) (BV l ks):=by
 show(match A1 l k with | some v=>_ | none=>_)=_
 cases A1 l k<;>rfl
theorem nC{α:Type}{k:Y}{v:α}{r:O (Y × α)}:Ub k (E v) r=(k,v)::r:=rfl
theorem jq{env bx rows ks bs rs}:(St.mk env bx rows).kept ks bs rs=⟨BV env ks,BV bx bs,BV rows rs⟩:=rfl
theorem gR{P:Program}{k:O Fr}{Q:Xm→St→Prop}{σ:St}{its:O AItem}{ks bs rs:O Y}:go P (.ops ((G,.keep ks bs rs)::its)::k) Q .normal (E σ)=go P (.ops its::k) Q .normal (E (σ.kept ks bs rs)):=AT rfl
theorem nG{b:W}{x y:AV}:J9 (.v (.sc (.dat (.bool b)))) x y=E (bif b then x else y):=rfl
theorem Zj{g x y:W}:HZ g (.v (.sc (.dat (.bool x)))) (.v (.sc (.dat (.bool y))))=E (.v (.sc (.dat (.bool (bif g then !(x==y) else x==y))))):=rfl
theorem mC{m:W}{k:IntKind}{x y:V}:Hq m (.v (.sc (.dat (.int k x)))) (.v (.sc (.dat (.int k y))))=E (.v (.sc (.dat (.int k (bif m then(if x<y then y else x) else(if y<x then y else x)))))):=by simp[Hq]
theorem qP{k:IntKind}{x:V}:HP .neg (.v (.sc (.dat (.int k x))))=E (.v (.sc (.dat (.int k (k.wrap (0 - x)))))):=rfl
theorem eB{rs:Rows}{off id o:Y}:BZ rs off (.v (.sc (.pb id o)))=E (.v (.sc (.pb id (o+off)))):=rfl
theorem lE{rs:Rows}{id:Y}:DF rs (.v (.sc (.own id)))=(A1 rs id).map fun p=> .v (.sc (.dat (.int .i64 p.2.length))):=by
 show(match A1 rs id with | some (_,es)=>_ | none=>_)=_
 cases A1 rs id<;>rfl
theorem iy{k:Y}:EV k []= []:=rfl
theorem iw{k:Y}{d:DV}{ds:O DV}:EV k (d::ds)=(k,d.av)::EV (k+1) ds:=rfl
theorem iz{ds:O DV}:St.init ds=⟨EV 0 ds,[],[]⟩:=rfl
theorem dI{d:D}:DV.av (.sc d)= .v (.sc (.dat d)):=rfl
theorem dH{ds:O D}:DV.av (.ag ds)= .v (.ag (ds.map .dat)):=rfl
theorem lP{f:AC→AC}:A (V1.map f) []= []:=rfl
theorem lO{f:AC→AC}{x:V1}{l:O V1}:A (V1.map f) (x::l)=x.map f::A (V1.map f) l:=rfl
theorem kj{f:AC→AC}:A (fun p:Y × AV=>(p.1,p.2.map f)) []= []:=rfl
theorem ki{f:AC→AC}{k:Y}{v:AV}{l:O (Y × AV)}:A (fun p:Y × AV=>(p.1,p.2.map f)) ((k,v)::l)=(k,v.map f)::A (fun p:Y × AV=>(p.1,p.2.map f)) l:=rfl
theorem ZH{f:AC→AC}:A (fun p:Y × O AC=>(p.1,p.2.map f)) []= []:=rfl
theorem ZG{f:AC→AC}{k:Y}{v:O AC}{l:O (Y × O AC)}:A (fun p:Y × O AC=>(p.1,p.2.map f)) ((k,v)::l)=(k,v.map f)::A (fun p:Y × O AC=>(p.1,p.2.map f)) l:=rfl
theorem aP{f:AC→AC}:A f ([]:O AC)= []:=rfl
theorem aO{f:AC→AC}{c:AC}{l:O AC}:A f (c::l)=f c::A f l:=rfl
theorem lN{α β:Type}{f:α→β}{l:O α}:(A f l).length=l.length:=List.length_map ..
theorem ZZ{c:AC}:V1.cells (.sc c)= [c]:=rfl
theorem ZV{cs:O AC}:V1.cells (.ag cs)=cs:=rfl
theorem lc{f:AC→AC}{env bx rows}:(St.mk env bx rows).map f=⟨env.map fun p=>(p.1,p.2.map f),bx.map fun p=>(p.1,p.2.map f),rows⟩:=rfl
theorem Z9{f:AC→AC}{c:AC}:AV.map f (.v (.sc c))= .v (.sc (f c)):=rfl
theorem Z8{f:AC→AC}{cs:O AC}:AV.map f (.v (.ag cs))= .v (.ag (cs.map f)):=rfl
theorem Zb{f:AC→AC}:AV.map f .undef= .undef:=rfl
theorem Z7{f:AC→AC}:AV.map f .no= .no:=rfl
theorem Za{f:AC→AC}{l:O V1}:AV.map f (.tup l)= .tup (l.map (V1.map f)):=rfl
theorem qV{f:AC→AC}{c:AC}:V1.map f (.sc c)= .sc (f c):=rfl
theorem qU{f:AC→AC}{cs:O AC}:V1.map f (.ag cs)= .ag (cs.map f):=rfl
theorem jx{id:Y}{d:D}:AC.kill id (.dat d)= .dat d:=rfl
theorem ka{id:Y}:AC.kill id .nil= .nil:=rfl
theorem kg{id:Y}:AC.kill id .undef= .undef:=rfl
theorem kb{id i:Y}:AC.kill id (.own i)=bif i==id then .undef else .own i:=rfl
theorem kf{id i a b:Y}:AC.kill id (.osub i a b)=bif i==id then .undef else .osub i a b:=rfl
theorem jy{id i a b:Y}:AC.kill id (.pe i a b)=bif i==id then .undef else .pe i a b:=rfl
theorem jv{id i a:Y}:AC.kill id (.pb i a)= .pb i a:=rfl
theorem jw{id f:Y}{is:O Y}:AC.kill id (.clo f is)= .clo f is:=rfl
theorem em{id:Y}{es:O (O D)}{d:D}:AC.frz id es (.dat d)= .dat d:=rfl
theorem fA{id:Y}{es:O (O D)}:AC.frz id es .nil= .nil:=rfl
theorem fE{id:Y}{es:O (O D)}:AC.frz id es .undef= .undef:=rfl
theorem fB{id i:Y}{es:O (O D)}:AC.frz id es (.own i)=bif i==id then .dat (.sl es) else .own i:=rfl
theorem fD{id i a b:Y}{es:O (O D)}:AC.frz id es (.osub i a b)=bif i==id then .undef else .osub i a b:=rfl
theorem en{id i a b:Y}{es:O (O D)}:AC.frz id es (.pe i a b)=bif i==id then .undef else .pe i a b:=rfl
theorem eg{id i a:Y}{es:O (O D)}:AC.frz id es (.pb i a)= .pb i a:=rfl
theorem eh{id f:Y}{es:O (O D)}{is:O Y}:AC.frz id es (.clo f is)= .clo f is:=rfl
theorem gH{P:Program}{k:O Fr}{Q:Xm→St→Prop}{σ:St}{its:O AItem}{id sz:Y}{es:O (O D)}(hf:A1 σ.rows id=E (sz,es))(H:go P (.ops its::k) Q .normal (E {(σ.map (AC.frz id es)) with rows:=erase σ.rows [id] }))(h0:(id / 99999999999==0)=T:=by rfl) :
  go P (.ops ((G,.frz id)::its)::k) Q .normal (E σ):=by
 rw[gG];simp only[St.step,hf,h0,Bool.not_true,Bool.false_eq_true,if_false];exact H
theorem E7{P:Program}{k:O Fr}{Q:Xm→St→Prop}{σ:St}{its:O AItem}{b j id sz:Y}{cs cs':O AC}(h1:σ.has id=F)(h2:A1 σ.bx b=E cs)(h3:cs[j]?=E .nil)(h4:cs.set j (.own id)=cs')
  (H:go P (.ops its::k) Q .normal (E {σ with bx:=put σ.bx b cs',rows:=put σ.rows id (sz,[]) })) (h0:(id / 99999999999==0)=T:=by rfl):go P (.ops ((G,.ownb b j id sz)::its)::k) Q .normal (E σ):=by
 rw[gg];subst h4;simp only[St.step,h1,h2,h3,h0,Bool.not_true,Bool.or_self,Bool.false_eq_true,if_false];exact H
theorem dt{α:Type}{ks:O Y}:erase ([]:O (Y × α)) ks= []:=rfl
theorem du{α:Type}{k n:Y}{v:α}{r:O (Y × α)}:erase ((k,v)::r) [n]=bif k==n then erase r [n] else(k,v)::erase r [n]:=by
 by_cases h:k=n
 ·simp[erase,h]
 ·have h':(k==n)=F:=by simpa using h
  simp[erase,h,h']
theorem oC{ts:O RV}{rs:O R1}{σ:St}:A9 ts rs .ret σ=(OutVs σ ts rs∧Ed (Da σ ts rs)=T):=rfl
theorem oB{ts:O RV}{rs:O R1}{σ:St}:A9 ts rs .normal σ=(OutVs σ ts rs∧Ed (Da σ ts rs)=T):=rfl
theorem mq{σ:St}{t:RV}{ts:O RV}{r:R1}{rs:O R1}:OutVs σ (t::ts) (r::rs)=(Md σ.rows (J5 σ t) r∧OutVs σ ts rs):=rfl
theorem mo{σ:St}{t:RV}{ts:O RV}{r:R1}{rs:O R1}:Da σ (t::ts) (r::rs)=PT (J5 σ t) r++Da σ ts rs:=rfl
theorem mn{σ:St}{a n:Y}{g:W}:J5 σ (.c a g n)=(Cf σ g n (σ.get a)).getD .undef:=rfl
def Cj:=Z @oC (Z @oB (Z @mq (Z @mo @mn)))
set_option maxRecDepth 4000 in
def oP:=Z @ga (Z @gY (Z @gu (Z @gn (Z @fy (Z @gD (Z @gt (Z @fg (Z @fz (Z @gp (Z @fp (Z @gm (Z @gl (Z @gi (Z @gk (Z @fZ (Z @ff (Z @gf (Z @fx (Z @Uk (Z @gO (Z @gN (Z @gL (Z @gK (Z @gJ (Z @eP (Z @eO (Z @nY (Z @nX (Z @qX (Z @qW (Z @fP (Z @oq (Z @getD_some (Z @fO (Z @map_some (Z @map_none (Z @pA (Z @lF (Z @oW (Z @oV (Z @lC (Z @aW (Z @Zt (Z @ZB (Z @jM (Z @jg (Z @jU (Z @jX (Z @jY (Z @jP (Z @jV (Z @jT (Z @jS (Z @jR (Z @jQ (Z @pf (Z @pg (Z @qQ (Z @iY (Z @jk (Z @eL (Z @ZW (Z @aT (Z @aR (Z @gX (Z @gb (Z @gT (Z @gZ (Z @fX (Z @fW (Z @hI (Z @fq (Z @gw (Z @gy (Z @gB (Z @gC (Z @gP (Z @gQ (Z @gA (Z @gS (Z @gr (Z @gx (Z @gW (Z @gU (Z @gz (Z @fU (Z @fb (Z @jI (Z @jA (Z @jB (Z @jF (Z @jE (Z @sR (Z @sQ (Z @jL (Z @jJ (Z @jK (Z @jH (Z @jD (Z @jC (Z @oG (Z @oH (Z @oJ (Z @ZY (Z @ZU (Z @oK (Z @oM (Z @oL (Z @nU (Z @nT (Z @YP (Z @YO (Z @ZJ (Z @Zm (Z @bM (Z @bO (Z @aw (Z @bH (Z @bN (Z @ar (Z @aq (Z @bU (Z @az (Z @bQ (Z @bS (Z @bB (Z @bC (Z @bE (Z @al (Z @bF (Z @bA (Z @bG (Z @bP (Z @bR (Z @bL (Z @bI (Z @as_ (Z @am (Z @au (Z @bK (Z @br (Z @bu (Z @bY (Z @bj (Z @bt (Z @bX (Z @bW (Z @cD (Z @bZ (Z @bw (Z @cB (Z @bc (Z @bd (Z @bf (Z @bV (Z @bg (Z @ba (Z @bh (Z @bv (Z @cA (Z @bq (Z @bl (Z @cF (Z @cE (Z @cJ (Z @cI (Z @cH (Z @lK (Z @lj (Z @lh (Z @jp (Z @jo (Z @jm (Z @py (Z @qS (Z @YZ (Z @Z0 (Z @Z2 (Z @Z3 (Z @Z4 (Z @YY (Z @YX (Z @mR (Z @mS (Z @YG (Z @gF (Z @fV (Z @cw (Z @cz (Z @cZ (Z @cp (Z @cy (Z @cW (Z @cV (Z @dF (Z @cf (Z @dB (Z @dD (Z @cj (Z @ck (Z @cm (Z @cT (Z @cn (Z @cg (Z @co (Z @dA (Z @dC (Z @cv (Z @cq (Z @cX (Z @cU (Z @cY (Z @cu (Z @cd (Z @ce (Z @UW (Z @UY (Z @US (Z @UX (Z @UI (Z @UH (Z @V6 (Z @UK (Z @V2 (Z @V4 (Z @UM (Z @UN (Z @UP (Z @UQ (Z @UL (Z @UR (Z @V0 (Z @V3 (Z @UV (Z @UT (Z @nE (Z @nD (Z @nC (Z @jq (Z @gR (Z @nG (Z @Zj (Z @mC (Z @qP (Z @eB (Z @lE (Z @iy (Z @iw (Z @iz (Z @dI (Z @dH (Z @lN (Z @ZZ (Z @ZV (Z @lc (Z @Z9 (Z @Z8 (Z @Zb (Z @Za (Z @qV (Z @qU (Z @jx (Z @ka (Z @kg (Z @kb (Z @kf (Z @jy (Z @jv (Z @jw (Z @em (Z @fA (Z @fE (Z @fB (Z @fD (Z @en (Z @eg (Z @eh (Z @dt (Z @du (Z @cR (Z @cS (Z @pu (Z @pv (Z @kz (Z @lA (Z @kx (Z @ky (Z @aA (Z @oj (Z @om (Z @oo (Z @I1 (Z @ZC (Z @get_map (Z @fR (Z @fQ (Z @cL (Z @cK (Z @iU (Z @iT (Z @lR (Z @lT (Z @lS (Z @eD (Z @eC (Z @dz (Z @mK (Z @mL (Z @qc (Z @qZ (Z (Z @lx (Z @lm (Z @lp (Z @lk (Z @lu @lr))))) (Z @lv (Z @ZF (Z @ZE (Z @ZD (Z @fY (Z @pK (Z @pT (Z @oN (Z @YQ (Z @pC (Z @pD (Z @pE (Z @lb (Z @oy (Z @pJ (Z @mf (Z @mg (Z @md (Z @me (Z @YT (Z @ZI (Z @pc (Z @jN (Z @jW (Z @jh (Z @Zo (Z @Zn (Z @Zl (Z @Zk (Z @YC (Z @Ny (Z @Uo (Z @Rw (Z @nZ (Z @nb (Z @nd (Z @nc (Z @lP (Z @lO (Z @kj (Z @ki (Z @ZH (Z @ZG (Z @aP (Z @aO (Z @cG (Z @gI @Z7))))))))))))))))))))))))))))))))))))))))))))))))))))))))))))))))))))))))))))))))))))))))))))))))))))))))))))))))))))))))))))))))))))))))))))))))))))))))))))))))))))))))))))))))))))))))))))))))))))))))))))))))))))))))))))))))))))))))))))))))))))))))))))))))))))))))))))))))))))))))))))))))))))))))))))))))))))))))))))))))))))))))))))))))))))))))))))))))))))))
theorem jG{env:O (Y × AV)}{bx:O (Y × O AC)}{rows:Rows}{d:Y}{ids:O Y}{R1:Ap}{r:D}:St.instX ⟨env,bx,rows⟩ d ids R1 r=⟨put env d (.v (.sc (.dat r))),bx,Ch rows ids R1⟩:=rfl
theorem nV{rs:Rows}{id:Y}{ids:O Y}{r:Y × O (O D)}{R:Ap}:Ch rs (id::ids) (r::R)=Ch (put rs id r) ids R:=rfl
theorem nW{rs:Rows}:Ch rs [] []=rs:=rfl
theorem Rm{N:O Y}:AV.avoids N (.v (.sc .z))=T:=by simp[AV.avoids,AV.cells,V1.cells,AC.avoids,AC.uses]
theorem wL{P:Program}{k:O Fr}{Q:Xm→St→Prop}{σ:St}{N:O Y}{d:Y}{its:O AN}:go P (.dops ((E N,G,.zsl d)::its)::k) Q .normal (E σ)=go P (.dops its::k) Q .normal (E (σ.set d (.v (.sc .z)))):=by
 rw[Bi rfl];show go P _ Q .normal (bif (((σ.less N).set d (.v (.sc .z))).get d).avoids N then E (σ.set d (((σ.less N).set d (.v (.sc .z))).get d)) else G)=_
 rw[St.get_set_same,Rm];rfl
theorem Z6{N:O Y}:AV.avoids N (.tup [])=T:=rfl
theorem Z5{N:O Y}{x:V1}{l:O V1}:AV.avoids N (.tup (x::l))=((AV.v x).avoids N&&(AV.tup l).avoids N):=by simp[AV.avoids,AV.cells]
theorem lz{t:TypeId}{d:D}:FY t (.v (.sc (.dat d)))=E (.v (.sc (.dat (.ifc t d)))):=rfl
theorem pz{t u:TypeId}{zc:AC}{d:D}:G7 t zc (.v (.sc (.dat (.ifc u d))))=bif u==t then E (.tup [.sc (.dat d),.sc (.dat (.bool T))]) else E (.tup [.sc zc,.sc (.dat (.bool F))]):=rfl
theorem fH{id:Y}{ds:O D}{d:D}:AC.frzb id ds (.dat d)= .dat d:=rfl
theorem fJ{id:Y}{ds:O D}:AC.frzb id ds .nil= .nil:=rfl
theorem fM{id:Y}{ds:O D}:AC.frzb id ds .undef= .undef:=rfl
theorem fK{id i:Y}{ds:O D}:AC.frzb id ds (.own i)= .own i:=rfl
theorem fL{id i a b:Y}{ds:O D}:AC.frzb id ds (.osub i a b)= .osub i a b:=rfl
theorem fI{id i a b:Y}{ds:O D}:AC.frzb id ds (.pe i a b)= .pe i a b:=rfl
theorem fG{id i a:Y}{ds:O D}:AC.frzb id ds (.pb i a)=bif i==id then .dat (.pd (ds.drop a)) else .pb i a:=rfl
theorem nu{a b:Y}{d:D}:AC.ren a b (.dat d)= .dat d:=rfl
theorem nw{a b:Y}:AC.ren a b .nil= .nil:=rfl
theorem oA{a b:Y}:AC.ren a b .undef= .undef:=rfl
theorem nx{a b i:Y}:AC.ren a b (.own i)= .own (bif i==a then b else i):=rfl
theorem ny{a b i x y:Y}:AC.ren a b (.osub i x y)= .osub (bif i==a then b else i) x y:=rfl
theorem nv{a b i x y:Y}:AC.ren a b (.pe i x y)= .pe (bif i==a then b else i) x y:=rfl
theorem nq{a b i x:Y}:AC.ren a b (.pb i x)= .pb i x:=rfl
theorem ly{t:TypeId}{a b:D}:FY t (.v (.ag [.dat a,.dat b]))=E (.v (.sc (.dat (.ifs t [a,b])))):=rfl
def FCq(P:Program)(f:FuncId)(ds:O DV)(rs:O R1):U D→Prop
 | none=>FC P f ds rs
 | some d=>Jl P f ds d
theorem FCq.none{P:Program}{f:FuncId}{ds:O DV}{rs:O R1}{pd:U D}(h:FCq P f ds rs pd)(hp:pd=G):FC P f ds rs:=by subst hp; exact h
theorem FCq.some{P:Program}{f:FuncId}{ds:O DV}{rs:O R1}{pd:U D}{d:D}(h:FCq P f ds rs pd)(hp:pd=E d):Jl P f ds d:=by subst hp; exact h
theorem mA{t:TypeId}{id:Y}:FY t (.v (.sc (.pb id 0)))=E (.v (.sc (.ipb t id))):=rfl
theorem jz{id i:Y}{t:TypeId}:AC.kill id (.ipb t i)= .ipb t i:=rfl
theorem eu{id i:Y}{t:TypeId}{es:O (O D)}:AC.frz id es (.ipb t i)= .ipb t i:=rfl
theorem fN{g:W}{ks:O FK}{cs ds:O AC}:IJ g ks (.v (.ag cs)) (.v (.ag ds))=(Bc ks cs ds).map fun b=> .v (.sc (.dat (.bool (bif g then !b else b)))):=rfl
theorem dp:Bc [] [] []=E T:=rfl
theorem dn{k:IntKind}{x y:V}{ks:O FK}{cs ds:O AC}:Bc (.i::ks) (.dat (.int k x)::cs) (.dat (.int k y)::ds)=(Bc ks cs ds).map fun b=>(x==y)&&b:=if_pos rfl
theorem dl{x y:W}{ks:O FK}{cs ds:O AC}:Bc (.b::ks) (.dat (.bool x)::cs) (.dat (.bool y)::ds)=(Bc ks cs ds).map fun b=>(x==y)&&b:=rfl
theorem dq{x y:O UInt8}{ks:O FK}{cs ds:O AC}:Bc (.s::ks) (.dat (.str x)::cs) (.dat (.str y)::ds)=(Bc ks cs ds).map fun b=>(x==y)&&b:=rfl
def oR:=Z @Rm (Z @wL (Z @Z6 (Z @Z5 (Z @jG (Z @nV (Z @nW (Z @gV (Z @hD (Z @UU (Z @V5 (Z @bJ (Z @bp (Z @cr (Z @bT (Z @cC (Z @dE (Z @lz (Z @pz (Z @fH (Z @fJ (Z @fM (Z @fK (Z @fL (Z @fI (Z @fG (Z @mA (Z @jz (Z @eu (Z @nu (Z @nw (Z @oA (Z @nx (Z @ny (Z @nv (Z @nq (Z @gh (Z @fj (Z @gj (Z @fc (Z @ly (Z @UO (Z @gM (Z @bD (Z @be (Z @cl (Z @fN (Z @dp (Z @dn (Z @dl @dq)))))))))))))))))))))))))))))))))))))))))))))))))
end Go.Vi
