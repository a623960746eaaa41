/-
The value level. No condition.
-/
import Derived.Test.YthcejlnjploddaaGreatDoorBVi28
namespace Go.Vi
set_option linter.all false
open And renaming intro → Z
open List renaming map → A, mem_singleton → B, replicate → zA
open Bool renaming and_self → I, false_eq_true → zC, not_true → zD, true → T, false → F
open Nat renaming one_pos → zB
open Option renaming some → E, none → G
open _root_ renaming List → O, Option → U, Int → V, Bool → W, Nat → Y
abbrev S(n:Y):Opd:= .t n
abbrev K(n:V):Opd:= .c (.v (.sc (.dat (.int .i64 n))))
abbrev K8(n:V):Opd:= .c (.v (.sc (.dat (.int .u8 n))))
abbrev KB(b:W):Opd:= .c (.v (.sc (.dat (.bool b))))
abbrev KS(s:O UInt8):Opd:= .c (.v (.sc (.dat (.str s))))
abbrev KN:Opd:= .c (.v (.sc .nil))
abbrev aI(n:V):AC:= .dat (.int .i64 n)
abbrev a8(n:V):AC:= .dat (.int .u8 n)
abbrev aB(b:W):AC:= .dat (.bool b)
abbrev aS(s:O UInt8):AC:= .dat (.str s)
abbrev aL(es:O (O D)):AC:= .dat (.sl es)
abbrev vc(c:AC):AV:= .v (.sc c)
abbrev va(cs:O AC):AV:= .v (.ag cs)
def rI(n:V):O D:= [.int .i64 n]
def r8(n:V):O D:= [.int .u8 n]
def rB(b:W):O D:= [.bool b]
def rS(s:O UInt8):O D:= [.str s]
def rL{α:Type}(row:α→O D)(xs:O α):O D:= [.sl (xs.map row)]
class Row {α:Type} (row:α→O D) (sz:Y):Prop where
 len:∀x,(row x).length=sz
 pos:0<sz
instance:Row rI 1:=⟨fun _=>rfl,zB⟩
instance:Row r8 1:=⟨fun _=>rfl,zB⟩
instance:Row rB 1:=⟨fun _=>rfl,zB⟩
instance:Row rS 1:=⟨fun _=>rfl,zB⟩
instance {α:Type} (row:α→O D):Row (rL row) 1:=⟨fun _=>rfl,zB⟩
theorem ZJ(n:V):rI n= [.int .i64 n]:=rfl
def Js(n:V):UInt8:=UInt8.ofNat n.toNat
theorem VN:∀{xs:O V},D3 (A r8 xs)=E (A Js xs)
 | []=>rfl
 | n::xs=>by
  show(D3 (A r8 xs)).map _=_
  rw[VN];rfl
theorem wF(n:V):r8 n= [.int .u8 n]:=rfl
theorem wH(b:W):rB b= [.bool b]:=rfl
theorem wJ(s:O UInt8):rS s= [.str s]:=rfl
theorem wI{α:Type}(row:α→O D)(xs:O α):rL row xs= [.sl (xs.map row)]:=rfl
theorem Vm{α:Type}{row:α→O D}{sz:Y}(h:∀x,(row x).length=sz)(xs:O α):(xs.map row).all (fun d=>d.length==sz)=T:=by
 simp[List.all_map,Function.comp_def,h]
@[irreducible] def bigN:Y:=1208925819614629174706176
def bnd(m h l:V)(n:Y):U (Y × Y):=if 0≤l∧l≤h∧h≤m∧m≤n then E (l.toNat,h.toNat) else G
def BI(l c:V)(bytes:Y):U Y:=if 0≤l∧l≤c∧c*bytes≤140737488355328∧c≤4611686018427387904 then E l.toNat else G
def A3(n m bytes:Y):W:=decide ((n+m)*bytes≤140737488355328∧n+m≤4611686018427387904)
def Cy(n m:Y):W:=decide (n+m≤4611686018427387904)
theorem Og{α β:Type}{f:α→β}{l:O α}{i:V}:ix (l.map f) i=(ix l i).map f:=by
 unfold ix;split<;>simp
theorem Ay{α:Type}{l:O α}{i:V}{x:α}(h:ix l i=E x):l[i.toNat]?=E x:=by
 unfold ix at h;split at h
 ·exact h
 ·cases h
theorem ob{α β:Type}{o:U α}{f:α→U β}{r:β}(h:o.bind f=E r):∃a,o=E a∧f a=E r:=Option.bind_eq_some_iff.1 h
class FlatRow {α:Type} (row:α→O D):Prop where
 flat:∀x,∀d∈row x,d.flat=T
instance:FlatRow rI:=⟨fun _ d h=>by rw[B.1 h]; rfl⟩
instance:FlatRow r8:=⟨fun _ d h=>by rw[B.1 h]; rfl⟩
instance:FlatRow rB:=⟨fun _ d h=>by rw[B.1 h]; rfl⟩
instance:FlatRow rS:=⟨fun _ d h=>by rw[B.1 h]; rfl⟩
def UC:O RC→Prop
 | []=>True
 | c::cs=>c.flat∧UC cs
theorem Db{rs:O R1}{cs:O RC}(h:rs.flatMap R1.cells=cs)(hf:UC cs):CC rs:=by
 subst h;unfold CC;generalize rs.flatMap R1.cells=l at hf
 induction l with
 | nil=>intro c hc; simp at hc
 | cons a l ih=>
  intro c hc;rcases List.mem_cons.1 hc with rfl|hc
  ·exact hf.1
  ·exact ih hf.2 c hc
theorem Dc{α:Type}{row:α→O D} [FlatRow row]{sz:Y}{xs:O α}:RC.flat (.o sz (A row xs)):=by
 intro r hr;obtain⟨x,_,rfl⟩:=List.mem_map.1 hr;exact FlatRow.flat x
theorem Rt{α:Type}{row:α→O D}{z:α}{zs:O D}{n:Y}(h:row z=zs):zA n zs=A row (zA n z):=by rw[List.map_replicate,h]
theorem AR{α:Type}{b:W}{x:U α}{r:α}(h:(if b=T then x else G)=E r):b=T∧x=E r:=by
 cases b
 ·rw[if_neg Bool.false_ne_true] at h; cases h
 ·exact⟨rfl,by simpa using h⟩
theorem Jf{α:Type}{b:W}{x:U α}{r:α}(h:(if b=T then G else x)=E r):b=F∧x=E r:=by
 cases b
 ·exact⟨rfl,by simpa using h⟩
 ·rw[if_pos rfl] at h; cases h
theorem ic{α:Type}{b:W}{x y:U α}{r:α}(h:(if b=T then x else y)=E r):(b=T∧x=E r)∨(b=F∧y=E r):=by
 cases b with
 | true=>exact .inl ⟨rfl,h⟩
 | false=>exact .inr ⟨rfl,h⟩
section
variable {P : Program} {k : O Fr} {Q : Xn → St → Prop} {σ : St} {its : O AItem} {ds : O AZ} {o : AOp} {d : Y}
theorem AM{c:Xi}(h:go P (.code c:: .code (.loop c)::k) Q .normal (E σ)):go P (.code (.loop c)::k) Q .normal (E σ):=by
 intro X hX;refine hX σ (VC c (fun e σ' h=> ?_) h);cases e with
 | normal=>exact h X hX
 | exit id=>exact h
 | ret=>exact h
 | pan d=>exact h
theorem cy(hm:P.follows .mixedOrders=T){f:FuncId}{c:Xi}{ts:O RV}{nt:Y}{ds:O DV}{rs:O R1}{σ:St}(he:BM P f=E (c.strip,ts,nt))(hl:Nat.ble ds.length nt=T)(hσ:St.init ds=σ)
  (h:go P [.code c] (A7 ts rs) .normal (E σ)):FC P f ds rs:=dA hm he (Nat.le_of_ble_eq_true hl) fun _=>QC (hσ▸h)
theorem cw(hm:P.follows .mixedOrders=T){f:FuncId}{c:Xi}{ts:O RV}{nt:Y}{ds:O DV}{rs:O R1}(he:BM P f=E (c.strip,ts,nt))(hl:Nat.ble ds.length nt=T)
  (h:go P [.code c] (A7 ts rs) .normal (E (St.init ds))):FC P f ds rs:=cy hm he hl rfl h
theorem Rj{sz:Y}{es:O (O D)}(hf:σ.fresh d=T):σ.make (.row d sz es)=E {(σ.set d (.v (.sc (.own (d*64))))) with rows:=put σ.rows (d*64) (sz,es)}:=by simp[St.make,hf]
theorem OL{cs:O AC}(hf:σ.fresh d=T)(hu:cs.all (fun c=> !c.uses d)=T):σ.make (.box d cs)=E {(σ.set d (.v (.sc (.pb d 0)))) with bx:=put σ.bx d cs}:=by simp only[St.make,hf,hu,I,if_true]
theorem QB{m:Mk}(ho:o.isMade=T)(hm:σ.made o=E m){σ':St}(hs:σ.make m=E σ')(H:go P (.ops its::k) Q .normal (E σ')):go P (.ops ((G,o)::its)::k) Q .normal (E σ):=by
 have hc:o.isCall=F:=by cases o<;>first | rfl | (simp[AOp.isMade] at ho; done)
 rw[B3 hc,xq ho,hm];show go P (.ops its::k) Q .normal (σ.make m)
 rw[hs];exact H
theorem pP{X:Opd}{y:V1}(hX:σ.val X= .v y)(hf:σ.fresh d=T)(hu:y.cells.all (fun c=> !c.uses d)=T)(H:go P (.ops its::k) Q .normal (E {(σ.set d (.v (.sc (.pb d 0)))) with bx:=put σ.bx d y.cells })) :
  go P (.ops ((G,.box d X)::its)::k) Q .normal (E σ):=QB rfl (by simp only[St.made,hX]) (OL hf hu) H
theorem pA{cs:O AC}(hf:σ.fresh d=T)(hu:cs.all (fun c=> !c.uses d)=T)(H:go P (.ops its::k) Q .normal (E {(σ.set d (.v (.sc (.pb d 0)))) with bx:=put σ.bx d cs })) :
  go P (.ops ((G,.alloc d cs)::its)::k) Q .normal (E σ):=QB rfl rfl (OL hf hu) H
theorem Aq{sz:Y}{zs:O D}{len:Y}{ps:O (Y × Opd)}{es:O (O D)}(hm:σ.made (.bslice d sz zs len ps)=E (.row d sz es))(hf:σ.fresh d=T)
  (H:go P (.ops its::k) Q .normal (E {(σ.set d (.v (.sc (.own (d*64))))) with rows:=put σ.rows (d*64) (sz,es) })):go P (.ops ((G,.bslice d sz zs len ps)::its)::k) Q .normal (E σ):=QB rfl hm (Rj hf) H
theorem Z0{L C:Opd}{l c:V}{bytes n sz:Y}{zs:O D}{es:O (O D)}(hl:BX (σ.val L)=E l)(hc:BX (σ.val C)=E c)(hb:BI l c bytes=E n)(hz:zs.length=sz)(he:zA n zs=es) :
  σ.made (.mksl d sz bytes zs L C)=E (.row d sz es):=by
 unfold BI at hb
 split at hb
 ·rename_i h
  cases hb;subst he;simp only[St.made,hl,hc];rw[if_pos ⟨h.1,h.2.1,h.2.2.1,h.2.2.2,hz⟩]
 ·cases hb
theorem SO{L C:Opd}{l c:V}{bytes n sz:Y}{zs:O D}{es:O (O D)}(hl:BX (σ.val L)=E l)(hc:BX (σ.val C)=E c)(hb:BI l c bytes=E n)(hz:zs.length=sz)(he:zA n zs=es)(hf:σ.fresh d=T)
  (H:go P (.ops its::k) Q .normal (E {(σ.set d (.v (.sc (.own (d*64))))) with rows:=put σ.rows (d*64) (sz,es) })):go P (.ops ((G,.mksl d sz bytes zs L C)::its)::k) Q .normal (E σ):=
 QB rfl (Z0 hl hc hb hz he) (Rj hf) H
theorem O5{n:Y}{N:O Y}{m:Mk}(hm:(σ.less (n::N)).made o=E m)(hv:Z9 (n::N) m=T){σ':St}(hs:σ.make m=E σ')(H:go P (.dops ds::k) Q .normal (E σ')) :
  go P (.dops ((E (n::N),G,o)::ds)::k) Q .normal (E σ):=pZ hm hv hs H
theorem CE{α:Type}{env bx rows}{id sz i off n:Y}{xs:O α}{row:α→O D}{x y:α}{yv:V1}{dd:O D}(hd:yv.toDs=E dd)(hf:A1 rows id=E (sz,A row xs))
  (hx:xs[i]?=E x) (hn:dd.length=n) (ho:Nat.ble (off+n) (row x).length=T) (hy:FV (row x) off dd=row y) (H:go P k Q .normal (E ⟨env,bx,put rows id (sz,A row (xs.set i y))⟩)) :
  go P k Q .normal (St.storeV ⟨env,bx,rows⟩ n (.v (.sc (.pe id i off))) (.v yv)):=by
 have e:St.storeV ⟨env,bx,rows⟩ n (.v (.sc (.pe id i off))) (.v yv)=E ⟨env,bx,put rows id (sz,A row (xs.set i y))⟩:=by
  simp only[St.storeV,hf,List.getElem?_map,hx,Option.map_some,hd];rw[if_pos ⟨hn,Nat.le_of_ble_eq_true ho⟩,hy,List.map_set]
 rw[e];exact H
end
def Dq{α:Type}:Y→O α→U (O α)
 | 0,l=>E l
 | _+1,[]=>G
 | n+1,_::l=>Dq n l
def FX{α:Type}:Y→O α→U (O α)
 | 0,_=>E []
 | _+1,[]=>G
 | n+1,c::l=>(FX n l).map (c:: ·)
def Dz{α:Type}:O α→Y→W
 | [],0=>T
 | _::l,n+1=>Dz l n
 | _,_=>F
def BZ{α:Type}:O α→Y→W
 | _,0=>T
 | _::l,n+1=>BZ l n
 | [],_+1=>F
theorem LO{α:Type}:∀(n:Y) (l:O α),Dq n l=if n≤l.length then E (l.drop n) else G
 | 0,l=>by simp[Dq]
 | n+1,[]=>by simp[Dq]
 | n+1,c::l=>by simp[Dq,LO n l]
theorem bB{α:Type}:∀(n:Y) (l:O α),FX n l=if n≤l.length then E (l.take n) else G
 | 0,l=>by simp[FX]
 | n+1,[]=>by simp[FX]
 | n+1,c::l=>by simp only[FX,bB n l]; split<;>simp_all
theorem Tm{α:Type}:∀(l:O α) (n:Y),Dz l n=decide (l.length=n)
 | [],0=>by simp[Dz]
 | [],n+1=>by simp[Dz]
 | _::l,0=>by simp[Dz]
 | _::l,n+1=>by simp[Dz,Tm l n]
theorem OH{α:Type}:∀(l:O α) (n:Y),BZ l n=decide (n≤l.length)
 | [],0=>by simp[BZ]
 | [],n+1=>by simp[BZ]
 | _::l,0=>by simp[BZ]
 | _::l,n+1=>by simp[BZ,OH l n]
theorem mB{α:Type}{l:O α}:Dq 0 l=E l:=by cases l<;>rfl
theorem mC{α:Type}{n:Y}{c:α}{l:O α}:Dq (n+1) (c::l)=Dq n l:=rfl
theorem yy{α:Type}{l:O α}:FX 0 l=E []:=by cases l<;>rfl
theorem yz{α:Type}{n:Y}{c:α}{l:O α}:FX (n+1) (c::l)=(FX n l).map (c:: ·):=rfl
theorem tp{α:Type}:Dz ([]:O α) 0=T:=rfl
theorem tq{α:Type}{n:Y}{c:α}{l:O α}:Dz (c::l) (n+1)=Dz l n:=rfl
theorem tm{α:Type}{l:O α}:BZ l 0=T:=by cases l<;>rfl
theorem tn{α:Type}{n:Y}{c:α}{l:O α}:BZ (c::l) (n+1)=BZ l n:=rfl
theorem jW{cs:O AC}{off n:Y}:CP cs off T n=(Dq off cs).bind fun l=>(FX n l).map fun l=> .v (.ag l):=by
 simp only[CP,cond_true,LO,bB];by_cases h:off≤cs.length
 ·rw[if_pos h];by_cases h2:off+n≤cs.length
  ·rw[if_pos h2,Option.bind_some,if_pos (by simp; omega)]; rfl
  ·rw[if_neg h2,Option.bind_some,if_neg (by simp; omega)]; rfl
 ·rw[if_neg h,if_neg (by omega)]; rfl
theorem xC{cs:O AC}:BK cs 0 []=cs:=by simp[BK]
theorem xE{c:AC}{cs ds:O AC}{n:Y}:BK (c::cs) (n+1) ds=c::BK cs n ds:=by
 simp only[BK,List.take_succ_cons,List.cons_append];rw[show n+1+ds.length=(n+ds.length)+1 by omega,List.drop_succ_cons]
theorem xF{c d:AC}{cs ds:O AC}:BK (c::cs) 0 (d::ds)=d::BK cs 0 ds:=by simp[BK]
theorem JH{α β:Type}{a:α}{f:α→U β}:(E a).bind f=f a:=rfl
theorem iv{α β:Type}{f:α→U β}:(G:U α).bind f=G:=rfl
theorem get_map{α β:Type}{f:α→β}{l:O α}{i:Y}:(A f l)[i]?=(l[i]?).map f:=List.getElem?_map
theorem oy{α:Type}{a:α}{l:O α}:(a::l)[0]?=E a:=rfl
theorem ox{α:Type}{a:α}{l:O α}{n:Y}:(a::l)[n+1]?=l[n]?:=by simp
theorem lr:A AC.dat []= []:=rfl
theorem lq{d:D}{l:O D}:A AC.dat (d::l)= .dat d::A AC.dat l:=rfl
section
variable {P : Program} {k : O Fr} {Q : Xn → St → Prop} {σ : St} {its : O AItem} {env : O (Y × AV)} {bx : O (Y × O AC)} {rows : Rows}
theorem rg{α:Type}{rs:Rows}{sz:Y}{xs:O α}{row:α→O D} [Row row sz]{kd:IntKind}{i:V}:CW rs sz (.v (.sc (.dat (.sl (A row xs))))) (.v (.sc (.dat (.int kd i))))=(ix xs i).map fun x=> .v (.sc (.dat (.pd (row x)))):=by
 simp only[CW,Og];cases ix xs i with
 | none=>rfl
 | some x=>simp[Row.len (row:=row) (sz:=sz),Row.pos row]
theorem rf{rs:Rows}{sz id:Y}{kd:IntKind}{i:V}:CW rs sz (.v (.sc (.own id))) (.v (.sc (.dat (.int kd i))))=(A1 rs id).bind fun p=>(ix p.2 i).bind fun _=>bif p.1==sz then E (.v (.sc (.pe id i.toNat 0))) else G:=by
 simp only[CW];cases A1 rs id with
 | none=>rfl
 | some p=>
  obtain⟨a,es⟩:=p;simp only[JH];cases ix es i with
  | none=>rfl
  | some x=>
   by_cases h:a=sz
   ·simp[h]
   ·have h':(a==sz)=F:=by simpa using h
    simp[h,h']
theorem uL{g:W}{n id off:Y}:CG ⟨env,bx,rows⟩ g n (.v (.sc (.pb id off)))=(A1 bx id).bind fun cs=>CP cs off g n:=by
 show(match A1 bx id with | some cs=>_ | none=>G)=_
 cases A1 bx id<;>rfl
theorem uN{g:W}{n id i off:Y}:CG ⟨env,bx,rows⟩ g n (.v (.sc (.pe id i off)))=(A1 rows id).bind fun p=>(p.2[i]?).bind fun d=>CP (A AC.dat d) off g n:=by
 simp only[CG];cases A1 rows id with
 | none=>rfl
 | some p=>
  simp only[JH];cases p.2[i]?<;>rfl
theorem uM{g:W}{n:Y}{cs:O D}:CG σ g n (.v (.sc (.dat (.pd cs))))=CP (A AC.dat cs) 0 g n:=rfl
theorem nv{rs:Rows}{off id i o:Y}:Cm rs off (.v (.sc (.pe id i o)))=(A1 rs id).map fun _=> .v (.sc (.pe id i (o+off))):=by
 simp only[Cm];cases A1 rs id<;>rfl
theorem nu{rs:Rows}{off:Y}{cs:O D}:Cm rs off (.v (.sc (.dat (.pd cs))))=(Dq off cs).map fun cs=> .v (.sc (.dat (.pd cs))):=by
 simp only[Cm,LO];split<;>rfl
theorem nl{l:O V1}{i:Y}:JS i (.tup l)=(l[i]?).map .v:=rfl
theorem ux{id off:Y}:FN (.v (.sc (.pb id off)))=E (.v (.sc (.pb id off))):=rfl
theorem uy{cs:O D}:FN (.v (.sc (.dat (.pd cs))))=E (.v (.sc (.dat (.pd cs)))):=rfl
theorem A0q:A (St.val σ) []= []:=rfl
theorem A0p{x:Opd}{l:O Opd}:A (St.val σ) (x::l)=σ.val x::A (St.val σ) l:=rfl
theorem ui{f:FuncId}:FM f []=E []:=rfl
theorem ub{f:FuncId}:FJ f []=E (.clo f []):=rfl
theorem uc{f:FuncId}{id:Y}{r:O AV}:FJ f (.v (.sc (.pb id 0))::r)=(FM f (.v (.sc (.pb id 0))::r)).map (.clo f):=rfl
theorem ua{f:FuncId}{d:D}{r:O AV}:FJ f (.v (.sc (.dat d))::r)=(FL (.v (.sc (.dat d))::r)).map fun q=> .dat (.clo f q):=rfl
theorem ug:FL []=E []:=rfl
theorem ue{ds:O D}{r:O AV}:FL (.v (.sc (.dat (.pd ds)))::r)=(FL r).map (.pd ds:: ·):=rfl
theorem uh{f:FuncId}{id:Y}{r:O AV}:FM f (.v (.sc (.pb id 0))::r)=(FM f r).map (id:: ·):=rfl
def PC(K:O AC→U (O AC))(off n:Y)(cs:O AC):AV→U (O AC)
 | .v x=>bif Dz x.cells n&&BZ cs (off+n) then K (BK cs off x.cells) else G
 | _=>G
def G5(σ:St):O (Y × Y × Opd)→O AC→U (O AC)
 | [],cs=>E cs
 | (off,n,x)::r,cs=>PC (G5 σ r) off n cs (σ.val x)
theorem Sj:∀(ps:O (Y × Y × Opd)) (cs:O AC),Da cs (ps.map fun p=>(p.1,p.2.1,σ.val p.2.2))=G5 σ ps cs
 | [],cs=>rfl
 | (off,n,x)::r,cs=>by
  simp only[List.map_cons,G5];generalize σ.val x=v
  cases v with
  | v y=>
   simp only[Da,PC,Tm,OH];by_cases h1:y.cells.length=n
   ·by_cases h2:off+n≤cs.length
    ·subst h1;simp only[h2,and_self,if_true,decide_true,I,cond_true];exact Sj r _
    ·simp[h1,h2]
   ·simp[h1]
  | _=>rfl
theorem iz{cs:O AC}:G5 σ [] cs=E cs:=rfl
theorem iy{off n:Y}{x:Opd}{r:O (Y × Y × Opd)}{cs:O AC}:G5 σ ((off,n,x)::r) cs=PC (G5 σ r) off n cs (σ.val x):=rfl
theorem iw{K:O AC→U (O AC)}{off n:Y}{cs:O AC}{x:V1}:PC K off n cs (.v x)=bif Dz x.cells n&&BZ cs (off+n) then K (BK cs off x.cells) else G:=rfl
theorem pG{d zs ps}:go P (.ops ((G,.build d zs ps)::its)::k) Q .normal (E σ)=go P (.ops its::k) Q .normal (Ax σ d ((G5 σ ps zs).map fun cs=> .v (.ag cs))):=by rw[pO,Sj]
theorem xj{d zs ps}:σ.step (.build d zs ps)=Ax σ d ((G5 σ ps zs).map fun cs=> .v (.ag cs)):=by rw[aR,Sj]
theorem xw{n id off:Y}{y:V1}:St.storeV ⟨env,bx,rows⟩ n (.v (.sc (.pb id off))) (.v y)=(A1 bx id).bind fun cs=>bif Dz y.cells n&&BZ cs (off+n) then E ⟨env,put bx id (BK cs off y.cells),rows⟩ else G:=by
 simp only[St.storeV,Tm,OH];cases A1 bx id with
 | none=>rfl
 | some cs=>
  simp only[JH];by_cases h1:y.cells.length=n
  ·by_cases h2:off+n≤cs.length
   ·simp[h1,h2]
   ·simp[h1,h2]
  ·simp[h1]
def Rw(sz:Y)(es:O (O D)):W:=es.all fun r=>r.length==sz
theorem wj{α:Type}{sz:Y}{row:α→O D} [Row row sz]{xs:O α}:Rw sz (A row xs)=T:=Vm (Row.len (row:=row)) xs
theorem gz{d sz bytes id:Y}{y:AV}:St.appV ⟨env,bx,rows⟩ d sz bytes (.v (.sc (.own id))) y=bif id / 99999999999==0 then((A1 rows id).bind fun p=>(appSrc rows y).bind fun es'=>
  bif (p.1==sz)&&(Rw sz es'&&A3 p.2.length es'.length bytes) then E ⟨put (env.map fun p=>(p.1,p.2.map (AC.kill id))) d (.v (.sc (.own id))),bx.map fun p=>(p.1,p.2.map (AC.kill id)),put rows id (sz,p.2++es')⟩ else G) else G:=by
 simp only[St.appV];by_cases h0:id / 99999999999=0
 rotate_left
 ·rw[if_neg h0,show(id / 99999999999==0)=F by simpa using h0];rfl
 rw[if_pos h0,show(id / 99999999999==0)=T by simpa using h0,cond_true];cases A1 rows id with
 | none=>rfl
 | some p=>
  obtain⟨a,es⟩:=p;simp only[JH];cases appSrc rows y with
  | none=>rfl
  | some es'=>
   simp only[JH];by_cases h1:a=sz
   ·by_cases h2:Rw sz es'=T
    ·by_cases h3:A3 es.length es'.length bytes=T
     ·have h3':=of_decide_eq_true h3;rw[if_pos ⟨h1,h2,h3'.1,h3'.2⟩];simp only[h1,beq_self_eq_true,h2,h3,I,cond_true];rfl
     ·have h3':A3 es.length es'.length bytes=F:=by simpa using h3
      rw[if_neg (fun h=>h3 (decide_eq_true ⟨h.2.2.1,h.2.2.2⟩))];simp[h3']
    ·have h2':Rw sz es'=F:=by simpa using h2
     rw[if_neg (fun h=>h2 h.2.1)];simp[h2']
   ·have h1':(a==sz)=F:=by simpa using h1
    rw[if_neg (fun h=>h1 h.1)];simp[h1']
theorem xc{rs:Rows}{es:O (O D)}:appSrc rs (.v (.sc (.dat (.sl es))))=E es:=rfl
theorem xd{rs:Rows}:appSrc rs (.v (.sc .nil))=E []:=rfl
theorem xe{rs:Rows}{id:Y}:appSrc rs (.v (.sc (.own id)))=(A1 rs id).map fun p=>p.2:=by
 simp only[appSrc,toD0];cases A1 rs id<;>rfl
theorem uT{α:Type}{f:α→O D}{a b:O α}:A f a++A f b=A f (a++b):=List.map_append.symm
def EO(σ:St)(n:Y):U Opd→U V
 | none=>E n
 | some x=>BX (σ.val x)
def Hk(n:Y):U V→U V→U V→U (Y × Y)
 | some m,E h,E l=>bnd m h l n
 | _,_,_=>G
theorem Sk{lo hi mx:U Opd}{n:Y}:DM σ lo hi mx n=Hk n (EO σ n mx) (EO σ n hi) (match lo with | none=>E 0 | some x=>BX (σ.val x)):=by
 cases mx<;>cases hi<;>cases lo<;>(simp only[DM,Hk,EO]; first | rfl | (split<;>simp_all[Hk,bnd]))
def OT(σ:St):U Opd→U V
 | none=>E 0
 | some x=>BX (σ.val x)
theorem xM{α:Type}{sz:Y}{lo hi mx:U Opd}{xs:O α}{row:α→O D} [Row row sz]:Ee σ sz (.v (.sc (.dat (.sl (A row xs))))) lo hi mx=(Hk xs.length (EO σ xs.length mx) (EO σ xs.length hi) (OT σ lo)).map fun p=> .v (.sc (.dat (.sl (A row ((xs.drop p.1).take (p.2 - p.1)))))):=by
 have h:(A row xs).all (fun d=>d.length==sz)=T:=Vm (Row.len (row:=row)) xs;simp only[Ee,h,Row.pos row (sz:=sz),decide_true,I,if_true,List.length_map,Sk];cases lo<;>simp[OT,List.map_drop,List.map_take]
theorem xi{lo hi:U Opd}{s:O UInt8}:H5 σ (.v (.sc (.dat (.str s)))) lo hi=(Hk s.length (EO σ s.length G) (EO σ s.length hi) (OT σ lo)).map fun p=> .v (.sc (.dat (.str ((s.drop p.1).take (p.2 - p.1))))):=by
 simp only[H5,Sk];cases lo<;>rfl
theorem vR{n:Y}:EO σ n G=E (n:V):=rfl
theorem vS{n:Y}{x:Opd}:EO σ n (E x)=BX (σ.val x):=rfl
theorem vP:OT σ G=E 0:=rfl
theorem vQ{x:Opd}:OT σ (E x)=BX (σ.val x):=rfl
theorem hO{kd:IntKind}{i:V}:BX (.v (.sc (.dat (.int kd i))))=E i:=rfl
theorem jC{n:Y}{m h l:V}:Hk n (E m) (E h) (E l)=bnd m h l n:=rfl
theorem yc{x y:O UInt8}:H6 .add x y=bif Cy x.length y.length then E (.str (x++y)) else G:=by
 simp only[H6,Cy];by_cases h:x.length+y.length≤4611686018427387904
 ·simp[h]
 ·simp[h]
theorem sd{k:IntKind}{x y:V}:AQ .and k x y=E (.int k (B8 .and k x y)):=rfl
theorem sv{k:IntKind}{x y:V}:AQ .or k x y=E (.int k (B8 .or k x y)):=rfl
theorem tF{k:IntKind}{x y:V}:AQ .xor k x y=E (.int k (B8 .xor k x y)):=rfl
theorem iX:(T==T)=T:=rfl
theorem iW:(T==F)=F:=rfl
theorem iU:(F==T)=F:=rfl
theorem iT:(F==F)=T:=rfl
theorem gi{b:W}:(F&&b)=F:=rfl
end
def Zy{α:Type}(k:Y):U α→O (Y × α)→O (Y × α)
 | some v,r=>(k,v)::r
 | none,r=>r
theorem vl{α:Type}{l:O (Y × α)}:Ch l []= []:=rfl
theorem vk{α:Type}{l:O (Y × α)}{k:Y}{ks:O Y}:Ch l (k::ks)=Zy k (A1 l k) (Ch l ks):=by
 show(match A1 l k with | some v=>_ | none=>_)=_
 cases A1 l k<;>rfl
theorem vj{α:Type}{k:Y}{v:α}{r:O (Y × α)}:Zy k (E v) r=(k,v)::r:=rfl
theorem tM{env bx rows ks bs rs}:(St.mk env bx rows).kept ks bs rs=⟨Ch env ks,Ch bx bs,Ch rows rs⟩:=rfl
theorem qD{P:Program}{k:O Fr}{Q:Xn→St→Prop}{σ:St}{its:O AItem}{ks bs rs:O Y}:go P (.ops ((G,.keep ks bs rs)::its)::k) Q .normal (E σ)=go P (.ops its::k) Q .normal (E (σ.kept ks bs rs)):=B3 rfl
theorem vn{b:W}{x y:AV}:Lj (.v (.sc (.dat (.bool b)))) x y=E (bif b then x else y):=rfl
theorem iS{g x y:W}:JG g (.v (.sc (.dat (.bool x)))) (.v (.sc (.dat (.bool y))))=E (.v (.sc (.dat (.bool (bif g then !(x==y) else x==y))))):=rfl
theorem uq{m:W}{k:IntKind}{x y:V}:Jb m (.v (.sc (.dat (.int k x)))) (.v (.sc (.dat (.int k y))))=E (.v (.sc (.dat (.int k (bif m then(if x<y then y else x) else(if y<x then y else x)))))):=by simp[Jb]
theorem A0f{k:IntKind}{x:V}:Jx .neg (.v (.sc (.dat (.int k x))))=E (.v (.sc (.dat (.int k (k.wrap (0 - x)))))):=rfl
theorem nr{rs:Rows}{off id o:Y}:Cm rs off (.v (.sc (.pb id o)))=E (.v (.sc (.pb id (o+off)))):=rfl
theorem tw{rs:Rows}{id:Y}:E7 rs (.v (.sc (.own id)))=(A1 rs id).map fun p=> .v (.sc (.dat (.int .i64 p.2.length))):=by
 show(match A1 rs id with | some (_,es)=>_ | none=>_)=_
 cases A1 rs id<;>rfl
theorem sM{k:Y}:FG k []= []:=rfl
theorem sL{k:Y}{d:DV}{ds:O DV}:FG k (d::ds)=(k,d.av)::FG (k+1) ds:=rfl
theorem sO{ds:O DV}:St.init ds=⟨FG 0 ds,[],[]⟩:=rfl
theorem mu{d:D}:DV.av (.sc d)= .v (.sc (.dat d)):=rfl
theorem mr{ds:O D}:DV.av (.ag ds)= .v (.ag (ds.map .dat)):=rfl
theorem uJ{f:AC→AC}:A (V1.map f) []= []:=rfl
theorem uI{f:AC→AC}{x:V1}{l:O V1}:A (V1.map f) (x::l)=x.map f::A (V1.map f) l:=rfl
theorem tb{f:AC→AC}:A (fun p:Y × AV=>(p.1,p.2.map f)) []= []:=rfl
theorem ta{f:AC→AC}{k:Y}{v:AV}{l:O (Y × AV)}:A (fun p:Y × AV=>(p.1,p.2.map f)) ((k,v)::l)=(k,v.map f)::A (fun p:Y × AV=>(p.1,p.2.map f)) l:=rfl
theorem jB{f:AC→AC}:A (fun p:Y × O AC=>(p.1,p.2.map f)) []= []:=rfl
theorem jA{f:AC→AC}{k:Y}{v:O AC}{l:O (Y × O AC)}:A (fun p:Y × O AC=>(p.1,p.2.map f)) ((k,v)::l)=(k,v.map f)::A (fun p:Y × O AC=>(p.1,p.2.map f)) l:=rfl
theorem jg{f:AC→AC}:A f ([]:O AC)= []:=rfl
theorem jf{f:AC→AC}{c:AC}{l:O AC}:A f (c::l)=f c::A f l:=rfl
theorem uH{α β:Type}{f:α→β}{l:O α}:(A f l).length=l.length:=List.length_map ..
theorem jV{c:AC}:V1.cells (.sc c)= [c]:=rfl
theorem jR{cs:O AC}:V1.cells (.ag cs)=cs:=rfl
theorem uU{f:AC→AC}{env bx rows}:(St.mk env bx rows).map f=⟨env.map fun p=>(p.1,p.2.map f),bx.map fun p=>(p.1,p.2.map f),rows⟩:=rfl
theorem iJ{f:AC→AC}{c:AC}:AV.map f (.v (.sc c))= .v (.sc (f c)):=rfl
theorem iI{f:AC→AC}{cs:O AC}:AV.map f (.v (.ag cs))= .v (.ag (cs.map f)):=rfl
theorem iL{f:AC→AC}:AV.map f .undef= .undef:=rfl
theorem iH{f:AC→AC}:AV.map f .no= .no:=rfl
theorem iK{f:AC→AC}{l:O V1}:AV.map f (.tup l)= .tup (l.map (V1.map f)):=rfl
theorem A0l{f:AC→AC}{c:AC}:V1.map f (.sc c)= .sc (f c):=rfl
theorem A0k{f:AC→AC}{cs:O AC}:V1.map f (.ag cs)= .ag (cs.map f):=rfl
theorem tR{id:Y}{d:D}:AC.kill id (.dat d)= .dat d:=rfl
theorem tU{id:Y}:AC.kill id .nil= .nil:=rfl
theorem tY{id:Y}:AC.kill id .undef= .undef:=rfl
theorem tV{id i:Y}:AC.kill id (.own i)=bif i==id then .undef else .own i:=rfl
theorem tX{id i a b:Y}:AC.kill id (.osub i a b)=bif i==id then .undef else .osub i a b:=rfl
theorem tS{id i a b:Y}:AC.kill id (.pe i a b)=bif i==id then .undef else .pe i a b:=rfl
theorem tP{id i a:Y}:AC.kill id (.pb i a)= .pb i a:=rfl
theorem tQ{id f:Y}{is:O Y}:AC.kill id (.clo f is)= .clo f is:=rfl
theorem oW{id:Y}{es:O (O D)}{d:D}:AC.frz id es (.dat d)= .dat d:=rfl
theorem oZ{id:Y}{es:O (O D)}:AC.frz id es .nil= .nil:=rfl
theorem oh{id:Y}{es:O (O D)}:AC.frz id es .undef= .undef:=rfl
theorem oc{id i:Y}{es:O (O D)}:AC.frz id es (.own i)=bif i==id then .dat (.sl es) else .own i:=rfl
theorem oe{id i a b:Y}{es:O (O D)}:AC.frz id es (.osub i a b)=bif i==id then .undef else .osub i a b:=rfl
theorem oX{id i a b:Y}{es:O (O D)}:AC.frz id es (.pe i a b)=bif i==id then .undef else .pe i a b:=rfl
theorem oT{id i a:Y}{es:O (O D)}:AC.frz id es (.pb i a)= .pb i a:=rfl
theorem oU{id f:Y}{es:O (O D)}{is:O Y}:AC.frz id es (.clo f is)= .clo f is:=rfl
theorem pr{P:Program}{k:O Fr}{Q:Xn→St→Prop}{σ:St}{its:O AItem}{id sz:Y}{es:O (O D)}(hf:A1 σ.rows id=E (sz,es))(H:go P (.ops its::k) Q .normal (E {(σ.map (AC.frz id es)) with rows:=erase σ.rows [id] }))(h0:(id / 99999999999==0)=T:=by rfl) :
  go P (.ops ((G,.frz id)::its)::k) Q .normal (E σ):=by
 rw[pq];simp only[St.step,hf,h0,zD,zC,if_false];exact H
theorem FE{P:Program}{k:O Fr}{Q:Xn→St→Prop}{σ:St}{its:O AItem}{b j id sz:Y}{cs cs':O AC}(h1:σ.has id=F)(h2:A1 σ.bx b=E cs)(h3:cs[j]?=E .nil)(h4:cs.set j (.own id)=cs')
  (H:go P (.ops its::k) Q .normal (E {σ with bx:=put σ.bx b cs',rows:=put σ.rows id (sz,[]) })) (h0:(id / 99999999999==0)=T:=by rfl):go P (.ops ((G,.ownb b j id sz)::its)::k) Q .normal (E σ):=by
 rw[qP];subst h4;simp only[St.step,h1,h2,h3,h0,zD,Bool.or_self,zC,if_false];exact H
theorem nc{α:Type}{ks:O Y}:erase ([]:O (Y × α)) ks= []:=rfl
theorem nd{α:Type}{k n:Y}{v:α}{r:O (Y × α)}:erase ((k,v)::r) [n]=bif k==n then erase r [n] else(k,v)::erase r [n]:=by
 by_cases h:k=n
 ·simp[erase,h]
 ·have h':(k==n)=F:=by simpa using h
  simp[erase,h,h']
theorem wX{ts:O RV}{rs:O R1}{σ:St}:A7 ts rs .ret σ=(OutVs σ ts rs∧EM (Dk σ ts rs)=T):=rfl
theorem wW{ts:O RV}{rs:O R1}{σ:St}:A7 ts rs .normal σ=(OutVs σ ts rs∧EM (Dk σ ts rs)=T):=rfl
theorem vX{σ:St}{t:RV}{ts:O RV}{r:R1}{rs:O R1}:OutVs σ (t::ts) (r::rs)=(Pr σ.rows (Lg σ t) r∧OutVs σ ts rs):=rfl
theorem vW{σ:St}{t:RV}{ts:O RV}{r:R1}{rs:O R1}:Dk σ (t::ts) (r::rs)=TC (Lg σ t) r++Dk σ ts rs:=rfl
theorem vV{σ:St}{a n:Y}{g:W}:Lg σ (.c a g n)=(CG σ g n (σ.get a)).getD .undef:=rfl
def P5:=Z @wX (Z @wW (Z @vX (Z @vW @vV)))
set_option maxRecDepth 4000 in
def wm:=Z @qM (Z @qK (Z @qb (Z @qW (Z @pf (Z @pk (Z @qa (Z @pN (Z @pg (Z @qY (Z @pS (Z @qV (Z @qU (Z @qR (Z @qT (Z @pH (Z @pM (Z @qO (Z @pc (Z @ZF (Z @qA (Z @pz (Z @px (Z @pw (Z @pv (Z @oI (Z @oH (Z @wE (Z @wD (Z @A0n (Z @A0m (Z @ow (Z @xG (Z @getD_some (Z @getD_none (Z @map_some (Z @map_none (Z @xO (Z @tx (Z @wx (Z @ww (Z @tu (Z @jk (Z @il (Z @iu (Z @sb (Z @tE (Z @ss (Z @sw (Z @sx (Z @sg (Z @su (Z @sr (Z @sq (Z @sj (Z @si (Z @yd (Z @ye (Z @A0g (Z @rk (Z @tI (Z @oD (Z @jS (Z @ji (Z @jh (Z @qJ (Z @qN (Z @qF (Z @qL (Z @pF (Z @pE (Z @qh (Z @pT (Z @qc (Z @qe (Z @pi (Z @pj (Z @qB (Z @qC (Z @ph (Z @qE (Z @qZ (Z @qd (Z @qI (Z @qG (Z @qf (Z @pC (Z @pJ (Z @sX (Z @sP (Z @sQ (Z @sU (Z @sT (Z @A2q (Z @A2p (Z @sa (Z @sY (Z @sZ (Z @sW (Z @sS (Z @sR (Z @wZ (Z @wa (Z @wc (Z @jU (Z @jQ (Z @wg (Z @wi (Z @wh (Z @wA (Z @vz (Z @gy (Z @gx (Z @jD (Z @iV (Z @ku (Z @kw (Z @kb (Z @ko (Z @kv (Z @jy (Z @jx (Z @lC (Z @ke (Z @ky (Z @lA (Z @kg (Z @kh (Z @kj (Z @jv (Z @kk (Z @kf (Z @kn (Z @kx (Z @kz (Z @kt (Z @kp (Z @jz (Z @jw (Z @ka (Z @kr (Z @lT (Z @lV (Z @lG (Z @lP (Z @lU (Z @lF (Z @lE (Z @lf (Z @lH (Z @lX (Z @lZ (Z @lJ (Z @lK (Z @lM (Z @lD (Z @lN (Z @lI (Z @lO (Z @lW (Z @lY (Z @lS (Z @lQ (Z @lh (Z @lg (Z @lp (Z @lm (Z @lk (Z @uD (Z @uZ (Z @uY (Z @tL (Z @tK (Z @tJ (Z @za (Z @A0i (Z @hZ (Z @iA (Z @iC (Z @iD (Z @iE (Z @hU (Z @hP (Z @vC (Z @vD (Z @gm (Z @pp (Z @pD (Z @mZ (Z @mb (Z @mJ (Z @mU (Z @ma (Z @mG (Z @mF (Z @mp (Z @mM (Z @me (Z @mg (Z @mO (Z @mP (Z @mR (Z @mD (Z @mS (Z @mN (Z @mT (Z @md (Z @mf (Z @mY (Z @mV (Z @mH (Z @mE (Z @mI (Z @mX (Z @mK (Z @mL (Z @aj (Z @al (Z @ab (Z @ak (Z @aQ (Z @aP (Z @az (Z @aT (Z @ar (Z @au (Z @aV (Z @aW (Z @aY (Z @aZ (Z @aU (Z @aa (Z @aq (Z @as_ (Z @ah (Z @ae (Z @vl (Z @vk (Z @vj (Z @tM (Z @qD (Z @vn (Z @iS (Z @uq (Z @A0f (Z @nr (Z @tw (Z @sM (Z @sL (Z @sO (Z @mu (Z @mr (Z @uH (Z @jV (Z @jR (Z @uU (Z @iJ (Z @iI (Z @iL (Z @iK (Z @A0l (Z @A0k (Z @tR (Z @tU (Z @tY (Z @tV (Z @tX (Z @tS (Z @tP (Z @tQ (Z @oW (Z @oZ (Z @oh (Z @oc (Z @oe (Z @oX (Z @oT (Z @oU (Z @nc (Z @nd (Z @mB (Z @mC (Z @yy (Z @yz (Z @tp (Z @tq (Z @tm (Z @tn (Z @jW (Z @xC (Z @xE (Z @xF (Z @JH (Z @iv (Z @get_map (Z @oy (Z @ox (Z @lr (Z @lq (Z @rg (Z @rf (Z @uL (Z @uN (Z @uM (Z @nv (Z @nu (Z @nl (Z @ux (Z @uy (Z @A0q (Z @A0p (Z (Z @ui (Z @ub (Z @uc (Z @ua (Z @ug @ue))))) (Z @uh (Z @iz (Z @iy (Z @iw (Z @pG (Z @xj (Z @xw (Z @wj (Z @gz (Z @xc (Z @xd (Z @xe (Z @uT (Z @xM (Z @xi (Z @vR (Z @vS (Z @vP (Z @vQ (Z @hO (Z @jC (Z @yc (Z @sd (Z @sv (Z @tF (Z @iX (Z @iW (Z @iU (Z @iT (Z @gi (Z @Og (Z @ZJ (Z @VN (Z @wF (Z @wH (Z @wJ (Z @wI (Z @uJ (Z @uI (Z @tb (Z @ta (Z @jB (Z @jA (Z @jg (Z @jf (Z @lj (Z @pu @iH))))))))))))))))))))))))))))))))))))))))))))))))))))))))))))))))))))))))))))))))))))))))))))))))))))))))))))))))))))))))))))))))))))))))))))))))))))))))))))))))))))))))))))))))))))))))))))))))))))))))))))))))))))))))))))))))))))))))))))))))))))))))))))))))))))))))))))))))))))))))))))))))))))))))))))))))))))))))))))))))))))))))))))))))))))))))))))))))))))))
theorem sV{env:O (Y × AV)}{bx:O (Y × O AC)}{rows:Rows}{d:Y}{ids:O Y}{R1:Av}{r:D}:St.instX ⟨env,bx,rows⟩ d ids R1 r=⟨put env d (.v (.sc (.dat r))),bx,CH rows ids R1⟩:=rfl
theorem wB{rs:Rows}{id:Y}{ids:O Y}{r:Y × O (O D)}{R:Av}:CH rs (id::ids) (r::R)=CH (put rs id r) ids R:=rfl
theorem wC{rs:Rows}:CH rs [] []=rs:=rfl
theorem VB{N:O Y}:AV.avoids N (.v (.sc .z))=T:=by simp[AV.avoids,AV.cells,V1.cells,AC.avoids,AC.uses]
theorem A80{P:Program}{k:O Fr}{Q:Xn→St→Prop}{σ:St}{N:O Y}{d:Y}{its:O AZ}:go P (.dops ((E N,G,.zsl d)::its)::k) Q .normal (E σ)=go P (.dops its::k) Q .normal (E (σ.set d (.v (.sc .z)))):=by
 rw[Bu rfl];show go P _ Q .normal (bif (((σ.less N).set d (.v (.sc .z))).get d).avoids N then E (σ.set d (((σ.less N).set d (.v (.sc .z))).get d)) else G)=_
 rw[St.get_set_same,VB];rfl
theorem iG{N:O Y}:AV.avoids N (.tup [])=T:=rfl
theorem iF{N:O Y}{x:V1}{l:O V1}:AV.avoids N (.tup (x::l))=((AV.v x).avoids N&&(AV.tup l).avoids N):=by simp[AV.avoids,AV.cells]
theorem uk{t:TypeId}{d:D}:GZ t (.v (.sc (.dat d)))=E (.v (.sc (.dat (.ifc t d)))):=rfl
theorem zb{t u:TypeId}{zc:AC}{d:D}:H7 t zc (.v (.sc (.dat (.ifc u d))))=bif u==t then E (.tup [.sc (.dat d),.sc (.dat (.bool T))]) else E (.tup [.sc zc,.sc (.dat (.bool F))]):=rfl
theorem ol{id:Y}{ds:O D}{d:D}:AC.frzb id ds (.dat d)= .dat d:=rfl
theorem oo{id:Y}{ds:O D}:AC.frzb id ds .nil= .nil:=rfl
theorem ou{id:Y}{ds:O D}:AC.frzb id ds .undef= .undef:=rfl
theorem oq{id i:Y}{ds:O D}:AC.frzb id ds (.own i)= .own i:=rfl
theorem ot{id i a b:Y}{ds:O D}:AC.frzb id ds (.osub i a b)= .osub i a b:=rfl
theorem om{id i a b:Y}{ds:O D}:AC.frzb id ds (.pe i a b)= .pe i a b:=rfl
theorem oj{id i a:Y}{ds:O D}:AC.frzb id ds (.pb i a)=bif i==id then .dat (.pd (ds.drop a)) else .pb i a:=rfl
theorem wP{a b:Y}{d:D}:AC.ren a b (.dat d)= .dat d:=rfl
theorem wR{a b:Y}:AC.ren a b .nil= .nil:=rfl
theorem wU{a b:Y}:AC.ren a b .undef= .undef:=rfl
theorem wS{a b i:Y}:AC.ren a b (.own i)= .own (bif i==a then b else i):=rfl
theorem wT{a b i x y:Y}:AC.ren a b (.osub i x y)= .osub (bif i==a then b else i) x y:=rfl
theorem wQ{a b i x y:Y}:AC.ren a b (.pe i x y)= .pe (bif i==a then b else i) x y:=rfl
theorem wN{a b i x:Y}:AC.ren a b (.pb i x)= .pb i x:=rfl
theorem Wy{P:Program}{k:O Fr}{Q:Xn→St→Prop}{σ:St}{its:O AItem}{a b:Y}{r:Y × O (O D)}(h1:σ.has b=F)(hf:A1 σ.rows a=E r)(H:go P (.ops its::k) Q .normal (E {(σ.map (AC.ren a b)) with rows:=put (erase σ.rows [a]) b r }))
  (h0:(a / 99999999999==0)=T:=by rfl) (h2:(b / 99999999999==0)=T:=by rfl):go P (.ops ((G,.ren a b)::its)::k) Q .normal (E σ):=by
 rw[qX];simp only[St.step,h1,hf,h0,h2,I,zD,Bool.or_self,zC,if_false];exact H
theorem uj{t:TypeId}{a b:D}:GZ t (.v (.ag [.dat a,.dat b]))=E (.v (.sc (.dat (.ifs t [a,b])))):=rfl
def FCq(P:Program)(f:FuncId)(ds:O DV)(rs:O R1):U D→Prop
 | none=>FC P f ds rs
 | some d=>Lt P f ds d
theorem FCq.none{P:Program}{f:FuncId}{ds:O DV}{rs:O R1}{pd:U D}(h:FCq P f ds rs pd)(hp:pd=G):FC P f ds rs:=by subst hp; exact h
theorem FCq.some{P:Program}{f:FuncId}{ds:O DV}{rs:O R1}{pd:U D}{d:D}(h:FCq P f ds rs pd)(hp:pd=E d):Lt P f ds d:=by subst hp; exact h
theorem um{t:TypeId}{id:Y}:GZ t (.v (.sc (.pb id 0)))=E (.v (.sc (.ipb t id))):=rfl
theorem tT{id i:Y}{t:TypeId}:AC.kill id (.ipb t i)= .ipb t i:=rfl
theorem oY{id i:Y}{t:TypeId}{es:O (O D)}:AC.frz id es (.ipb t i)= .ipb t i:=rfl
theorem ov{g:W}{ks:O FK}{cs ds:O AC}:KW g ks (.v (.ag cs)) (.v (.ag ds))=(Bn ks cs ds).map fun b=> .v (.sc (.dat (.bool (bif g then !b else b)))):=rfl
theorem na:Bn [] [] []=E T:=rfl
theorem nZ{k:IntKind}{x y:V}{ks:O FK}{cs ds:O AC}:Bn (.i::ks) (.dat (.int k x)::cs) (.dat (.int k y)::ds)=(Bn ks cs ds).map fun b=>(x==y)&&b:=if_pos rfl
theorem nY{x y:W}{ks:O FK}{cs ds:O AC}:Bn (.b::ks) (.dat (.bool x)::cs) (.dat (.bool y)::ds)=(Bn ks cs ds).map fun b=>(x==y)&&b:=rfl
theorem nb{x y:O UInt8}{ks:O FK}{cs ds:O AC}:Bn (.s::ks) (.dat (.str x)::cs) (.dat (.str y)::ds)=(Bn ks cs ds).map fun b=>(x==y)&&b:=rfl
def wo:=Z @VB (Z @A80 (Z @iG (Z @iF (Z @sV (Z @wB (Z @wC (Z @qH (Z @qg (Z @af (Z @aw (Z @kq (Z @lR (Z @mW (Z @lB (Z @lc (Z @mh (Z @uk (Z @zb (Z @ol (Z @oo (Z @ou (Z @oq (Z @ot (Z @om (Z @oj (Z @um (Z @tT (Z @oY (Z @wP (Z @wR (Z @wU (Z @wS (Z @wT (Z @wQ (Z @wN (Z @qQ (Z @pQ (Z @qS (Z @pK (Z @uj (Z @aX (Z @py (Z @ki (Z @lL (Z @mQ (Z @ov (Z @na (Z @nZ (Z @nY @nb)))))))))))))))))))))))))))))))))))))))))))))))))
end Go.Vi
