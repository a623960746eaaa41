/-
The value level. No condition.
-/
import Derived.Test.YthkepjhahmknfaaGreatDoorLVi28
namespace Go.Vi
set_option linter.all false
open And renaming intro → Z
open List renaming map → A, mem_singleton → B, replicate → zA
open Nat renaming le_of_ble_eq_true → I, one_pos → zB
open Bool renaming and_self → zC, true → T, false → F
open Option renaming some → E, none → G
open _root_ renaming List → O, Option → U, Int → V, Bool → W, Nat → Y
abbrev S(n:Y):Opd:= .t n
abbrev K(n:V):Opd:= .c (.v (.sc (.dat (.int .i64 n))))
abbrev K8(n:V):Opd:= .c (.v (.sc (.dat (.int .u8 n))))
abbrev KB(b:W):Opd:= .c (.v (.sc (.dat (.bool b))))
abbrev KS(s:O UInt8):Opd:= .c (.v (.sc (.dat (.str s))))
abbrev KN:Opd:= .c (.v (.sc .nil))
abbrev aI(n:V):AC:= .dat (.int .i64 n)
abbrev a8(n:V):AC:= .dat (.int .u8 n)
abbrev aB(b:W):AC:= .dat (.bool b)
abbrev aS(s:O UInt8):AC:= .dat (.str s)
abbrev aL(es:O (O D)):AC:= .dat (.sl es)
abbrev vc(c:AC):AV:= .v (.sc c)
abbrev va(cs:O AC):AV:= .v (.ag cs)
def rI(n:V):O D:= [.int .i64 n]
def r8(n:V):O D:= [.int .u8 n]
def rB(b:W):O D:= [.bool b]
def rS(s:O UInt8):O D:= [.str s]
def rL{α:Type}(row:α→O D)(xs:O α):O D:= [.sl (xs.map row)]
class Row {α:Type} (row:α→O D) (sz:Y):Prop where
 len:∀x,(row x).length=sz
 pos:0<sz
instance:Row rI 1:=⟨fun _=>rfl,zB⟩
instance:Row r8 1:=⟨fun _=>rfl,zB⟩
instance:Row rB 1:=⟨fun _=>rfl,zB⟩
instance:Row rS 1:=⟨fun _=>rfl,zB⟩
instance {α:Type} (row:α→O D):Row (rL row) 1:=⟨fun _=>rfl,zB⟩
theorem gy(n:V):rI n= [.int .i64 n]:=rfl
def GK(n:V):UInt8:=UInt8.ofNat n.toNat
theorem Z9:∀{xs:O V},D8 (A r8 xs)=E (A GK xs)
 | []=>rfl
 | n::xs=>by
  show(D8 (A r8 xs)).map _=_
  rw[Z9];rfl
theorem A4h(n:V):r8 n= [.int .u8 n]:=rfl
theorem A4j(b:W):rB b= [.bool b]:=rfl
theorem A4l(s:O UInt8):rS s= [.str s]:=rfl
theorem A4k{α:Type}(row:α→O D)(xs:O α):rL row xs= [.sl (xs.map row)]:=rfl
theorem YL{α:Type}{row:α→O D}{sz:Y}(h:∀x,(row x).length=sz)(xs:O α):(xs.map row).all (fun d=>d.length==sz)=T:=by
 simp[List.all_map,Function.comp_def,h]
@[irreducible] def bigN:Y:=1208925819614629174706176
def bnd(m h l:V)(n:Y):U (Y × Y):=if 0≤l∧l≤h∧h≤m∧m≤n then E (l.toNat,h.toNat) else G
def C9(l c:V)(bytes:Y):U Y:=if 0≤l∧l≤c∧c*bytes≤140737488355328∧c≤4611686018427387904 then E l.toNat else G
def AJ(n m bytes:Y):W:=decide ((n+m)*bytes≤140737488355328∧n+m≤4611686018427387904)
def Ce(n m:Y):W:=decide (n+m≤4611686018427387904)
theorem SS{α β:Type}{f:α→β}{l:O α}{i:V}:ix (l.map f) i=(ix l i).map f:=by
 unfold ix;split<;>simp
theorem AH{α:Type}{l:O α}{i:V}{x:α}(h:ix l i=E x):l[i.toNat]?=E x:=by
 unfold ix at h;split at h
 ·exact h
 ·cases h
theorem ob{α β:Type}{o:U α}{f:α→U β}{r:β}(h:o.bind f=E r):∃a,o=E a∧f a=E r:=Option.bind_eq_some_iff.1 h
class FlatRow {α:Type} (row:α→O D):Prop where
 flat:∀x,∀d∈row x,d.flat=T
instance:FlatRow rI:=⟨fun _ d h=>by rw[B.1 h]; rfl⟩
instance:FlatRow r8:=⟨fun _ d h=>by rw[B.1 h]; rfl⟩
instance:FlatRow rB:=⟨fun _ d h=>by rw[B.1 h]; rfl⟩
instance:FlatRow rS:=⟨fun _ d h=>by rw[B.1 h]; rfl⟩
def Ym:O RC→Prop
 | []=>True
 | c::cs=>c.flat∧Ym cs
theorem BO{rs:O R1}{cs:O RC}(h:rs.flatMap R1.cells=cs)(hf:Ym cs):Db rs:=by
 subst h;unfold Db;generalize rs.flatMap R1.cells=l at hf
 induction l with
 | nil=>intro c hc; simp at hc
 | cons a l ih=>
  intro c hc;rcases List.mem_cons.1 hc with rfl|hc
  ·exact hf.1
  ·exact ih hf.2 c hc
theorem B3{α:Type}{row:α→O D} [FlatRow row]{sz:Y}{xs:O α}:RC.flat (.o sz (A row xs)):=by
 intro r hr;obtain⟨x,_,rfl⟩:=List.mem_map.1 hr;exact FlatRow.flat x
theorem Dl{α:Type}{row:α→O D}{z:α}{zs:O D}{n:Y}(h:row z=zs):zA n zs=A row (zA n z):=by rw[List.map_replicate,h]
theorem AT{α:Type}{b:W}{x:U α}{r:α}(h:(if b=T then x else G)=E r):b=T∧x=E r:=by
 cases b
 ·rw[if_neg Bool.false_ne_true] at h; cases h
 ·exact⟨rfl,by simpa using h⟩
theorem Dj{α:Type}{b:W}{x:U α}{r:α}(h:(if b=T then G else x)=E r):b=F∧x=E r:=by
 cases b
 ·exact⟨rfl,by simpa using h⟩
 ·rw[if_pos rfl] at h; cases h
theorem ic{α:Type}{b:W}{x y:U α}{r:α}(h:(if b=T then x else y)=E r):(b=T∧x=E r)∨(b=F∧y=E r):=by
 cases b with
 | true=>exact .inl ⟨rfl,h⟩
 | false=>exact .inr ⟨rfl,h⟩
section
variable {P : Program} {k : O Fr} {Q : Xk → St → Prop} {σ : St} {its : O AItem} {ds : O Bl} {o : AOp} {d : Y}
theorem Ai{c:X0}(h:go P (.code c:: .code (.loop c)::k) Q .normal (E σ)):go P (.code (.loop c)::k) Q .normal (E σ):=by
 intro X hX;refine hX σ (Z2 c (fun e σ' h=> ?_) h);cases e with
 | normal=>exact h X hX
 | exit id=>exact h
 | ret=>exact h
 | pan d=>exact h
theorem lQ(hm:P.follows .mixedOrders=T){f:FuncId}{c:X0}{ts:O RV}{nt:Y}{ds:O DV}{rs:O R1}{σ:St}(he:Bd P f=E (c.strip,ts,nt))(hl:Nat.ble ds.length nt=T)(hσ:St.init ds=σ)
  (h:go P [.code c] (Ag ts rs) .normal (E σ)):FC P f ds rs:=lS hm he (I hl) fun _=>O5 (hσ▸h)
theorem lP(hm:P.follows .mixedOrders=T){f:FuncId}{c:X0}{ts:O RV}{nt:Y}{ds:O DV}{rs:O R1}(he:Bd P f=E (c.strip,ts,nt))(hl:Nat.ble ds.length nt=T)
  (h:go P [.code c] (Ag ts rs) .normal (E (St.init ds))):FC P f ds rs:=lQ hm he hl rfl h
theorem WL{sz:Y}{es:O (O D)}(hf:σ.fresh d=T):σ.make (.row d sz es)=E {(σ.set d (.v (.sc (.own (d*64))))) with rows:=put σ.rows (d*64) (sz,es)}:=by simp[St.make,hf]
theorem WK{cs:O AC}(hf:σ.fresh d=T)(hu:cs.all (fun c=> !c.uses d)=T):σ.make (.box d cs)=E {(σ.set d (.v (.sc (.pb d 0)))) with bx:=put σ.bx d cs}:=by simp only[St.make,hf,hu,zC,if_true]
theorem SG{m:Mk}(ho:o.isMade=T)(hm:σ.made o=E m){σ':St}(hs:σ.make m=E σ')(H:go P (.ops its::k) Q .normal (E σ')):go P (.ops ((G,o)::its)::k) Q .normal (E σ):=by
 have hc:o.isCall=F:=by cases o<;>first | rfl | (simp[AOp.isMade] at ho; done)
 rw[Bm hc,A6o ho,hm];show go P (.ops its::k) Q .normal (σ.make m)
 rw[hs];exact H
theorem wB{X:Opd}{y:V1}(hX:σ.val X= .v y)(hf:σ.fresh d=T)(hu:y.cells.all (fun c=> !c.uses d)=T)(H:go P (.ops its::k) Q .normal (E {(σ.set d (.v (.sc (.pb d 0)))) with bx:=put σ.bx d y.cells })) :
  go P (.ops ((G,.box d X)::its)::k) Q .normal (E σ):=SG rfl (by simp only[St.made,hX]) (WK hf hu) H
theorem vk{cs:O AC}(hf:σ.fresh d=T)(hu:cs.all (fun c=> !c.uses d)=T)(H:go P (.ops its::k) Q .normal (E {(σ.set d (.v (.sc (.pb d 0)))) with bx:=put σ.bx d cs })) :
  go P (.ops ((G,.alloc d cs)::its)::k) Q .normal (E σ):=SG rfl rfl (WK hf hu) H
theorem Wm{sz:Y}{zs:O D}{len:Y}{ps:O (Y × Opd)}{es:O (O D)}(hm:σ.made (.bslice d sz zs len ps)=E (.row d sz es))(hf:σ.fresh d=T)
  (H:go P (.ops its::k) Q .normal (E {(σ.set d (.v (.sc (.own (d*64))))) with rows:=put σ.rows (d*64) (sz,es) })):go P (.ops ((G,.bslice d sz zs len ps)::its)::k) Q .normal (E σ):=SG rfl hm (WL hf) H
theorem A19{L C:Opd}{l c:V}{bytes n sz:Y}{zs:O D}{es:O (O D)}(hl:Cn (σ.val L)=E l)(hc:Cn (σ.val C)=E c)(hb:C9 l c bytes=E n)(hz:zs.length=sz)(he:zA n zs=es) :
  σ.made (.mksl d sz bytes zs L C)=E (.row d sz es):=by
 unfold C9 at hb
 split at hb
 ·rename_i h
  cases hb;subst he;simp only[St.made,hl,hc];rw[if_pos ⟨h.1,h.2.1,h.2.2.1,h.2.2.2,hz⟩]
 ·cases hb
theorem Dd{L C:Opd}{l c:V}{bytes n sz:Y}{zs:O D}{es:O (O D)}(hl:Cn (σ.val L)=E l)(hc:Cn (σ.val C)=E c)(hb:C9 l c bytes=E n)(hz:zs.length=sz)(he:zA n zs=es)(hf:σ.fresh d=T)
  (H:go P (.ops its::k) Q .normal (E {(σ.set d (.v (.sc (.own (d*64))))) with rows:=put σ.rows (d*64) (sz,es) })):go P (.ops ((G,.mksl d sz bytes zs L C)::its)::k) Q .normal (E σ):=
 SG rfl (A19 hl hc hb hz he) (WL hf) H
theorem fE{n:Y}{N:O Y}{m:Mk}(hm:(σ.less (n::N)).made o=E m)(hv:gN (n::N) m=T){σ':St}(hs:σ.make m=E σ')(H:go P (.dops ds::k) Q .normal (E σ')) :
  go P (.dops ((E (n::N),G,o)::ds)::k) Q .normal (E σ):=wJ hm hv hs H
theorem AZ{α:Type}{env bx rows}{id sz i off n:Y}{xs:O α}{row:α→O D}{x y:α}{yv:V1}{dd:O D}(hd:yv.toDs=E dd)(hf:A7 rows id=E (sz,A row xs))
  (hx:xs[i]?=E x) (hn:dd.length=n) (ho:Nat.ble (off+n) (row x).length=T) (hy:GF (row x) off dd=row y) (H:go P k Q .normal (E ⟨env,bx,put rows id (sz,A row (xs.set i y))⟩)) :
  go P k Q .normal (St.storeV ⟨env,bx,rows⟩ n (.v (.sc (.pe id i off))) (.v yv)):=by
 have e:St.storeV ⟨env,bx,rows⟩ n (.v (.sc (.pe id i off))) (.v yv)=E ⟨env,bx,put rows id (sz,A row (xs.set i y))⟩:=by
  simp only[St.storeV,hf,List.getElem?_map,hx,Option.map_some,hd];rw[if_pos ⟨hn,I ho⟩,hy,List.map_set]
 rw[e];exact H
end
def Dp{α:Type}:Y→O α→U (O α)
 | 0,l=>E l
 | _+1,[]=>G
 | n+1,_::l=>Dp n l
def FA{α:Type}:Y→O α→U (O α)
 | 0,_=>E []
 | _+1,[]=>G
 | n+1,c::l=>(FA n l).map (c:: ·)
def Dw{α:Type}:O α→Y→W
 | [],0=>T
 | _::l,n+1=>Dw l n
 | _,_=>F
def Cp{α:Type}:O α→Y→W
 | _,0=>T
 | _::l,n+1=>Cp l n
 | [],_+1=>F
theorem LQ{α:Type}:∀(n:Y) (l:O α),Dp n l=if n≤l.length then E (l.drop n) else G
 | 0,l=>by simp[Dp]
 | n+1,[]=>by simp[Dp]
 | n+1,c::l=>by simp[Dp,LQ n l]
theorem iy{α:Type}:∀(n:Y) (l:O α),FA n l=if n≤l.length then E (l.take n) else G
 | 0,l=>by simp[FA]
 | n+1,[]=>by simp[FA]
 | n+1,c::l=>by simp only[FA,iy n l]; split<;>simp_all
theorem WH{α:Type}:∀(l:O α) (n:Y),Dw l n=decide (l.length=n)
 | [],0=>by simp[Dw]
 | [],n+1=>by simp[Dw]
 | _::l,0=>by simp[Dw]
 | _::l,n+1=>by simp[Dw,WH l n]
theorem Om{α:Type}:∀(l:O α) (n:Y),Cp l n=decide (n≤l.length)
 | [],0=>by simp[Cp]
 | [],n+1=>by simp[Cp]
 | _::l,0=>by simp[Cp]
 | _::l,n+1=>by simp[Cp,Om l n]
theorem sZ{α:Type}{l:O α}:Dp 0 l=E l:=by cases l<;>rfl
theorem sa{α:Type}{n:Y}{c:α}{l:O α}:Dp (n+1) (c::l)=Dp n l:=rfl
theorem A7j{α:Type}{l:O α}:FA 0 l=E []:=by cases l<;>rfl
theorem A7k{α:Type}{n:Y}{c:α}{l:O α}:FA (n+1) (c::l)=(FA n l).map (c:: ·):=rfl
theorem A1k{α:Type}:Dw ([]:O α) 0=T:=rfl
theorem A1l{α:Type}{n:Y}{c:α}{l:O α}:Dw (c::l) (n+1)=Dw l n:=rfl
theorem A1i{α:Type}{l:O α}:Cp l 0=T:=by cases l<;>rfl
theorem A1j{α:Type}{n:Y}{c:α}{l:O α}:Cp (c::l) (n+1)=Cp l n:=rfl
theorem qk{cs:O AC}{off n:Y}:CW cs off T n=(Dp off cs).bind fun l=>(FA n l).map fun l=> .v (.ag l):=by
 simp only[CW,cond_true,LQ,iy];by_cases h:off≤cs.length
 ·rw[if_pos h];by_cases h2:off+n≤cs.length
  ·rw[if_pos h2,Option.bind_some,if_pos (by simp; omega)]; rfl
  ·rw[if_neg h2,Option.bind_some,if_neg (by simp; omega)]; rfl
 ·rw[if_neg h,if_neg (by omega)]; rfl
theorem A5p{cs:O AC}:BY cs 0 []=cs:=by simp[BY]
theorem A5r{c:AC}{cs ds:O AC}{n:Y}:BY (c::cs) (n+1) ds=c::BY cs n ds:=by
 simp only[BY,List.take_succ_cons,List.cons_append];rw[show n+1+ds.length=(n+ds.length)+1 by omega,List.drop_succ_cons]
theorem A5s{c d:AC}{cs ds:O AC}:BY (c::cs) 0 (d::ds)=d::BY cs 0 ds:=by simp[BY]
theorem Jk{α β:Type}{a:α}{f:α→U β}:(E a).bind f=f a:=rfl
theorem qP{α β:Type}{f:α→U β}:(G:U α).bind f=G:=rfl
theorem get_map{α β:Type}{f:α→β}{l:O α}{i:Y}:(A f l)[i]?=(l[i]?).map f:=List.getElem?_map
theorem vf{α:Type}{a:α}{l:O α}:(a::l)[0]?=E a:=rfl
theorem ve{α:Type}{a:α}{l:O α}{n:Y}:(a::l)[n+1]?=l[n]?:=by simp
theorem sV:A AC.dat []= []:=rfl
theorem sU{d:D}{l:O D}:A AC.dat (d::l)= .dat d::A AC.dat l:=rfl
section
variable {P : Program} {k : O Fr} {Q : Xk → St → Prop} {σ : St} {its : O AItem} {env : O (Y × AV)} {bx : O (Y × O AC)} {rows : Rows}
theorem xj{α:Type}{rs:Rows}{sz:Y}{xs:O α}{row:α→O D} [Row row sz]{kd:IntKind}{i:V}:D1 rs sz (.v (.sc (.dat (.sl (A row xs))))) (.v (.sc (.dat (.int kd i))))=(ix xs i).map fun x=> .v (.sc (.dat (.pd (row x)))):=by
 simp only[D1,SS];cases ix xs i with
 | none=>rfl
 | some x=>simp[Row.len (row:=row) (sz:=sz),Row.pos row]
theorem xi{rs:Rows}{sz id:Y}{kd:IntKind}{i:V}:D1 rs sz (.v (.sc (.own id))) (.v (.sc (.dat (.int kd i))))=(A7 rs id).bind fun p=>(ix p.2 i).bind fun _=>bif p.1==sz then E (.v (.sc (.pe id i.toNat 0))) else G:=by
 simp only[D1];cases A7 rs id with
 | none=>rfl
 | some p=>
  obtain⟨a,es⟩:=p;simp only[Jk];cases ix es i with
  | none=>rfl
  | some x=>
   by_cases h:a=sz
   ·simp[h]
   ·have h':(a==sz)=F:=by simpa using h
    simp[h,h']
theorem A14{g:W}{n id off:Y}:CP ⟨env,bx,rows⟩ g n (.v (.sc (.pb id off)))=(A7 bx id).bind fun cs=>CW cs off g n:=by
 show(match A7 bx id with | some cs=>_ | none=>G)=_
 cases A7 bx id<;>rfl
theorem A16{g:W}{n id i off:Y}:CP ⟨env,bx,rows⟩ g n (.v (.sc (.pe id i off)))=(A7 rows id).bind fun p=>(p.2[i]?).bind fun d=>CW (A AC.dat d) off g n:=by
 simp only[CP];cases A7 rows id with
 | none=>rfl
 | some p=>
  simp only[Jk];cases p.2[i]?<;>rfl
theorem A15{g:W}{n:Y}{cs:O D}:CP σ g n (.v (.sc (.dat (.pd cs))))=CW (A AC.dat cs) 0 g n:=rfl
theorem uh{rs:Rows}{off id i o:Y}:CB rs off (.v (.sc (.pe id i o)))=(A7 rs id).map fun _=> .v (.sc (.pe id i (o+off))):=by
 simp only[CB];cases A7 rs id<;>rfl
theorem ug{rs:Rows}{off:Y}{cs:O D}:CB rs off (.v (.sc (.dat (.pd cs))))=(Dp off cs).map fun cs=> .v (.sc (.dat (.pd cs))):=by
 simp only[CB,LQ];split<;>rfl
theorem uc{l:O V1}{i:Y}:JA i (.tup l)=(l[i]?).map .v:=rfl
theorem A21{id off:Y}:Fs (.v (.sc (.pb id off)))=E (.v (.sc (.pb id off))):=rfl
theorem A22{cs:O D}:Fs (.v (.sc (.dat (.pd cs))))=E (.v (.sc (.dat (.pd cs)))):=rfl
theorem A8p:A (St.val σ) []= []:=rfl
theorem A8o{x:Opd}{l:O Opd}:A (St.val σ) (x::l)=σ.val x::A (St.val σ) l:=rfl
theorem A2r{f:FuncId}:Fq f []=E []:=rfl
theorem A2l{f:FuncId}:Fo f []=E (.clo f []):=rfl
theorem A2m{f:FuncId}{id:Y}{r:O AV}:Fo f (.v (.sc (.pb id 0))::r)=(Fq f (.v (.sc (.pb id 0))::r)).map (.clo f):=rfl
theorem A2k{f:FuncId}{d:D}{r:O AV}:Fo f (.v (.sc (.dat d))::r)=(Fp (.v (.sc (.dat d))::r)).map fun q=> .dat (.clo f q):=rfl
theorem A2p:Fp []=E []:=rfl
theorem A2o{ds:O D}{r:O AV}:Fp (.v (.sc (.dat (.pd ds)))::r)=(Fp r).map (.pd ds:: ·):=rfl
theorem A2q{f:FuncId}{id:Y}{r:O AV}:Fq f (.v (.sc (.pb id 0))::r)=(Fq f r).map (id:: ·):=rfl
def Ph(K:O AC→U (O AC))(off n:Y)(cs:O AC):AV→U (O AC)
 | .v x=>bif Dw x.cells n&&Cp cs (off+n) then K (BY cs off x.cells) else G
 | _=>G
def FH(σ:St):O (Y × Y × Opd)→O AC→U (O AC)
 | [],cs=>E cs
 | (off,n,x)::r,cs=>Ph (FH σ r) off n cs (σ.val x)
theorem TU:∀(ps:O (Y × Y × Opd)) (cs:O AC),Da cs (ps.map fun p=>(p.1,p.2.1,σ.val p.2.2))=FH σ ps cs
 | [],cs=>rfl
 | (off,n,x)::r,cs=>by
  simp only[List.map_cons,FH];generalize σ.val x=v
  cases v with
  | v y=>
   simp only[Da,Ph,WH,Om];by_cases h1:y.cells.length=n
   ·by_cases h2:off+n≤cs.length
    ·subst h1;simp only[h2,and_self,if_true,decide_true,zC,cond_true];exact TU r _
    ·simp[h1,h2]
   ·simp[h1]
  | _=>rfl
theorem qS{cs:O AC}:FH σ [] cs=E cs:=rfl
theorem qR{off n:Y}{x:Opd}{r:O (Y × Y × Opd)}{cs:O AC}:FH σ ((off,n,x)::r) cs=Ph (FH σ r) off n cs (σ.val x):=rfl
theorem qQ{K:O AC→U (O AC)}{off n:Y}{cs:O AC}{x:V1}:Ph K off n cs (.v x)=bif Dw x.cells n&&Cp cs (off+n) then K (BY cs off x.cells) else G:=rfl
theorem vq{d zs ps}:go P (.ops ((G,.build d zs ps)::its)::k) Q .normal (E σ)=go P (.ops its::k) Q .normal (AR σ d ((FH σ ps zs).map fun cs=> .v (.ag cs))):=by rw[wA,TU]
theorem A6j{d zs ps}:σ.step (.build d zs ps)=AR σ d ((FH σ ps zs).map fun cs=> .v (.ag cs)):=by rw[iQ,TU]
theorem A6s{n id off:Y}{y:V1}:St.storeV ⟨env,bx,rows⟩ n (.v (.sc (.pb id off))) (.v y)=(A7 bx id).bind fun cs=>bif Dw y.cells n&&Cp cs (off+n) then E ⟨env,put bx id (BY cs off y.cells),rows⟩ else G:=by
 simp only[St.storeV,WH,Om];cases A7 bx id with
 | none=>rfl
 | some cs=>
  simp only[Jk];by_cases h1:y.cells.length=n
  ·by_cases h2:off+n≤cs.length
   ·simp[h1,h2]
   ·simp[h1,h2]
  ·simp[h1]
def Tf(sz:Y)(es:O (O D)):W:=es.all fun r=>r.length==sz
theorem A5a{α:Type}{sz:Y}{row:α→O D} [Row row sz]{xs:O α}:Tf sz (A row xs)=T:=YL (Row.len (row:=row)) xs
theorem pR{d sz bytes id:Y}{y:AV}:St.appV ⟨env,bx,rows⟩ d sz bytes (.v (.sc (.own id))) y=bif id / 99999999999==0 then((A7 rows id).bind fun p=>(appSrc rows y).bind fun es'=>
  bif (p.1==sz)&&(Tf sz es'&&AJ p.2.length es'.length bytes) then E ⟨put (env.map fun p=>(p.1,p.2.map (AC.kill id))) d (.v (.sc (.own id))),bx.map fun p=>(p.1,p.2.map (AC.kill id)),put rows id (sz,p.2++es')⟩ else G) else G:=by
 simp only[St.appV];by_cases h0:id / 99999999999=0
 rotate_left
 ·rw[if_neg h0,show(id / 99999999999==0)=F by simpa using h0];rfl
 rw[if_pos h0,show(id / 99999999999==0)=T by simpa using h0,cond_true];cases A7 rows id with
 | none=>rfl
 | some p=>
  obtain⟨a,es⟩:=p;simp only[Jk];cases appSrc rows y with
  | none=>rfl
  | some es'=>
   simp only[Jk];by_cases h1:a=sz
   ·by_cases h2:Tf sz es'=T
    ·by_cases h3:AJ es.length es'.length bytes=T
     ·have h3':=of_decide_eq_true h3;rw[if_pos ⟨h1,h2,h3'.1,h3'.2⟩];simp only[h1,beq_self_eq_true,h2,h3,zC,cond_true];rfl
     ·have h3':AJ es.length es'.length bytes=F:=by simpa using h3
      rw[if_neg (fun h=>h3 (decide_eq_true ⟨h.2.2.1,h.2.2.2⟩))];simp[h3']
    ·have h2':Tf sz es'=F:=by simpa using h2
     rw[if_neg (fun h=>h2 h.2.1)];simp[h2']
   ·have h1':(a==sz)=F:=by simpa using h1
    rw[if_neg (fun h=>h1 h.1)];simp[h1']
theorem A6f{rs:Rows}{es:O (O D)}:appSrc rs (.v (.sc (.dat (.sl es))))=E es:=rfl
theorem A6g{rs:Rows}:appSrc rs (.v (.sc .nil))=E []:=rfl
theorem A6h{rs:Rows}{id:Y}:appSrc rs (.v (.sc (.own id)))=(A7 rs id).map fun p=>p.2:=by
 simp only[appSrc,toD0];cases A7 rs id<;>rfl
theorem A2c{α:Type}{f:α→O D}{a b:O α}:A f a++A f b=A f (a++b):=List.map_append.symm
def Ey(σ:St)(n:Y):U Opd→U V
 | none=>E n
 | some x=>Cn (σ.val x)
def GV(n:Y):U V→U V→U V→U (Y × Y)
 | some m,E h,E l=>bnd m h l n
 | _,_,_=>G
theorem TW{lo hi mx:U Opd}{n:Y}:DI σ lo hi mx n=GV n (Ey σ n mx) (Ey σ n hi) (match lo with | none=>E 0 | some x=>Cn (σ.val x)):=by
 cases mx<;>cases hi<;>cases lo<;>(simp only[DI,GV,Ey]; first | rfl | (split<;>simp_all[GV,bnd]))
def Oy(σ:St):U Opd→U V
 | none=>E 0
 | some x=>Cn (σ.val x)
theorem A5z{α:Type}{sz:Y}{lo hi mx:U Opd}{xs:O α}{row:α→O D} [Row row sz]:E0 σ sz (.v (.sc (.dat (.sl (A row xs))))) lo hi mx=(GV xs.length (Ey σ xs.length mx) (Ey σ xs.length hi) (Oy σ lo)).map fun p=> .v (.sc (.dat (.sl (A row ((xs.drop p.1).take (p.2 - p.1)))))):=by
 have h:(A row xs).all (fun d=>d.length==sz)=T:=YL (Row.len (row:=row)) xs;simp only[E0,h,Row.pos row (sz:=sz),decide_true,zC,if_true,List.length_map,TW];cases lo<;>simp[Oy,List.map_drop,List.map_take]
theorem A6i{lo hi:U Opd}{s:O UInt8}:GG σ (.v (.sc (.dat (.str s)))) lo hi=(GV s.length (Ey σ s.length G) (Ey σ s.length hi) (Oy σ lo)).map fun p=> .v (.sc (.dat (.str ((s.drop p.1).take (p.2 - p.1))))):=by
 simp only[GG,TW];cases lo<;>rfl
theorem A3j{n:Y}:Ey σ n G=E (n:V):=rfl
theorem A3k{n:Y}{x:Opd}:Ey σ n (E x)=Cn (σ.val x):=rfl
theorem A3h:Oy σ G=E 0:=rfl
theorem A3i{x:Opd}:Oy σ (E x)=Cn (σ.val x):=rfl
theorem pV{kd:IntKind}{i:V}:Cn (.v (.sc (.dat (.int kd i))))=E i:=rfl
theorem qV{n:Y}{m h l:V}:GV n (E m) (E h) (E l)=bnd m h l n:=rfl
theorem A6y{x y:O UInt8}:GH .add x y=bif Ce x.length y.length then E (.str (x++y)) else G:=by
 simp only[GH,Ce];by_cases h:x.length+y.length≤4611686018427387904
 ·simp[h]
 ·simp[h]
theorem zj{k:IntKind}{x y:V}:B8 .and k x y=E (.int k (Bq .and k x y)):=rfl
theorem zu{k:IntKind}{x y:V}:B8 .or k x y=E (.int k (Bq .or k x y)):=rfl
theorem A0d{k:IntKind}{x y:V}:B8 .xor k x y=E (.int k (Bq .xor k x y)):=rfl
theorem qG:(T==T)=T:=rfl
theorem qF:(T==F)=F:=rfl
theorem qD:(F==T)=F:=rfl
theorem qC:(F==F)=T:=rfl
theorem pC{b:W}:(F&&b)=F:=rfl
end
def gl{α:Type}(k:Y):U α→O (Y × α)→O (Y × α)
 | some v,r=>(k,v)::r
 | none,r=>r
theorem A30{α:Type}{l:O (Y × α)}:Ct l []= []:=rfl
theorem A3z{α:Type}{l:O (Y × α)}{k:Y}{ks:O Y}:Ct l (k::ks)=gl k (A7 l k) (Ct l ks):=by
 show(match A7 l k with | some v=>_ | none=>_)=_
 cases A7 l k<;>rfl
theorem A3y{α:Type}{k:Y}{v:α}{r:O (Y × α)}:gl k (E v) r=(k,v)::r:=rfl
theorem A0m{env bx rows ks bs rs}:(St.mk env bx rows).kept ks bs rs=⟨Ct env ks,Ct bx bs,Ct rows rs⟩:=rfl
theorem wg{P:Program}{k:O Fr}{Q:Xk→St→Prop}{σ:St}{its:O AItem}{ks bs rs:O Y}:go P (.ops ((G,.keep ks bs rs)::its)::k) Q .normal (E σ)=go P (.ops its::k) Q .normal (E (σ.kept ks bs rs)):=Bm rfl
theorem A31{b:W}{x y:AV}:KW (.v (.sc (.dat (.bool b)))) x y=E (bif b then x else y):=rfl
theorem qB{g x y:W}:Jj g (.v (.sc (.dat (.bool x)))) (.v (.sc (.dat (.bool y))))=E (.v (.sc (.dat (.bool (bif g then !(x==y) else x==y))))):=rfl
theorem A2w{m:W}{k:IntKind}{x y:V}:IT m (.v (.sc (.dat (.int k x)))) (.v (.sc (.dat (.int k y))))=E (.v (.sc (.dat (.int k (bif m then(if x<y then y else x) else(if y<x then y else x)))))):=by simp[IT]
theorem A8e{k:IntKind}{x:V}:J9 .neg (.v (.sc (.dat (.int k x))))=E (.v (.sc (.dat (.int k (k.wrap (0 - x)))))):=rfl
theorem ue{rs:Rows}{off id o:Y}:CB rs off (.v (.sc (.pb id o)))=E (.v (.sc (.pb id (o+off)))):=rfl
theorem A1p{rs:Rows}{id:Y}:DT rs (.v (.sc (.own id)))=(A7 rs id).map fun p=> .v (.sc (.dat (.int .i64 p.2.length))):=by
 show(match A7 rs id with | some (_,es)=>_ | none=>_)=_
 cases A7 rs id<;>rfl
theorem yo{k:Y}:Fl k []= []:=rfl
theorem yn{k:Y}{d:DV}{ds:O DV}:Fl k (d::ds)=(k,d.av)::Fl (k+1) ds:=rfl
theorem yq{ds:O DV}:St.init ds=⟨Fl 0 ds,[],[]⟩:=rfl
theorem tR{d:D}:DV.av (.sc d)= .v (.sc (.dat d)):=rfl
theorem tQ{ds:O D}:DV.av (.ag ds)= .v (.ag (ds.map .dat)):=rfl
theorem A12{f:AC→AC}:A (V1.map f) []= []:=rfl
theorem A11{f:AC→AC}{x:V1}{l:O V1}:A (V1.map f) (x::l)=x.map f::A (V1.map f) l:=rfl
theorem A03{f:AC→AC}:A (fun p:Y × AV=>(p.1,p.2.map f)) []= []:=rfl
theorem A02{f:AC→AC}{k:Y}{v:AV}{l:O (Y × AV)}:A (fun p:Y × AV=>(p.1,p.2.map f)) ((k,v)::l)=(k,v.map f)::A (fun p:Y × AV=>(p.1,p.2.map f)) l:=rfl
theorem qU{f:AC→AC}:A (fun p:Y × O AC=>(p.1,p.2.map f)) []= []:=rfl
theorem qT{f:AC→AC}{k:Y}{v:O AC}{l:O (Y × O AC)}:A (fun p:Y × O AC=>(p.1,p.2.map f)) ((k,v)::l)=(k,v.map f)::A (fun p:Y × O AC=>(p.1,p.2.map f)) l:=rfl
theorem qr{f:AC→AC}:A f ([]:O AC)= []:=rfl
theorem qq{f:AC→AC}{c:AC}{l:O AC}:A f (c::l)=f c::A f l:=rfl
theorem A10{α β:Type}{f:α→β}{l:O α}:(A f l).length=l.length:=List.length_map ..
theorem qj{c:AC}:V1.cells (.sc c)= [c]:=rfl
theorem qf{cs:O AC}:V1.cells (.ag cs)=cs:=rfl
theorem A2d{f:AC→AC}{env bx rows}:(St.mk env bx rows).map f=⟨env.map fun p=>(p.1,p.2.map f),bx.map fun p=>(p.1,p.2.map f),rows⟩:=rfl
theorem pq{f:AC→AC}{c:AC}:AV.map f (.v (.sc c))= .v (.sc (f c)):=rfl
theorem pp{f:AC→AC}{cs:O AC}:AV.map f (.v (.ag cs))= .v (.ag (cs.map f)):=rfl
theorem pu{f:AC→AC}:AV.map f .undef= .undef:=rfl
theorem pm{f:AC→AC}:AV.map f .no= .no:=rfl
theorem pr{f:AC→AC}{l:O V1}:AV.map f (.tup l)= .tup (l.map (V1.map f)):=rfl
theorem A8k{f:AC→AC}{c:AC}:V1.map f (.sc c)= .sc (f c):=rfl
theorem A8j{f:AC→AC}{cs:O AC}:V1.map f (.ag cs)= .ag (cs.map f):=rfl
theorem A0r{id:Y}{d:D}:AC.kill id (.dat d)= .dat d:=rfl
theorem A0u{id:Y}:AC.kill id .nil= .nil:=rfl
theorem A0y{id:Y}:AC.kill id .undef= .undef:=rfl
theorem A0v{id i:Y}:AC.kill id (.own i)=bif i==id then .undef else .own i:=rfl
theorem A0x{id i a b:Y}:AC.kill id (.osub i a b)=bif i==id then .undef else .osub i a b:=rfl
theorem A0s{id i a b:Y}:AC.kill id (.pe i a b)=bif i==id then .undef else .pe i a b:=rfl
theorem A0p{id i a:Y}:AC.kill id (.pb i a)= .pb i a:=rfl
theorem A0q{id f:Y}{is:O Y}:AC.kill id (.clo f is)= .clo f is:=rfl
theorem vJ{id:Y}{es:O (O D)}{d:D}:AC.frz id es (.dat d)= .dat d:=rfl
theorem vM{id:Y}{es:O (O D)}:AC.frz id es .nil= .nil:=rfl
theorem vQ{id:Y}{es:O (O D)}:AC.frz id es .undef= .undef:=rfl
theorem vN{id i:Y}{es:O (O D)}:AC.frz id es (.own i)=bif i==id then .dat (.sl es) else .own i:=rfl
theorem vP{id i a b:Y}{es:O (O D)}:AC.frz id es (.osub i a b)=bif i==id then .undef else .osub i a b:=rfl
theorem vK{id i a b:Y}{es:O (O D)}:AC.frz id es (.pe i a b)=bif i==id then .undef else .pe i a b:=rfl
theorem vG{id i a:Y}{es:O (O D)}:AC.frz id es (.pb i a)= .pb i a:=rfl
theorem vH{id f:Y}{es:O (O D)}{is:O Y}:AC.frz id es (.clo f is)= .clo f is:=rfl
theorem wU{P:Program}{k:O Fr}{Q:Xk→St→Prop}{σ:St}{its:O AItem}{id sz:Y}{es:O (O D)}(hf:A7 σ.rows id=E (sz,es))(H:go P (.ops its::k) Q .normal (E {(σ.map (AC.frz id es)) with rows:=erase σ.rows [id] }))(h0:(id / 99999999999==0)=T:=by rfl) :
  go P (.ops ((G,.frz id)::its)::k) Q .normal (E σ):=by
 rw[wT];simp only[St.step,hf,h0,Bool.not_true,Bool.false_eq_true,if_false];exact H
theorem O4{P:Program}{k:O Fr}{Q:Xk→St→Prop}{σ:St}{its:O AItem}{b j id sz:Y}{cs cs':O AC}(h1:σ.has id=F)(h2:A7 σ.bx b=E cs)(h3:cs[j]?=E .nil)(h4:cs.set j (.own id)=cs')
  (H:go P (.ops its::k) Q .normal (E {σ with bx:=put σ.bx b cs',rows:=put σ.rows id (sz,[]) })) (h0:(id / 99999999999==0)=T:=by rfl):go P (.ops ((G,.ownb b j id sz)::its)::k) Q .normal (E σ):=by
 rw[wv];subst h4;simp only[St.step,h1,h2,h3,h0,Bool.not_true,Bool.or_self,Bool.false_eq_true,if_false];exact H
theorem uU{α:Type}{ks:O Y}:erase ([]:O (Y × α)) ks= []:=rfl
theorem uV{α:Type}{k n:Y}{v:α}{r:O (Y × α)}:erase ((k,v)::r) [n]=bif k==n then erase r [n] else(k,v)::erase r [n]:=by
 by_cases h:k=n
 ·simp[erase,h]
 ·have h':(k==n)=F:=by simpa using h
  simp[erase,h,h']
theorem A4y{ts:O RV}{rs:O R1}{σ:St}:Ag ts rs .ret σ=(OutVs σ ts rs∧Ew (Dk σ ts rs)=T):=rfl
theorem A4x{ts:O RV}{rs:O R1}{σ:St}:Ag ts rs .normal σ=(OutVs σ ts rs∧Ew (Dk σ ts rs)=T):=rfl
theorem A3r{σ:St}{t:RV}{ts:O RV}{r:R1}{rs:O R1}:OutVs σ (t::ts) (r::rs)=(P4 σ.rows (KT σ t) r∧OutVs σ ts rs):=rfl
theorem A3q{σ:St}{t:RV}{ts:O RV}{r:R1}{rs:O R1}:Dk σ (t::ts) (r::rs)=WZ (KT σ t) r++Dk σ ts rs:=rfl
theorem A3p{σ:St}{a n:Y}{g:W}:KT σ (.c a g n)=(CP σ g n (σ.get a)).getD .undef:=rfl
def Bh:=Z @A4y (Z @A4x (Z @A3r (Z @A3q @A3p)))
set_option maxRecDepth 4000 in
def A5c:=Z @wq (Z @wn (Z @xG (Z @xC (Z @wL (Z @wQ (Z @xF (Z @vz (Z @wM (Z @xD (Z @wG (Z @xB (Z @xA (Z @wx (Z @wz (Z @vr (Z @vw (Z @wu (Z @wK (Z @gu (Z @wb (Z @wa (Z @wY (Z @wX (Z @wW (Z @uw (Z @uv (Z @A4g (Z @A4f (Z @A8m (Z @A8l (Z @vd (Z @A5t (Z @getD_some (Z @vb (Z @map_some (Z @map_none (Z @A51 (Z @A1q (Z @A5k (Z @A5j (Z @A1n (Z @qw (Z @qI (Z @qO (Z @zi (Z @A0c (Z @zq (Z @zv (Z @zw (Z @zl (Z @zt (Z @zp (Z @zo (Z @zn (Z @zm (Z @A6z (Z @A60 (Z @A8f (Z @xo (Z @A0i (Z @ur (Z @qg (Z @qu (Z @qt (Z @wm (Z @wr (Z @wi (Z @wo (Z @vp (Z @vo (Z @xM (Z @wH (Z @xH (Z @xJ (Z @wO (Z @wP (Z @wc (Z @we (Z @wN (Z @wh (Z @xE (Z @xI (Z @wl (Z @wj (Z @xK (Z @vl (Z @vt (Z @zd (Z @yr (Z @yu (Z @yz (Z @yy (Z @B33 (Z @B32 (Z @zg (Z @ze (Z @zf (Z @zb (Z @yx (Z @yw (Z @A42 (Z @A43 (Z @A45 (Z @qi (Z @qe (Z @A47 (Z @A49 (Z @A48 (Z @A4c (Z @A4b (Z @pQ (Z @pP (Z @qW (Z @qE (Z @rd (Z @rf (Z @rM (Z @rX (Z @re (Z @rH (Z @rG (Z @rl (Z @rN (Z @rh (Z @rj (Z @rP (Z @rQ (Z @rT (Z @rE (Z @rV (Z @rO (Z @rW (Z @rg (Z @ri (Z @rc (Z @rY (Z @rJ (Z @rF (Z @rK (Z @ra (Z @sF (Z @sH (Z @rp (Z @sB (Z @sG (Z @ro (Z @rn (Z @sN (Z @rq (Z @sJ (Z @sL (Z @ru (Z @rv (Z @ry (Z @rm (Z @rz (Z @rr (Z @sA (Z @sI (Z @sK (Z @sE (Z @sC (Z @sP (Z @sO (Z @sT (Z @sS (Z @sR (Z @A1v (Z @A2j (Z @A2i (Z @A0l (Z @A0k (Z @A0j (Z @A7l (Z @A8h (Z @pZ (Z @pc (Z @pg (Z @ph (Z @pi (Z @pY (Z @pX (Z @A26 (Z @A27 (Z @pG (Z @wS (Z @vn (Z @tG (Z @tI (Z @sj (Z @tB (Z @tH (Z @sf (Z @se (Z @tO (Z @sr (Z @tK (Z @tM (Z @su (Z @sv (Z @sx (Z @sb (Z @sy (Z @ss (Z @tA (Z @tJ (Z @tL (Z @tF (Z @tC (Z @sg (Z @sd (Z @si (Z @tE (Z @sk (Z @sq (Z @ij (Z @il (Z @iZ (Z @ik (Z @iP (Z @iO (Z @iv (Z @iR (Z @ip (Z @ir (Z @iT (Z @iU (Z @iW (Z @iX (Z @iS (Z @iY (Z @io (Z @iq (Z @ii (Z @ib (Z @A30 (Z @A3z (Z @A3y (Z @A0m (Z @wg (Z @A31 (Z @qB (Z @A2w (Z @A8e (Z @ue (Z @A1p (Z @yo (Z @yn (Z @yq (Z @tR (Z @tQ (Z @A10 (Z @qj (Z @qf (Z @A2d (Z @pq (Z @pp (Z @pu (Z @pr (Z @A8k (Z @A8j (Z @A0r (Z @A0u (Z @A0y (Z @A0v (Z @A0x (Z @A0s (Z @A0p (Z @A0q (Z @vJ (Z @vM (Z @vQ (Z @vN (Z @vP (Z @vK (Z @vG (Z @vH (Z @uU (Z @uV (Z @sZ (Z @sa (Z @A7j (Z @A7k (Z @A1k (Z @A1l (Z @A1i (Z @A1j (Z @qk (Z @A5p (Z @A5r (Z @A5s (Z @Jk (Z @qP (Z @get_map (Z @vf (Z @ve (Z @sV (Z @sU (Z @xj (Z @xi (Z @A14 (Z @A16 (Z @A15 (Z @uh (Z @ug (Z @uc (Z @A21 (Z @A22 (Z @A8p (Z @A8o (Z (Z @A2r (Z @A2l (Z @A2m (Z @A2k (Z @A2p @A2o))))) (Z @A2q (Z @qS (Z @qR (Z @qQ (Z @vq (Z @A6j (Z @A6s (Z @A5a (Z @pR (Z @A6f (Z @A6g (Z @A6h (Z @A2c (Z @A5z (Z @A6i (Z @A3j (Z @A3k (Z @A3h (Z @A3i (Z @pV (Z @qV (Z @A6y (Z @zj (Z @zu (Z @A0d (Z @qG (Z @qF (Z @qD (Z @qC (Z @pC (Z @SS (Z @gy (Z @Z9 (Z @A4h (Z @A4j (Z @A4l (Z @A4k (Z @A12 (Z @A11 (Z @A03 (Z @A02 (Z @qU (Z @qT (Z @qr (Z @qq (Z @sQ (Z @wV @pm))))))))))))))))))))))))))))))))))))))))))))))))))))))))))))))))))))))))))))))))))))))))))))))))))))))))))))))))))))))))))))))))))))))))))))))))))))))))))))))))))))))))))))))))))))))))))))))))))))))))))))))))))))))))))))))))))))))))))))))))))))))))))))))))))))))))))))))))))))))))))))))))))))))))))))))))))))))))))))))))))))))))))))))))))))))))))))))))))))))
theorem D7{P:Program}(hm:P.follows .mixedOrders=T){f:FuncId}{c:X0}{ts:O RV}{nt:Y}{xs:O XV}{R0 R1:AE}{r:D}{ps:O (Y × Y)}{σ:St}(he:Bd P f=E (c.strip,ts,nt))(hl:Nat.ble xs.length nt=T)(hlen:R1.length=R0.length)(hrf:r.flat=T)(hR1:Dt R1)(hσ:St.initX xs R0=σ)
  (h:go P [.code c] (DH ts r R1 ps) .normal (E σ)):Cj P f xs R0 R1 r:=lW hm he (I hl) hlen hrf hR1 (O5 (hσ▸h))
theorem BC:Dt []:=fun p hp=>by simp at hp
theorem B6{α:Type}{row:α→O D} [FlatRow row]{sz:Y}{xs:O α}{R:AE}(h:Dt R):Dt ((sz,A row xs)::R):=fun p hp=>by
 rcases List.mem_cons.1 hp with rfl|hp
 ·intro e he d hd;obtain⟨x,_,rfl⟩:=List.mem_map.1 he;exact FlatRow.flat x d hd
 ·exact h p hp
theorem Dm:DC [] []=T:=rfl
theorem Cc{α β:Type}{row:α→O D}{row':β→O D}{z:Y}{xs:O α}{ys:O β}{R R':AE}(hl:ys.length=xs.length)(h:DC R R'=T):DC ((z,A row xs)::R) ((z,A row' ys)::R')=T:=by
 simp[DC,hl,h]
theorem za{env:O (Y × AV)}{bx:O (Y × O AC)}{rows:Rows}{d:Y}{ids:O Y}{R1:AE}{r:D}:St.instX ⟨env,bx,rows⟩ d ids R1 r=⟨put env d (.v (.sc (.dat r))),bx,CR rows ids R1⟩:=rfl
theorem A4d{rs:Rows}{id:Y}{ids:O Y}{r:Y × O (O D)}{R:AE}:CR rs (id::ids) (r::R)=CR (put rs id r) ids R:=rfl
theorem A4e{rs:Rows}:CR rs [] []=rs:=rfl
theorem Z1{N:O Y}:AV.avoids N (.v (.sc .z))=T:=by simp[AV.avoids,AV.cells,V1.cells,AC.avoids,AC.uses]
theorem B8b{P:Program}{k:O Fr}{Q:Xk→St→Prop}{σ:St}{N:O Y}{d:Y}{its:O Bl}:go P (.dops ((E N,G,.zsl d)::its)::k) Q .normal (E σ)=go P (.dops its::k) Q .normal (E (σ.set d (.v (.sc .z)))):=by
 rw[BE rfl];show go P _ Q .normal (bif (((σ.less N).set d (.v (.sc .z))).get d).avoids N then E (σ.set d (((σ.less N).set d (.v (.sc .z))).get d)) else G)=_
 rw[St.get_set_same,Z1];rfl
theorem pk{N:O Y}:AV.avoids N (.tup [])=T:=rfl
theorem pj{N:O Y}{x:V1}{l:O V1}:AV.avoids N (.tup (x::l))=((AV.v x).avoids N&&(AV.tup l).avoids N):=by simp[AV.avoids,AV.cells]
theorem A2t{t:TypeId}{d:D}:Gy t (.v (.sc (.dat d)))=E (.v (.sc (.dat (.ifc t d)))):=rfl
theorem A7m{t u:TypeId}{zc:AC}{d:D}:GI t zc (.v (.sc (.dat (.ifc u d))))=bif u==t then E (.tup [.sc (.dat d),.sc (.dat (.bool T))]) else E (.tup [.sc zc,.sc (.dat (.bool F))]):=rfl
theorem vT{id:Y}{ds:O D}{d:D}:AC.frzb id ds (.dat d)= .dat d:=rfl
theorem vV{id:Y}{ds:O D}:AC.frzb id ds .nil= .nil:=rfl
theorem vY{id:Y}{ds:O D}:AC.frzb id ds .undef= .undef:=rfl
theorem vW{id i:Y}{ds:O D}:AC.frzb id ds (.own i)= .own i:=rfl
theorem vX{id i a b:Y}{ds:O D}:AC.frzb id ds (.osub i a b)= .osub i a b:=rfl
theorem vU{id i a b:Y}{ds:O D}:AC.frzb id ds (.pe i a b)= .pe i a b:=rfl
theorem vS{id i a:Y}{ds:O D}:AC.frzb id ds (.pb i a)=bif i==id then .dat (.pd (ds.drop a)) else .pb i a:=rfl
theorem A4r{a b:Y}{d:D}:AC.ren a b (.dat d)= .dat d:=rfl
theorem A4t{a b:Y}:AC.ren a b .nil= .nil:=rfl
theorem A4w{a b:Y}:AC.ren a b .undef= .undef:=rfl
theorem A4u{a b i:Y}:AC.ren a b (.own i)= .own (bif i==a then b else i):=rfl
theorem A4v{a b i x y:Y}:AC.ren a b (.osub i x y)= .osub (bif i==a then b else i) x y:=rfl
theorem A4s{a b i x y:Y}:AC.ren a b (.pe i x y)= .pe (bif i==a then b else i) x y:=rfl
theorem A4p{a b i x:Y}:AC.ren a b (.pb i x)= .pb i x:=rfl
theorem A2s{t:TypeId}{a b:D}:Gy t (.v (.ag [.dat a,.dat b]))=E (.v (.sc (.dat (.ifs t [a,b])))):=rfl
def FCq(P:Program)(f:FuncId)(ds:O DV)(rs:O R1):U D→Prop
 | none=>FC P f ds rs
 | some d=>L4 P f ds d
theorem FCq.none{P:Program}{f:FuncId}{ds:O DV}{rs:O R1}{pd:U D}(h:FCq P f ds rs pd)(hp:pd=G):FC P f ds rs:=by subst hp; exact h
theorem FCq.some{P:Program}{f:FuncId}{ds:O DV}{rs:O R1}{pd:U D}{d:D}(h:FCq P f ds rs pd)(hp:pd=E d):L4 P f ds d:=by subst hp; exact h
theorem A2u{t:TypeId}{id:Y}:Gy t (.v (.sc (.pb id 0)))=E (.v (.sc (.ipb t id))):=rfl
theorem A0t{id i:Y}{t:TypeId}:AC.kill id (.ipb t i)= .ipb t i:=rfl
theorem vL{id i:Y}{t:TypeId}{es:O (O D)}:AC.frz id es (.ipb t i)= .ipb t i:=rfl
theorem vZ{g:W}{ks:O FK}{cs ds:O AC}:Kx g ks (.v (.ag cs)) (.v (.ag ds))=(Bx ks cs ds).map fun b=> .v (.sc (.dat (.bool (bif g then !b else b)))):=rfl
theorem uS:Bx [] [] []=E T:=rfl
theorem uR{k:IntKind}{x y:V}{ks:O FK}{cs ds:O AC}:Bx (.i::ks) (.dat (.int k x)::cs) (.dat (.int k y)::ds)=(Bx ks cs ds).map fun b=>(x==y)&&b:=if_pos rfl
theorem uQ{x y:W}{ks:O FK}{cs ds:O AC}:Bx (.b::ks) (.dat (.bool x)::cs) (.dat (.bool y)::ds)=(Bx ks cs ds).map fun b=>(x==y)&&b:=rfl
theorem uT{x y:O UInt8}{ks:O FK}{cs ds:O AC}:Bx (.s::ks) (.dat (.str x)::cs) (.dat (.str y)::ds)=(Bx ks cs ds).map fun b=>(x==y)&&b:=rfl
def A5e:=Z @Z1 (Z @B8b (Z @pk (Z @pj (Z @za (Z @A4d (Z @A4e (Z @wk (Z @xL (Z @ig (Z @iu (Z @rZ (Z @sD (Z @tD (Z @rk (Z @sM (Z @tN (Z @A2t (Z @A7m (Z @vT (Z @vV (Z @vY (Z @vW (Z @vX (Z @vU (Z @vS (Z @A2u (Z @A0t (Z @vL (Z @A4r (Z @A4t (Z @A4w (Z @A4u (Z @A4v (Z @A4s (Z @A4p (Z @ww (Z @wC (Z @wy (Z @vu (Z @A2s (Z @iV (Z @wZ (Z @rR (Z @rx (Z @sw (Z @vZ (Z @uS (Z @uR (Z @uQ @uT)))))))))))))))))))))))))))))))))))))))))))))))))
end Go.Vi
