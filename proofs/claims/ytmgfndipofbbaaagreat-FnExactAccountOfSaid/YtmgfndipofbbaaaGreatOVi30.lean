/-
The value level. No condition.
-/
import Derived.Test.YtmgfndipofbbaaaGreatOVi28
namespace Go.Vi
set_option linter.all false
open And renaming intro → Z
open List renaming map → A, mem_singleton → B, replicate → zA
open Nat renaming le_of_ble_eq_true → I, one_pos → zB
open Bool renaming and_self → zC, true → T, false → F
open Option renaming some → E, none → G
open _root_ renaming List → O, Option → U, Int → V, Bool → W, Nat → Y
abbrev S(n:Y):Opd:= .t n
abbrev K(n:V):Opd:= .c (.v (.sc (.dat (.int .i64 n))))
abbrev K8(n:V):Opd:= .c (.v (.sc (.dat (.int .u8 n))))
abbrev KB(b:W):Opd:= .c (.v (.sc (.dat (.bool b))))
abbrev KS(s:O UInt8):Opd:= .c (.v (.sc (.dat (.str s))))
abbrev KN:Opd:= .c (.v (.sc .nil))
abbrev aI(n:V):AC:= .dat (.int .i64 n)
abbrev a8(n:V):AC:= .dat (.int .u8 n)
abbrev aB(b:W):AC:= .dat (.bool b)
abbrev aS(s:O UInt8):AC:= .dat (.str s)
abbrev aL(es:O (O D)):AC:= .dat (.sl es)
abbrev vc(c:AC):AV:= .v (.sc c)
abbrev va(cs:O AC):AV:= .v (.ag cs)
def rI(n:V):O D:= [.int .i64 n]
def r8(n:V):O D:= [.int .u8 n]
def rB(b:W):O D:= [.bool b]
def rS(s:O UInt8):O D:= [.str s]
def rL{α:Type}(row:α→O D)(xs:O α):O D:= [.sl (xs.map row)]
class Row {α:Type} (row:α→O D) (sz:Y):Prop where
 len:∀x,(row x).length=sz
 pos:0<sz
instance:Row rI 1:=⟨fun _=>rfl,zB⟩
instance:Row r8 1:=⟨fun _=>rfl,zB⟩
instance:Row rB 1:=⟨fun _=>rfl,zB⟩
instance:Row rS 1:=⟨fun _=>rfl,zB⟩
instance {α:Type} (row:α→O D):Row (rL row) 1:=⟨fun _=>rfl,zB⟩
theorem gN(n:V):rI n= [.int .i64 n]:=rfl
def iN(n:V):UInt8:=UInt8.ofNat n.toNat
theorem YJ:∀{xs:O V},Db (A r8 xs)=E (A iN xs)
 | []=>rfl
 | n::xs=>by
  show(Db (A r8 xs)).map _=_
  rw[YJ];rfl
theorem A21(n:V):r8 n= [.int .u8 n]:=rfl
theorem A22(b:W):rB b= [.bool b]:=rfl
theorem A24(s:O UInt8):rS s= [.str s]:=rfl
theorem A23{α:Type}(row:α→O D)(xs:O α):rL row xs= [.sl (xs.map row)]:=rfl
theorem Yo{α:Type}{row:α→O D}{sz:Y}(h:∀x,(row x).length=sz)(xs:O α):(xs.map row).all (fun d=>d.length==sz)=T:=by
 simp[List.all_map,Function.comp_def,h]
@[irreducible] def bigN:Y:=1208925819614629174706176
def bnd(m h l:V)(n:Y):U (Y × Y):=if 0≤l∧l≤h∧h≤m∧m≤n then E (l.toNat,h.toNat) else G
def BH(l c:V)(bytes:Y):U Y:=if 0≤l∧l≤c∧c*bytes≤140737488355328∧c≤4611686018427387904 then E l.toNat else G
def AP(n m bytes:Y):W:=decide ((n+m)*bytes≤140737488355328∧n+m≤4611686018427387904)
def Jj(n m:Y):W:=decide (n+m≤4611686018427387904)
theorem SF{α β:Type}{f:α→β}{l:O α}{i:V}:ix (l.map f) i=(ix l i).map f:=by
 unfold ix;split<;>simp
theorem AE{α:Type}{l:O α}{i:V}{x:α}(h:ix l i=E x):l[i.toNat]?=E x:=by
 unfold ix at h;split at h
 ·exact h
 ·cases h
theorem ob{α β:Type}{o:U α}{f:α→U β}{r:β}(h:o.bind f=E r):∃a,o=E a∧f a=E r:=Option.bind_eq_some_iff.1 h
class FlatRow {α:Type} (row:α→O D):Prop where
 flat:∀x,∀d∈row x,d.flat=T
instance:FlatRow rI:=⟨fun _ d h=>by rw[B.1 h]; rfl⟩
instance:FlatRow r8:=⟨fun _ d h=>by rw[B.1 h]; rfl⟩
instance:FlatRow rB:=⟨fun _ d h=>by rw[B.1 h]; rfl⟩
instance:FlatRow rS:=⟨fun _ d h=>by rw[B.1 h]; rfl⟩
def XZ:O RC→Prop
 | []=>True
 | c::cs=>c.flat∧XZ cs
theorem BQ{rs:O R1}{cs:O RC}(h:rs.flatMap R1.cells=cs)(hf:XZ cs):De rs:=by
 subst h;unfold De;generalize rs.flatMap R1.cells=l at hf
 induction l with
 | nil=>intro c hc; simp at hc
 | cons a l ih=>
  intro c hc;rcases List.mem_cons.1 hc with rfl|hc
  ·exact hf.1
  ·exact ih hf.2 c hc
theorem AZ{α:Type}{row:α→O D} [FlatRow row]{sz:Y}{xs:O α}:RC.flat (.o sz (A row xs)):=by
 intro r hr;obtain⟨x,_,rfl⟩:=List.mem_map.1 hr;exact FlatRow.flat x
theorem CD{α:Type}{row:α→O D}{z:α}{zs:O D}{n:Y}(h:row z=zs):zA n zs=A row (zA n z):=by rw[List.map_replicate,h]
theorem Ba{α:Type}{b:W}{x:U α}{r:α}(h:(if b=T then x else G)=E r):b=T∧x=E r:=by
 cases b
 ·rw[if_neg Bool.false_ne_true] at h; cases h
 ·exact⟨rfl,by simpa using h⟩
theorem Dl{α:Type}{b:W}{x:U α}{r:α}(h:(if b=T then G else x)=E r):b=F∧x=E r:=by
 cases b
 ·exact⟨rfl,by simpa using h⟩
 ·rw[if_pos rfl] at h; cases h
theorem ic{α:Type}{b:W}{x y:U α}{r:α}(h:(if b=T then x else y)=E r):(b=T∧x=E r)∨(b=F∧y=E r):=by
 cases b with
 | true=>exact .inl ⟨rfl,h⟩
 | false=>exact .inr ⟨rfl,h⟩
section
variable {P : Program} {k : O Fr} {Q : Xl → St → Prop} {σ : St} {its : O AItem} {ds : O Bk} {o : AOp} {d : Y}
theorem Ak{c:X0}(h:go P (.code c:: .code (.loop c)::k) Q .normal (E σ)):go P (.code (.loop c)::k) Q .normal (E σ):=by
 intro X hX;refine hX σ (YC c (fun e σ' h=> ?_) h);cases e with
 | normal=>exact h X hX
 | exit id=>exact h
 | ret=>exact h
 | pan d=>exact h
theorem kk(hm:P.follows .mixedOrders=T){f:FuncId}{c:X0}{ts:O RV}{nt:Y}{ds:O DV}{rs:O R1}{σ:St}(he:Bf P f=E (c.strip,ts,nt))(hl:Nat.ble ds.length nt=T)(hσ:St.init ds=σ)
  (h:go P [.code c] (Ah ts rs) .normal (E σ)):FC P f ds rs:=ko hm he (I hl) fun _=>NZ (hσ▸h)
theorem kj(hm:P.follows .mixedOrders=T){f:FuncId}{c:X0}{ts:O RV}{nt:Y}{ds:O DV}{rs:O R1}(he:Bf P f=E (c.strip,ts,nt))(hl:Nat.ble ds.length nt=T)
  (h:go P [.code c] (Ah ts rs) .normal (E (St.init ds))):FC P f ds rs:=kk hm he hl rfl h
theorem KG{sz:Y}{es:O (O D)}(hf:σ.fresh d=T):σ.make (.row d sz es)=E {(σ.set d (.v (.sc (.own (d*64))))) with rows:=put σ.rows (d*64) (sz,es)}:=by simp[St.make,hf]
theorem Om{cs:O AC}(hf:σ.fresh d=T)(hu:cs.all (fun c=> !c.uses d)=T):σ.make (.box d cs)=E {(σ.set d (.v (.sc (.pb d 0)))) with bx:=put σ.bx d cs}:=by simp only[St.make,hf,hu,zC,if_true]
theorem Sv{m:Mk}(ho:o.isMade=T)(hm:σ.made o=E m){σ':St}(hs:σ.make m=E σ')(H:go P (.ops its::k) Q .normal (E σ')):go P (.ops ((G,o)::its)::k) Q .normal (E σ):=by
 have hc:o.isCall=F:=by cases o<;>first | rfl | (simp[AOp.isMade] at ho; done)
 rw[Bm hc,A47 ho,hm];show go P (.ops its::k) Q .normal (σ.make m)
 rw[hs];exact H
theorem vF{X:Opd}{y:V1}(hX:σ.val X= .v y)(hf:σ.fresh d=T)(hu:y.cells.all (fun c=> !c.uses d)=T)(H:go P (.ops its::k) Q .normal (E {(σ.set d (.v (.sc (.pb d 0)))) with bx:=put σ.bx d y.cells })) :
  go P (.ops ((G,.box d X)::its)::k) Q .normal (E σ):=Sv rfl (by simp only[St.made,hX]) (Om hf hu) H
theorem ut{cs:O AC}(hf:σ.fresh d=T)(hu:cs.all (fun c=> !c.uses d)=T)(H:go P (.ops its::k) Q .normal (E {(σ.set d (.v (.sc (.pb d 0)))) with bx:=put σ.bx d cs })) :
  go P (.ops ((G,.alloc d cs)::its)::k) Q .normal (E σ):=Sv rfl rfl (Om hf hu) H
theorem W2{sz:Y}{zs:O D}{len:Y}{ps:O (Y × Opd)}{es:O (O D)}(hm:σ.made (.bslice d sz zs len ps)=E (.row d sz es))(hf:σ.fresh d=T)
  (H:go P (.ops its::k) Q .normal (E {(σ.set d (.v (.sc (.own (d*64))))) with rows:=put σ.rows (d*64) (sz,es) })):go P (.ops ((G,.bslice d sz zs len ps)::its)::k) Q .normal (E σ):=Sv rfl hm (KG hf) H
theorem Ol{L C:Opd}{l c:V}{bytes n sz:Y}{zs:O D}{es:O (O D)}(hl:Cn (σ.val L)=E l)(hc:Cn (σ.val C)=E c)(hb:BH l c bytes=E n)(hz:zs.length=sz)(he:zA n zs=es) :
  σ.made (.mksl d sz bytes zs L C)=E (.row d sz es):=by
 unfold BH at hb
 split at hb
 ·rename_i h
  cases hb;subst he;simp only[St.made,hl,hc];rw[if_pos ⟨h.1,h.2.1,h.2.2.1,h.2.2.2,hz⟩]
 ·cases hb
theorem Df{L C:Opd}{l c:V}{bytes n sz:Y}{zs:O D}{es:O (O D)}(hl:Cn (σ.val L)=E l)(hc:Cn (σ.val C)=E c)(hb:BH l c bytes=E n)(hz:zs.length=sz)(he:zA n zs=es)(hf:σ.fresh d=T)
  (H:go P (.ops its::k) Q .normal (E {(σ.set d (.v (.sc (.own (d*64))))) with rows:=put σ.rows (d*64) (sz,es) })):go P (.ops ((G,.mksl d sz bytes zs L C)::its)::k) Q .normal (E σ):=
 Sv rfl (Ol hl hc hb hz he) (KG hf) H
theorem IH{n:Y}{N:O Y}{m:Mk}(hm:(σ.less (n::N)).made o=E m)(hv:fe (n::N) m=T){σ':St}(hs:σ.make m=E σ')(H:go P (.dops ds::k) Q .normal (E σ')) :
  go P (.dops ((E (n::N),G,o)::ds)::k) Q .normal (E σ):=vN hm hv hs H
theorem AW{α:Type}{env bx rows}{id sz i off n:Y}{xs:O α}{row:α→O D}{x y:α}{yv:V1}{dd:O D}(hd:yv.toDs=E dd)(hf:A7 rows id=E (sz,A row xs))
  (hx:xs[i]?=E x) (hn:dd.length=n) (ho:Nat.ble (off+n) (row x).length=T) (hy:Gz (row x) off dd=row y) (H:go P k Q .normal (E ⟨env,bx,put rows id (sz,A row (xs.set i y))⟩)) :
  go P k Q .normal (St.storeV ⟨env,bx,rows⟩ n (.v (.sc (.pe id i off))) (.v yv)):=by
 have e:St.storeV ⟨env,bx,rows⟩ n (.v (.sc (.pe id i off))) (.v yv)=E ⟨env,bx,put rows id (sz,A row (xs.set i y))⟩:=by
  simp only[St.storeV,hf,List.getElem?_map,hx,Option.map_some,hd];rw[if_pos ⟨hn,I ho⟩,hy,List.map_set]
 rw[e];exact H
end
def Dp{α:Type}:Y→O α→U (O α)
 | 0,l=>E l
 | _+1,[]=>G
 | n+1,_::l=>Dp n l
def Fy{α:Type}:Y→O α→U (O α)
 | 0,_=>E []
 | _+1,[]=>G
 | n+1,c::l=>(Fy n l).map (c:: ·)
def Dx{α:Type}:O α→Y→W
 | [],0=>T
 | _::l,n+1=>Dx l n
 | _,_=>F
def Cp{α:Type}:O α→Y→W
 | _,0=>T
 | _::l,n+1=>Cp l n
 | [],_+1=>F
theorem LM{α:Type}:∀(n:Y) (l:O α),Dp n l=if n≤l.length then E (l.drop n) else G
 | 0,l=>by simp[Dp]
 | n+1,[]=>by simp[Dp]
 | n+1,c::l=>by simp[Dp,LM n l]
theorem iI{α:Type}:∀(n:Y) (l:O α),Fy n l=if n≤l.length then E (l.take n) else G
 | 0,l=>by simp[Fy]
 | n+1,[]=>by simp[Fy]
 | n+1,c::l=>by simp only[Fy,iI n l]; split<;>simp_all
theorem Wo{α:Type}:∀(l:O α) (n:Y),Dx l n=decide (l.length=n)
 | [],0=>by simp[Dx]
 | [],n+1=>by simp[Dx]
 | _::l,0=>by simp[Dx]
 | _::l,n+1=>by simp[Dx,Wo l n]
theorem Of{α:Type}:∀(l:O α) (n:Y),Cp l n=decide (n≤l.length)
 | [],0=>by simp[Cp]
 | [],n+1=>by simp[Cp]
 | _::l,0=>by simp[Cp]
 | _::l,n+1=>by simp[Cp,Of l n]
theorem rm{α:Type}{l:O α}:Dp 0 l=E l:=by cases l<;>rfl
theorem rn{α:Type}{n:Y}{c:α}{l:O α}:Dp (n+1) (c::l)=Dp n l:=rfl
theorem A51{α:Type}{l:O α}:Fy 0 l=E []:=by cases l<;>rfl
theorem A52{α:Type}{n:Y}{c:α}{l:O α}:Fy (n+1) (c::l)=(Fy n l).map (c:: ·):=rfl
theorem A0a{α:Type}:Dx ([]:O α) 0=T:=rfl
theorem A0b{α:Type}{n:Y}{c:α}{l:O α}:Dx (c::l) (n+1)=Dx l n:=rfl
theorem zy{α:Type}{l:O α}:Cp l 0=T:=by cases l<;>rfl
theorem zz{α:Type}{n:Y}{c:α}{l:O α}:Cp (c::l) (n+1)=Cp l n:=rfl
theorem qC{cs:O AC}{off n:Y}:CV cs off T n=(Dp off cs).bind fun l=>(Fy n l).map fun l=> .v (.ag l):=by
 simp only[CV,cond_true,LM,iI];by_cases h:off≤cs.length
 ·rw[if_pos h];by_cases h2:off+n≤cs.length
  ·rw[if_pos h2,Option.bind_some,if_pos (by simp; omega)]; rfl
  ·rw[if_neg h2,Option.bind_some,if_neg (by simp; omega)]; rfl
 ·rw[if_neg h,if_neg (by omega)]; rfl
theorem A38{cs:O AC}:C5 cs 0 []=cs:=by simp[C5]
theorem A4a{c:AC}{cs ds:O AC}{n:Y}:C5 (c::cs) (n+1) ds=c::C5 cs n ds:=by
 simp only[C5,List.take_succ_cons,List.cons_append];rw[show n+1+ds.length=(n+ds.length)+1 by omega,List.drop_succ_cons]
theorem A4b{c d:AC}{cs ds:O AC}:C5 (c::cs) 0 (d::ds)=d::C5 cs 0 ds:=by simp[C5]
theorem Jg{α β:Type}{a:α}{f:α→U β}:(E a).bind f=f a:=rfl
theorem pc{α β:Type}{f:α→U β}:(G:U α).bind f=G:=rfl
theorem get_map{α β:Type}{f:α→β}{l:O α}{i:Y}:(A f l)[i]?=(l[i]?).map f:=List.getElem?_map
theorem um{α:Type}{a:α}{l:O α}:(a::l)[0]?=E a:=rfl
theorem uk{α:Type}{a:α}{l:O α}{n:Y}:(a::l)[n+1]?=l[n]?:=by simp
theorem rj:A AC.dat []= []:=rfl
theorem ri{d:D}{l:O D}:A AC.dat (d::l)= .dat d::A AC.dat l:=rfl
section
variable {P : Program} {k : O Fr} {Q : Xl → St → Prop} {σ : St} {its : O AItem} {env : O (Y × AV)} {bx : O (Y × O AC)} {rows : Rows}
theorem wu{α:Type}{rs:Rows}{sz:Y}{xs:O α}{row:α→O D} [Row row sz]{kd:IntKind}{i:V}:D4 rs sz (.v (.sc (.dat (.sl (A row xs))))) (.v (.sc (.dat (.int kd i))))=(ix xs i).map fun x=> .v (.sc (.dat (.pd (row x)))):=by
 simp only[D4,SF];cases ix xs i with
 | none=>rfl
 | some x=>simp[Row.len (row:=row) (sz:=sz),Row.pos row]
theorem wr{rs:Rows}{sz id:Y}{kd:IntKind}{i:V}:D4 rs sz (.v (.sc (.own id))) (.v (.sc (.dat (.int kd i))))=(A7 rs id).bind fun p=>(ix p.2 i).bind fun _=>bif p.1==sz then E (.v (.sc (.pe id i.toNat 0))) else G:=by
 simp only[D4];cases A7 rs id with
 | none=>rfl
 | some p=>
  obtain⟨a,es⟩:=p;simp only[Jg];cases ix es i with
  | none=>rfl
  | some x=>
   by_cases h:a=sz
   ·simp[h]
   ·have h':(a==sz)=F:=by simpa using h
    simp[h,h']
theorem A0t{g:W}{n id off:Y}:CO ⟨env,bx,rows⟩ g n (.v (.sc (.pb id off)))=(A7 bx id).bind fun cs=>CV cs off g n:=by
 show(match A7 bx id with | some cs=>_ | none=>G)=_
 cases A7 bx id<;>rfl
theorem A0v{g:W}{n id i off:Y}:CO ⟨env,bx,rows⟩ g n (.v (.sc (.pe id i off)))=(A7 rows id).bind fun p=>(p.2[i]?).bind fun d=>CV (A AC.dat d) off g n:=by
 simp only[CO];cases A7 rows id with
 | none=>rfl
 | some p=>
  simp only[Jg];cases p.2[i]?<;>rfl
theorem A0u{g:W}{n:Y}{cs:O D}:CO σ g n (.v (.sc (.dat (.pd cs))))=CV (A AC.dat cs) 0 g n:=rfl
theorem tr{rs:Rows}{off id i o:Y}:CA rs off (.v (.sc (.pe id i o)))=(A7 rs id).map fun _=> .v (.sc (.pe id i (o+off))):=by
 simp only[CA];cases A7 rs id<;>rfl
theorem tq{rs:Rows}{off:Y}{cs:O D}:CA rs off (.v (.sc (.dat (.pd cs))))=(Dp off cs).map fun cs=> .v (.sc (.dat (.pd cs))):=by
 simp only[CA,LM];split<;>rfl
theorem tm{l:O V1}{i:Y}:Jx i (.tup l)=(l[i]?).map .v:=rfl
theorem A1p{id off:Y}:Fp (.v (.sc (.pb id off)))=E (.v (.sc (.pb id off))):=rfl
theorem A1q{cs:O D}:Fp (.v (.sc (.dat (.pd cs))))=E (.v (.sc (.dat (.pd cs)))):=rfl
theorem A65:A (St.val σ) []= []:=rfl
theorem A64{x:Opd}{l:O Opd}:A (St.val σ) (x::l)=σ.val x::A (St.val σ) l:=rfl
theorem A1f{f:FuncId}:Fo f []=E []:=rfl
theorem A09{f:FuncId}:Fl f []=E (.clo f []):=rfl
theorem A1a{f:FuncId}{id:Y}{r:O AV}:Fl f (.v (.sc (.pb id 0))::r)=(Fo f (.v (.sc (.pb id 0))::r)).map (.clo f):=rfl
theorem A08{f:FuncId}{d:D}{r:O AV}:Fl f (.v (.sc (.dat d))::r)=(Fm (.v (.sc (.dat d))::r)).map fun q=> .dat (.clo f q):=rfl
theorem A1d:Fm []=E []:=rfl
theorem A1c{ds:O D}{r:O AV}:Fm (.v (.sc (.dat (.pd ds)))::r)=(Fm r).map (.pd ds:: ·):=rfl
theorem A1e{f:FuncId}{id:Y}{r:O AV}:Fo f (.v (.sc (.pb id 0))::r)=(Fo f r).map (id:: ·):=rfl
def Pe(K:O AC→U (O AC))(off n:Y)(cs:O AC):AV→U (O AC)
 | .v x=>bif Dx x.cells n&&Cp cs (off+n) then K (C5 cs off x.cells) else G
 | _=>G
def FF(σ:St):O (Y × Y × Opd)→O AC→U (O AC)
 | [],cs=>E cs
 | (off,n,x)::r,cs=>Pe (FF σ r) off n cs (σ.val x)
theorem TF:∀(ps:O (Y × Y × Opd)) (cs:O AC),Dd cs (ps.map fun p=>(p.1,p.2.1,σ.val p.2.2))=FF σ ps cs
 | [],cs=>rfl
 | (off,n,x)::r,cs=>by
  simp only[List.map_cons,FF];generalize σ.val x=v
  cases v with
  | v y=>
   simp only[Dd,Pe,Wo,Of];by_cases h1:y.cells.length=n
   ·by_cases h2:off+n≤cs.length
    ·subst h1;simp only[h2,and_self,if_true,decide_true,zC,cond_true];exact TF r _
    ·simp[h1,h2]
   ·simp[h1]
  | _=>rfl
theorem ph{cs:O AC}:FF σ [] cs=E cs:=rfl
theorem pg{off n:Y}{x:Opd}{r:O (Y × Y × Opd)}{cs:O AC}:FF σ ((off,n,x)::r) cs=Pe (FF σ r) off n cs (σ.val x):=rfl
theorem pf{K:O AC→U (O AC)}{off n:Y}{cs:O AC}{x:V1}:Pe K off n cs (.v x)=bif Dx x.cells n&&Cp cs (off+n) then K (C5 cs off x.cells) else G:=rfl
theorem uy{d zs ps}:go P (.ops ((G,.build d zs ps)::its)::k) Q .normal (E σ)=go P (.ops its::k) Q .normal (AR σ d ((FF σ ps zs).map fun cs=> .v (.ag cs))):=by rw[vE,TF]
theorem A42{d zs ps}:σ.step (.build d zs ps)=AR σ d ((FF σ ps zs).map fun cs=> .v (.ag cs)):=by rw[gp,TF]
theorem A5b{n id off:Y}{y:V1}:St.storeV ⟨env,bx,rows⟩ n (.v (.sc (.pb id off))) (.v y)=(A7 bx id).bind fun cs=>bif Dx y.cells n&&Cp cs (off+n) then E ⟨env,put bx id (C5 cs off y.cells),rows⟩ else G:=by
 simp only[St.storeV,Wo,Of];cases A7 bx id with
 | none=>rfl
 | some cs=>
  simp only[Jg];by_cases h1:y.cells.length=n
  ·by_cases h2:off+n≤cs.length
   ·simp[h1,h2]
   ·simp[h1,h2]
  ·simp[h1]
def T2(sz:Y)(es:O (O D)):W:=es.all fun r=>r.length==sz
theorem A3t{α:Type}{sz:Y}{row:α→O D} [Row row sz]{xs:O α}:T2 sz (A row xs)=T:=Yo (Row.len (row:=row)) xs
theorem oc{d sz bytes id:Y}{y:AV}:St.appV ⟨env,bx,rows⟩ d sz bytes (.v (.sc (.own id))) y=bif id / 99999999999==0 then((A7 rows id).bind fun p=>(appSrc rows y).bind fun es'=>
  bif (p.1==sz)&&(T2 sz es'&&AP p.2.length es'.length bytes) then E ⟨put (env.map fun p=>(p.1,p.2.map (AC.kill id))) d (.v (.sc (.own id))),bx.map fun p=>(p.1,p.2.map (AC.kill id)),put rows id (sz,p.2++es')⟩ else G) else G:=by
 simp only[St.appV];by_cases h0:id / 99999999999=0
 rotate_left
 ·rw[if_neg h0,show(id / 99999999999==0)=F by simpa using h0];rfl
 rw[if_pos h0,show(id / 99999999999==0)=T by simpa using h0,cond_true];cases A7 rows id with
 | none=>rfl
 | some p=>
  obtain⟨a,es⟩:=p;simp only[Jg];cases appSrc rows y with
  | none=>rfl
  | some es'=>
   simp only[Jg];by_cases h1:a=sz
   ·by_cases h2:T2 sz es'=T
    ·by_cases h3:AP es.length es'.length bytes=T
     ·have h3':=of_decide_eq_true h3;rw[if_pos ⟨h1,h2,h3'.1,h3'.2⟩];simp only[h1,beq_self_eq_true,h2,h3,zC,cond_true];rfl
     ·have h3':AP es.length es'.length bytes=F:=by simpa using h3
      rw[if_neg (fun h=>h3 (decide_eq_true ⟨h.2.2.1,h.2.2.2⟩))];simp[h3']
    ·have h2':T2 sz es'=F:=by simpa using h2
     rw[if_neg (fun h=>h2 h.2.1)];simp[h2']
   ·have h1':(a==sz)=F:=by simpa using h1
    rw[if_neg (fun h=>h1 h.1)];simp[h1']
theorem A4y{rs:Rows}{es:O (O D)}:appSrc rs (.v (.sc (.dat (.sl es))))=E es:=rfl
theorem A4z{rs:Rows}:appSrc rs (.v (.sc .nil))=E []:=rfl
theorem A40{rs:Rows}{id:Y}:appSrc rs (.v (.sc (.own id)))=(A7 rs id).map fun p=>p.2:=by
 simp only[appSrc,toD0];cases A7 rs id<;>rfl
theorem A00{α:Type}{f:α→O D}{a b:O α}:A f a++A f b=A f (a++b):=List.map_append.symm
def Ey(σ:St)(n:Y):U Opd→U V
 | none=>E n
 | some x=>Cn (σ.val x)
def GN(n:Y):U V→U V→U V→U (Y × Y)
 | some m,E h,E l=>bnd m h l n
 | _,_,_=>G
theorem TG{lo hi mx:U Opd}{n:Y}:DJ σ lo hi mx n=GN n (Ey σ n mx) (Ey σ n hi) (match lo with | none=>E 0 | some x=>Cn (σ.val x)):=by
 cases mx<;>cases hi<;>cases lo<;>(simp only[DJ,GN,Ey]; first | rfl | (split<;>simp_all[GN,bnd]))
def Ov(σ:St):U Opd→U V
 | none=>E 0
 | some x=>Cn (σ.val x)
theorem A4i{α:Type}{sz:Y}{lo hi mx:U Opd}{xs:O α}{row:α→O D} [Row row sz]:DZ σ sz (.v (.sc (.dat (.sl (A row xs))))) lo hi mx=(GN xs.length (Ey σ xs.length mx) (Ey σ xs.length hi) (Ov σ lo)).map fun p=> .v (.sc (.dat (.sl (A row ((xs.drop p.1).take (p.2 - p.1)))))):=by
 have h:(A row xs).all (fun d=>d.length==sz)=T:=Yo (Row.len (row:=row)) xs;simp only[DZ,h,Row.pos row (sz:=sz),decide_true,zC,if_true,List.length_map,TG];cases lo<;>simp[Ov,List.map_drop,List.map_take]
theorem A41{lo hi:U Opd}{s:O UInt8}:GA σ (.v (.sc (.dat (.str s)))) lo hi=(GN s.length (Ey σ s.length G) (Ey σ s.length hi) (Ov σ lo)).map fun p=> .v (.sc (.dat (.str ((s.drop p.1).take (p.2 - p.1))))):=by
 simp only[GA,TG];cases lo<;>rfl
theorem A15{n:Y}:Ey σ n G=E (n:V):=rfl
theorem A16{n:Y}{x:Opd}:Ey σ n (E x)=Cn (σ.val x):=rfl
theorem A13:Ov σ G=E 0:=rfl
theorem A14{x:Opd}:Ov σ (E x)=Cn (σ.val x):=rfl
theorem oi{kd:IntKind}{i:V}:Cn (.v (.sc (.dat (.int kd i))))=E i:=rfl
theorem pk{n:Y}{m h l:V}:GN n (E m) (E h) (E l)=bnd m h l n:=rfl
theorem A5h{x y:O UInt8}:GB .add x y=bif Jj x.length y.length then E (.str (x++y)) else G:=by
 simp only[GB,Jj];by_cases h:x.length+y.length≤4611686018427387904
 ·simp[h]
 ·simp[h]
theorem xk{k:IntKind}{x y:V}:B9 .and k x y=E (.int k (Br .and k x y)):=rfl
theorem xw{k:IntKind}{x y:V}:B9 .or k x y=E (.int k (Br .or k x y)):=rfl
theorem yf{k:IntKind}{x y:V}:B9 .xor k x y=E (.int k (Br .xor k x y)):=rfl
theorem pQ:(T==T)=T:=rfl
theorem pP:(T==F)=F:=rfl
theorem pN:(F==T)=F:=rfl
theorem pM:(F==F)=T:=rfl
theorem oO{b:W}:(F&&b)=F:=rfl
end
def gE{α:Type}(k:Y):U α→O (Y × α)→O (Y × α)
 | some v,r=>(k,v)::r
 | none,r=>r
theorem A2m{α:Type}{l:O (Y × α)}:Ct l []= []:=rfl
theorem A2l{α:Type}{l:O (Y × α)}{k:Y}{ks:O Y}:Ct l (k::ks)=gE k (A7 l k) (Ct l ks):=by
 show(match A7 l k with | some v=>_ | none=>_)=_
 cases A7 l k<;>rfl
theorem A2k{α:Type}{k:Y}{v:α}{r:O (Y × α)}:gE k (E v) r=(k,v)::r:=rfl
theorem ym{env bx rows ks bs rs}:(St.mk env bx rows).kept ks bs rs=⟨Ct env ks,Ct bx bs,Ct rows rs⟩:=rfl
theorem vl{P:Program}{k:O Fr}{Q:Xl→St→Prop}{σ:St}{its:O AItem}{ks bs rs:O Y}:go P (.ops ((G,.keep ks bs rs)::its)::k) Q .normal (E σ)=go P (.ops its::k) Q .normal (E (σ.kept ks bs rs)):=Bm rfl
theorem A2n{b:W}{x y:AV}:KQ (.v (.sc (.dat (.bool b)))) x y=E (bif b then x else y):=rfl
theorem pK{g x y:W}:Jf g (.v (.sc (.dat (.bool x)))) (.v (.sc (.dat (.bool y))))=E (.v (.sc (.dat (.bool (bif g then !(x==y) else x==y))))):=rfl
theorem A1k{m:W}{k:IntKind}{x y:V}:IP m (.v (.sc (.dat (.int k x)))) (.v (.sc (.dat (.int k y))))=E (.v (.sc (.dat (.int k (bif m then(if x<y then y else x) else(if y<x then y else x)))))):=by simp[IP]
theorem A6u{k:IntKind}{x:V}:J5 .neg (.v (.sc (.dat (.int k x))))=E (.v (.sc (.dat (.int k (k.wrap (0 - x)))))):=rfl
theorem tp{rs:Rows}{off id o:Y}:CA rs off (.v (.sc (.pb id o)))=E (.v (.sc (.pb id (o+off)))):=rfl
theorem A0f{rs:Rows}{id:Y}:DT rs (.v (.sc (.own id)))=(A7 rs id).map fun p=> .v (.sc (.dat (.int .i64 p.2.length))):=by
 show(match A7 rs id with | some (_,es)=>_ | none=>_)=_
 cases A7 rs id<;>rfl
theorem xU{k:Y}:Fh k []= []:=rfl
theorem xT{k:Y}{d:DV}{ds:O DV}:Fh k (d::ds)=(k,d.av)::Fh (k+1) ds:=rfl
theorem xW{ds:O DV}:St.init ds=⟨Fh 0 ds,[],[]⟩:=rfl
theorem sY{d:D}:DV.av (.sc d)= .v (.sc (.dat d)):=rfl
theorem sX{ds:O D}:DV.av (.ag ds)= .v (.ag (ds.map .dat)):=rfl
theorem A0r{f:AC→AC}:A (V1.map f) []= []:=rfl
theorem A0q{f:AC→AC}{x:V1}{l:O V1}:A (V1.map f) (x::l)=x.map f::A (V1.map f) l:=rfl
theorem zi{f:AC→AC}:A (fun p:Y × AV=>(p.1,p.2.map f)) []= []:=rfl
theorem zg{f:AC→AC}{k:Y}{v:AV}{l:O (Y × AV)}:A (fun p:Y × AV=>(p.1,p.2.map f)) ((k,v)::l)=(k,v.map f)::A (fun p:Y × AV=>(p.1,p.2.map f)) l:=rfl
theorem pj{f:AC→AC}:A (fun p:Y × O AC=>(p.1,p.2.map f)) []= []:=rfl
theorem pi{f:AC→AC}{k:Y}{v:O AC}{l:O (Y × O AC)}:A (fun p:Y × O AC=>(p.1,p.2.map f)) ((k,v)::l)=(k,v.map f)::A (fun p:Y × O AC=>(p.1,p.2.map f)) l:=rfl
theorem qI{f:AC→AC}:A f ([]:O AC)= []:=rfl
theorem qH{f:AC→AC}{c:AC}{l:O AC}:A f (c::l)=f c::A f l:=rfl
theorem A0p{α β:Type}{f:α→β}{l:O α}:(A f l).length=l.length:=List.length_map ..
theorem qB{c:AC}:V1.cells (.sc c)= [c]:=rfl
theorem px{cs:O AC}:V1.cells (.ag cs)=cs:=rfl
theorem A01{f:AC→AC}{env bx rows}:(St.mk env bx rows).map f=⟨env.map fun p=>(p.1,p.2.map f),bx.map fun p=>(p.1,p.2.map f),rows⟩:=rfl
theorem pA{f:AC→AC}{c:AC}:AV.map f (.v (.sc c))= .v (.sc (f c)):=rfl
theorem oz{f:AC→AC}{cs:O AC}:AV.map f (.v (.ag cs))= .v (.ag (cs.map f)):=rfl
theorem pD{f:AC→AC}:AV.map f .undef= .undef:=rfl
theorem oy{f:AC→AC}:AV.map f .no= .no:=rfl
theorem pC{f:AC→AC}{l:O V1}:AV.map f (.tup l)= .tup (l.map (V1.map f)):=rfl
theorem A60{f:AC→AC}{c:AC}:V1.map f (.sc c)= .sc (f c):=rfl
theorem A6z{f:AC→AC}{cs:O AC}:V1.map f (.ag cs)= .ag (cs.map f):=rfl
theorem yr{id:Y}{d:D}:AC.kill id (.dat d)= .dat d:=rfl
theorem yx{id:Y}:AC.kill id .nil= .nil:=rfl
theorem zb{id:Y}:AC.kill id .undef= .undef:=rfl
theorem yy{id i:Y}:AC.kill id (.own i)=bif i==id then .undef else .own i:=rfl
theorem za{id i a b:Y}:AC.kill id (.osub i a b)=bif i==id then .undef else .osub i a b:=rfl
theorem yu{id i a b:Y}:AC.kill id (.pe i a b)=bif i==id then .undef else .pe i a b:=rfl
theorem yp{id i a:Y}:AC.kill id (.pb i a)= .pb i a:=rfl
theorem yq{id f:Y}{is:O Y}:AC.kill id (.clo f is)= .clo f is:=rfl
theorem uQ{id:Y}{es:O (O D)}{d:D}:AC.frz id es (.dat d)= .dat d:=rfl
theorem uT{id:Y}{es:O (O D)}:AC.frz id es .nil= .nil:=rfl
theorem uX{id:Y}{es:O (O D)}:AC.frz id es .undef= .undef:=rfl
theorem uU{id i:Y}{es:O (O D)}:AC.frz id es (.own i)=bif i==id then .dat (.sl es) else .own i:=rfl
theorem uW{id i a b:Y}{es:O (O D)}:AC.frz id es (.osub i a b)=bif i==id then .undef else .osub i a b:=rfl
theorem uR{id i a b:Y}{es:O (O D)}:AC.frz id es (.pe i a b)=bif i==id then .undef else .pe i a b:=rfl
theorem uN{id i a:Y}{es:O (O D)}:AC.frz id es (.pb i a)= .pb i a:=rfl
theorem uO{id f:Y}{es:O (O D)}{is:O Y}:AC.frz id es (.clo f is)= .clo f is:=rfl
theorem vY{P:Program}{k:O Fr}{Q:Xl→St→Prop}{σ:St}{its:O AItem}{id sz:Y}{es:O (O D)}(hf:A7 σ.rows id=E (sz,es))(H:go P (.ops its::k) Q .normal (E {(σ.map (AC.frz id es)) with rows:=erase σ.rows [id] }))(h0:(id / 99999999999==0)=T:=by rfl) :
  go P (.ops ((G,.frz id)::its)::k) Q .normal (E σ):=by
 rw[vX];simp only[St.step,hf,h0,Bool.not_true,Bool.false_eq_true,if_false];exact H
theorem NY{P:Program}{k:O Fr}{Q:Xl→St→Prop}{σ:St}{its:O AItem}{b j id sz:Y}{cs cs':O AC}(h1:σ.has id=F)(h2:A7 σ.bx b=E cs)(h3:cs[j]?=E .nil)(h4:cs.set j (.own id)=cs')
  (H:go P (.ops its::k) Q .normal (E {σ with bx:=put σ.bx b cs',rows:=put σ.rows id (sz,[]) })) (h0:(id / 99999999999==0)=T:=by rfl):go P (.ops ((G,.ownb b j id sz)::its)::k) Q .normal (E σ):=by
 rw[wC];subst h4;simp only[St.step,h1,h2,h3,h0,Bool.not_true,Bool.or_self,Bool.false_eq_true,if_false];exact H
theorem td{α:Type}{ks:O Y}:erase ([]:O (Y × α)) ks= []:=rfl
theorem te{α:Type}{k n:Y}{v:α}{r:O (Y × α)}:erase ((k,v)::r) [n]=bif k==n then erase r [n] else(k,v)::erase r [n]:=by
 by_cases h:k=n
 ·simp[erase,h]
 ·have h':(k==n)=F:=by simpa using h
  simp[erase,h,h']
theorem A3h{ts:O RV}{rs:O R1}{σ:St}:Ah ts rs .ret σ=(OutVs σ ts rs∧Ew (Dm σ ts rs)=T):=rfl
theorem A3g{ts:O RV}{rs:O R1}{σ:St}:Ah ts rs .normal σ=(OutVs σ ts rs∧Ew (Dm σ ts rs)=T):=rfl
theorem A2d{σ:St}{t:RV}{ts:O RV}{r:R1}{rs:O R1}:OutVs σ (t::ts) (r::rs)=(P2 σ.rows (KM σ t) r∧OutVs σ ts rs):=rfl
theorem A2c{σ:St}{t:RV}{ts:O RV}{r:R1}{rs:O R1}:Dm σ (t::ts) (r::rs)=WD (KM σ t) r++Dm σ ts rs:=rfl
theorem A2b{σ:St}{a n:Y}{g:W}:KM σ (.c a g n)=(CO σ g n (σ.get a)).getD .undef:=rfl
def B7:=Z @A3h (Z @A3g (Z @A2d (Z @A2c @A2b)))
set_option maxRecDepth 4000 in
def A3v:=Z @vz (Z @vu (Z @wN (Z @wJ (Z @vP (Z @vU (Z @wM (Z @vD (Z @vQ (Z @wK (Z @vK (Z @wI (Z @wH (Z @wE (Z @wG (Z @uz (Z @vC (Z @wB (Z @vO (Z @gK (Z @vh (Z @vg (Z @ve (Z @vd (Z @vb (Z @uF (Z @uE (Z @A20 (Z @A2z (Z @A62 (Z @A61 (Z @uj (Z @A4c (Z @getD_some (Z @ui (Z @map_some (Z @map_none (Z @A4k (Z @A0g (Z @A33 (Z @A32 (Z @A0d (Z @qM (Z @pS (Z @pZ (Z @xj (Z @ye (Z @xu (Z @xx (Z @xy (Z @xn (Z @xv (Z @xr (Z @xq (Z @xp (Z @xo (Z @A5i (Z @A5j (Z @A6v (Z @wy (Z @yi (Z @uB (Z @py (Z @qK (Z @qJ (Z @vt (Z @wA (Z @vo (Z @vw (Z @ux (Z @uw (Z @wT (Z @vL (Z @wO (Z @wQ (Z @vS (Z @vT (Z @vj (Z @vk (Z @vR (Z @vn (Z @wL (Z @wP (Z @vr (Z @vp (Z @wR (Z @uu (Z @vA (Z @xf (Z @xX (Z @xY (Z @xc (Z @xb (Z @B2b (Z @B2a (Z @xi (Z @xg (Z @xh (Z @xe (Z @xa (Z @xZ (Z @A3l (Z @A3m (Z @A3o (Z @qA (Z @pw (Z @A3q (Z @A3s (Z @A3r (Z @A2w (Z @A2v (Z @oZ (Z @oY (Z @pm (Z @pO (Z @qn (Z @qp (Z @qY (Z @qh (Z @qo (Z @qV (Z @qU (Z @qw (Z @qZ (Z @qr (Z @qu (Z @qb (Z @qc (Z @qe (Z @qS (Z @qf (Z @qa (Z @qg (Z @qq (Z @qt (Z @qm (Z @qi (Z @qW (Z @qT (Z @qX (Z @qk (Z @rQ (Z @rT (Z @rA (Z @rM (Z @rR (Z @qz (Z @qy (Z @ra (Z @rC (Z @rW (Z @rY (Z @rE (Z @rF (Z @rH (Z @qx (Z @rJ (Z @rD (Z @rK (Z @rV (Z @rX (Z @rP (Z @rN (Z @rd (Z @rc (Z @rh (Z @rg (Z @rf (Z @A0l (Z @A06 (Z @A05 (Z @yl (Z @yk (Z @yj (Z @A53 (Z @A6x (Z @om (Z @oo (Z @ot (Z @ou (Z @ov (Z @ol (Z @oj (Z @A1u (Z @A1v (Z @oS (Z @vW (Z @uv (Z @sN (Z @sP (Z @rx (Z @sI (Z @sO (Z @rr (Z @rq (Z @sV (Z @sA (Z @sR (Z @sT (Z @sC (Z @sD (Z @sF (Z @ro (Z @sG (Z @sB (Z @sH (Z @sQ (Z @sS (Z @sM (Z @sJ (Z @ru (Z @rp (Z @rv (Z @sL (Z @ry (Z @rz (Z @hP (Z @hZ (Z @hF (Z @hU (Z @gn (Z @gm (Z @iG (Z @gr (Z @iC (Z @iE (Z @gu (Z @gw (Z @gy (Z @gz (Z @gt (Z @hD (Z @iB (Z @iD (Z @hO (Z @hH (Z @A2m (Z @A2l (Z @A2k (Z @ym (Z @vl (Z @A2n (Z @pK (Z @A1k (Z @A6u (Z @tp (Z @A0f (Z @xU (Z @xT (Z @xW (Z @sY (Z @sX (Z @A0p (Z @qB (Z @px (Z @A01 (Z @pA (Z @oz (Z @pD (Z @pC (Z @A60 (Z @A6z (Z @yr (Z @yx (Z @zb (Z @yy (Z @za (Z @yu (Z @yp (Z @yq (Z @uQ (Z @uT (Z @uX (Z @uU (Z @uW (Z @uR (Z @uN (Z @uO (Z @td (Z @te (Z @rm (Z @rn (Z @A51 (Z @A52 (Z @A0a (Z @A0b (Z @zy (Z @zz (Z @qC (Z @A38 (Z @A4a (Z @A4b (Z @Jg (Z @pc (Z @get_map (Z @um (Z @uk (Z @rj (Z @ri (Z @wu (Z @wr (Z @A0t (Z @A0v (Z @A0u (Z @tr (Z @tq (Z @tm (Z @A1p (Z @A1q (Z @A65 (Z @A64 (Z (Z @A1f (Z @A09 (Z @A1a (Z @A08 (Z @A1d @A1c))))) (Z @A1e (Z @ph (Z @pg (Z @pf (Z @uy (Z @A42 (Z @A5b (Z @A3t (Z @oc (Z @A4y (Z @A4z (Z @A40 (Z @A00 (Z @A4i (Z @A41 (Z @A15 (Z @A16 (Z @A13 (Z @A14 (Z @oi (Z @pk (Z @A5h (Z @xk (Z @xw (Z @yf (Z @pQ (Z @pP (Z @pN (Z @pM (Z @oO (Z @SF (Z @gN (Z @YJ (Z @A21 (Z @A22 (Z @A24 (Z @A23 (Z @A0r (Z @A0q (Z @zi (Z @zg (Z @pj (Z @pi (Z @qI (Z @qH (Z @re (Z @vZ @oy))))))))))))))))))))))))))))))))))))))))))))))))))))))))))))))))))))))))))))))))))))))))))))))))))))))))))))))))))))))))))))))))))))))))))))))))))))))))))))))))))))))))))))))))))))))))))))))))))))))))))))))))))))))))))))))))))))))))))))))))))))))))))))))))))))))))))))))))))))))))))))))))))))))))))))))))))))))))))))))))))))))))))))))))))))))))))))))))))))))
theorem Da{P:Program}(hm:P.follows .mixedOrders=T){f:FuncId}{c:X0}{ts:O RV}{nt:Y}{xs:O XV}{R0 R1:AB}{r:D}{ps:O (Y × Y)}{σ:St}(he:Bf P f=E (c.strip,ts,nt))(hl:Nat.ble xs.length nt=T)(hlen:R1.length=R0.length)(hrf:r.flat=T)(hR1:Du R1)(hσ:St.initX xs R0=σ)
  (h:go P [.code c] (E2 ts r R1 ps) .normal (E σ)):Cj P f xs R0 R1 r:=kt hm he (I hl) hlen hrf hR1 (NZ (hσ▸h))
theorem Bx:Du []:=fun p hp=>by simp at hp
theorem B2{α:Type}{row:α→O D} [FlatRow row]{sz:Y}{xs:O α}{R:AB}(h:Du R):Du ((sz,A row xs)::R):=fun p hp=>by
 rcases List.mem_cons.1 hp with rfl|hp
 ·intro e he d hd;obtain⟨x,_,rfl⟩:=List.mem_map.1 he;exact FlatRow.flat x d hd
 ·exact h p hp
theorem CX:DE [] []=T:=rfl
theorem BU{α β:Type}{row:α→O D}{row':β→O D}{z:Y}{xs:O α}{ys:O β}{R R':AB}(hl:ys.length=xs.length)(h:DE R R'=T):DE ((z,A row xs)::R) ((z,A row' ys)::R')=T:=by
 simp[DE,hl,h]
theorem xd{env:O (Y × AV)}{bx:O (Y × O AC)}{rows:Rows}{d:Y}{ids:O Y}{R1:AB}{r:D}:St.instX ⟨env,bx,rows⟩ d ids R1 r=⟨put env d (.v (.sc (.dat r))),bx,CQ rows ids R1⟩:=rfl
theorem A2x{rs:Rows}{id:Y}{ids:O Y}{r:Y × O (O D)}{R:AB}:CQ rs (id::ids) (r::R)=CQ (put rs id r) ids R:=rfl
theorem A2y{rs:Rows}:CQ rs [] []=rs:=rfl
theorem YB{N:O Y}:AV.avoids N (.v (.sc .z))=T:=by simp[AV.avoids,AV.cells,V1.cells,AC.avoids,AC.uses]
theorem B6d{P:Program}{k:O Fr}{Q:Xl→St→Prop}{σ:St}{N:O Y}{d:Y}{its:O Bk}:go P (.dops ((E N,G,.zsl d)::its)::k) Q .normal (E σ)=go P (.dops its::k) Q .normal (E (σ.set d (.v (.sc .z)))):=by
 rw[BF rfl];show go P _ Q .normal (bif (((σ.less N).set d (.v (.sc .z))).get d).avoids N then E (σ.set d (((σ.less N).set d (.v (.sc .z))).get d)) else G)=_
 rw[St.get_set_same,YB];rfl
theorem ox{N:O Y}:AV.avoids N (.tup [])=T:=rfl
theorem ow{N:O Y}{x:V1}{l:O V1}:AV.avoids N (.tup (x::l))=((AV.v x).avoids N&&(AV.tup l).avoids N):=by simp[AV.avoids,AV.cells]
theorem A1h{t:TypeId}{d:D}:Gs t (.v (.sc (.dat d)))=E (.v (.sc (.dat (.ifc t d)))):=rfl
theorem A54{t u:TypeId}{zc:AC}{d:D}:KT t zc (.v (.sc (.dat (.ifc u d))))=bif u==t then E (.tup [.sc (.dat d),.sc (.dat (.bool T))]) else E (.tup [.sc zc,.sc (.dat (.bool F))]):=rfl
theorem ua{id:Y}{ds:O D}{d:D}:AC.frzb id ds (.dat d)= .dat d:=rfl
theorem uc{id:Y}{ds:O D}:AC.frzb id ds .nil= .nil:=rfl
theorem ug{id:Y}{ds:O D}:AC.frzb id ds .undef= .undef:=rfl
theorem ud{id i:Y}{ds:O D}:AC.frzb id ds (.own i)= .own i:=rfl
theorem ue{id i a b:Y}{ds:O D}:AC.frzb id ds (.osub i a b)= .osub i a b:=rfl
theorem ub{id i a b:Y}{ds:O D}:AC.frzb id ds (.pe i a b)= .pe i a b:=rfl
theorem uZ{id i a:Y}{ds:O D}:AC.frzb id ds (.pb i a)=bif i==id then .dat (.pd (ds.drop a)) else .pb i a:=rfl
theorem A3a{a b:Y}{d:D}:AC.ren a b (.dat d)= .dat d:=rfl
theorem A3c{a b:Y}:AC.ren a b .nil= .nil:=rfl
theorem A3f{a b:Y}:AC.ren a b .undef= .undef:=rfl
theorem A3d{a b i:Y}:AC.ren a b (.own i)= .own (bif i==a then b else i):=rfl
theorem A3e{a b i x y:Y}:AC.ren a b (.osub i x y)= .osub (bif i==a then b else i) x y:=rfl
theorem A3b{a b i x y:Y}:AC.ren a b (.pe i x y)= .pe (bif i==a then b else i) x y:=rfl
theorem A28{a b i x:Y}:AC.ren a b (.pb i x)= .pb i x:=rfl
theorem A1g{t:TypeId}{a b:D}:Gs t (.v (.ag [.dat a,.dat b]))=E (.v (.sc (.dat (.ifs t [a,b])))):=rfl
def FCq(P:Program)(f:FuncId)(ds:O DV)(rs:O R1):U D→Prop
 | none=>FC P f ds rs
 | some d=>KZ P f ds d
theorem FCq.none{P:Program}{f:FuncId}{ds:O DV}{rs:O R1}{pd:U D}(h:FCq P f ds rs pd)(hp:pd=G):FC P f ds rs:=by subst hp; exact h
theorem FCq.some{P:Program}{f:FuncId}{ds:O DV}{rs:O R1}{pd:U D}{d:D}(h:FCq P f ds rs pd)(hp:pd=E d):KZ P f ds d:=by subst hp; exact h
theorem A1i{t:TypeId}{id:Y}:Gs t (.v (.sc (.pb id 0)))=E (.v (.sc (.ipb t id))):=rfl
theorem yw{id i:Y}{t:TypeId}:AC.kill id (.ipb t i)= .ipb t i:=rfl
theorem uS{id i:Y}{t:TypeId}{es:O (O D)}:AC.frz id es (.ipb t i)= .ipb t i:=rfl
theorem uh{g:W}{ks:O FK}{cs ds:O AC}:Kr g ks (.v (.ag cs)) (.v (.ag ds))=(BA ks cs ds).map fun b=> .v (.sc (.dat (.bool (bif g then !b else b)))):=rfl
theorem tb:BA [] [] []=E T:=rfl
theorem ta{k:IntKind}{x y:V}{ks:O FK}{cs ds:O AC}:BA (.i::ks) (.dat (.int k x)::cs) (.dat (.int k y)::ds)=(BA ks cs ds).map fun b=>(x==y)&&b:=if_pos rfl
theorem tZ{x y:W}{ks:O FK}{cs ds:O AC}:BA (.b::ks) (.dat (.bool x)::cs) (.dat (.bool y)::ds)=(BA ks cs ds).map fun b=>(x==y)&&b:=rfl
theorem tc{x y:O UInt8}{ks:O FK}{cs ds:O AC}:BA (.s::ks) (.dat (.str x)::cs) (.dat (.str y)::ds)=(BA ks cs ds).map fun b=>(x==y)&&b:=rfl
def A3x:=Z @YB (Z @B6d (Z @ox (Z @ow (Z @xd (Z @A2x (Z @A2y (Z @vq (Z @wS (Z @hI (Z @iF (Z @qj (Z @rO (Z @sK (Z @qv (Z @rZ (Z @sU (Z @A1h (Z @A54 (Z @ua (Z @uc (Z @ug (Z @ud (Z @ue (Z @ub (Z @uZ (Z @A1i (Z @yw (Z @uS (Z @A3a (Z @A3c (Z @A3f (Z @A3d (Z @A3e (Z @A3b (Z @A28 (Z @wD (Z @vG (Z @wF (Z @vB (Z @A1g (Z @gx (Z @vf (Z @qd (Z @rG (Z @sE (Z @uh (Z @tb (Z @ta (Z @tZ @tc)))))))))))))))))))))))))))))))))))))))))))))))))
end Go.Vi
