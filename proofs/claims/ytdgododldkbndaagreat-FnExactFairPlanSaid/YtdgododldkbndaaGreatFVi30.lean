/-
The value level. No condition.
-/
import Derived.Test.YtdgododldkbndaaGreatFVi28
namespace Go.Vi
set_option linter.all false
open And renaming intro → Z
open List renaming map → A, mem_singleton → B, replicate → zB
open Bool renaming and_self → I, false_eq_true → zD, not_true → zE, true → T, false → F
open Nat renaming le_of_ble_eq_true → zA, one_pos → zC
open Option renaming some → E, none → G
open _root_ renaming List → O, Option → U, Int → V, Bool → W, Nat → Y
abbrev S(n:Y):Opd:= .t n
abbrev K(n:V):Opd:= .c (.v (.sc (.dat (.int .i64 n))))
abbrev K8(n:V):Opd:= .c (.v (.sc (.dat (.int .u8 n))))
abbrev KB(b:W):Opd:= .c (.v (.sc (.dat (.bool b))))
abbrev KS(s:O UInt8):Opd:= .c (.v (.sc (.dat (.str s))))
abbrev KN:Opd:= .c (.v (.sc .nil))
abbrev aI(n:V):AC:= .dat (.int .i64 n)
abbrev a8(n:V):AC:= .dat (.int .u8 n)
abbrev aB(b:W):AC:= .dat (.bool b)
abbrev aS(s:O UInt8):AC:= .dat (.str s)
abbrev aL(es:O (O D)):AC:= .dat (.sl es)
abbrev vc(c:AC):AV:= .v (.sc c)
abbrev va(cs:O AC):AV:= .v (.ag cs)
def rI(n:V):O D:= [.int .i64 n]
def r8(n:V):O D:= [.int .u8 n]
def rB(b:W):O D:= [.bool b]
def rS(s:O UInt8):O D:= [.str s]
def rL{α:Type}(row:α→O D)(xs:O α):O D:= [.sl (xs.map row)]
class Row {α:Type} (row:α→O D) (sz:Y):Prop where
 len:∀x,(row x).length=sz
 pos:0<sz
instance:Row rI 1:=⟨fun _=>rfl,zC⟩
instance:Row r8 1:=⟨fun _=>rfl,zC⟩
instance:Row rB 1:=⟨fun _=>rfl,zC⟩
instance:Row rS 1:=⟨fun _=>rfl,zC⟩
instance {α:Type} (row:α→O D):Row (rL row) 1:=⟨fun _=>rfl,zC⟩
theorem Yw(n:V):rI n= [.int .i64 n]:=rfl
def Zv(n:V):UInt8:=UInt8.ofNat n.toNat
theorem UB:∀{xs:O V},Dc (A r8 xs)=E (A Zv xs)
 | []=>rfl
 | n::xs=>by
  show(Dc (A r8 xs)).map _=_
  rw[UB];rfl
theorem tj(n:V):r8 n= [.int .u8 n]:=rfl
theorem tk(b:W):rB b= [.bool b]:=rfl
theorem tm(s:O UInt8):rS s= [.str s]:=rfl
theorem tl{α:Type}(row:α→O D)(xs:O α):rL row xs= [.sl (xs.map row)]:=rfl
theorem Ud{α:Type}{row:α→O D}{sz:Y}(h:∀x,(row x).length=sz)(xs:O α):(xs.map row).all (fun d=>d.length==sz)=T:=by
 simp[List.all_map,Function.comp_def,h]
@[irreducible] def bigN:Y:=1208925819614629174706176
def bnd(m h l:V)(n:Y):U (Y × Y):=if 0≤l∧l≤h∧h≤m∧m≤n then E (l.toNat,h.toNat) else G
def Br(l c:V)(bytes:Y):U Y:=if 0≤l∧l≤c∧c*bytes≤140737488355328∧c≤4611686018427387904 then E l.toNat else G
def A3(n m bytes:Y):W:=decide ((n+m)*bytes≤140737488355328∧n+m≤4611686018427387904)
def JE(n m:Y):W:=decide (n+m≤4611686018427387904)
theorem Qg{α β:Type}{f:α→β}{l:O α}{i:V}:ix (l.map f) i=(ix l i).map f:=by
 unfold ix;split<;>simp
theorem Av{α:Type}{l:O α}{i:V}{x:α}(h:ix l i=E x):l[i.toNat]?=E x:=by
 unfold ix at h;split at h
 ·exact h
 ·cases h
theorem ob{α β:Type}{o:U α}{f:α→U β}{r:β}(h:o.bind f=E r):∃a,o=E a∧f a=E r:=Option.bind_eq_some_iff.1 h
class FlatRow {α:Type} (row:α→O D):Prop where
 flat:∀x,∀d∈row x,d.flat=T
instance:FlatRow rI:=⟨fun _ d h=>by rw[B.1 h]; rfl⟩
instance:FlatRow r8:=⟨fun _ d h=>by rw[B.1 h]; rfl⟩
instance:FlatRow rB:=⟨fun _ d h=>by rw[B.1 h]; rfl⟩
instance:FlatRow rS:=⟨fun _ d h=>by rw[B.1 h]; rfl⟩
def TD:O RC→Prop
 | []=>True
 | c::cs=>c.flat∧TD cs
theorem CN{rs:O R1}{cs:O RC}(h:rs.flatMap R1.cells=cs)(hf:TD cs):CM rs:=by
 subst h;unfold CM;generalize rs.flatMap R1.cells=l at hf
 induction l with
 | nil=>intro c hc; simp at hc
 | cons a l ih=>
  intro c hc;rcases List.mem_cons.1 hc with rfl|hc
  ·exact hf.1
  ·exact ih hf.2 c hc
theorem CB{α:Type}{row:α→O D} [FlatRow row]{sz:Y}{xs:O α}:RC.flat (.o sz (A row xs)):=by
 intro r hr;obtain⟨x,_,rfl⟩:=List.mem_map.1 hr;exact FlatRow.flat x
theorem Jd{α:Type}{row:α→O D}{z:α}{zs:O D}{n:Y}(h:row z=zs):zB n zs=A row (zB n z):=by rw[List.map_replicate,h]
theorem AW{α:Type}{b:W}{x:U α}{r:α}(h:(if b=T then x else G)=E r):b=T∧x=E r:=by
 cases b
 ·rw[if_neg Bool.false_ne_true] at h; cases h
 ·exact⟨rfl,by simpa using h⟩
theorem J9{α:Type}{b:W}{x:U α}{r:α}(h:(if b=T then G else x)=E r):b=F∧x=E r:=by
 cases b
 ·exact⟨rfl,by simpa using h⟩
 ·rw[if_pos rfl] at h; cases h
theorem ic{α:Type}{b:W}{x y:U α}{r:α}(h:(if b=T then x else y)=E r):(b=T∧x=E r)∨(b=F∧y=E r):=by
 cases b with
 | true=>exact .inl ⟨rfl,h⟩
 | false=>exact .inr ⟨rfl,h⟩
section
variable {P : Program} {k : O Fr} {Q : Xm → St → Prop} {σ : St} {its : O AItem} {ds : O B0} {o : AOp} {d : Y}
theorem AM{c:Xh}(h:go P (.code c:: .code (.loop c)::k) Q .normal (E σ)):go P (.code (.loop c)::k) Q .normal (E σ):=by
 intro X hX;refine hX σ (Uq c (fun e σ' h=> ?_) h);cases e with
 | normal=>exact h X hX
 | exit id=>exact h
 | ret=>exact h
 | pan d=>exact h
theorem bH(hm:P.follows .mixedOrders=T){f:FuncId}{c:Xh}{ts:O RV}{nt:Y}{ds:O DV}{rs:O R1}{σ:St}(he:B4 P f=E (c.strip,ts,nt))(hl:Nat.ble ds.length nt=T)(hσ:St.init ds=σ)
  (h:go P [.code c] (A8 ts rs) .normal (E σ)):FC P f ds rs:=bJ hm he (zA hl) fun _=>PY (hσ▸h)
theorem bG(hm:P.follows .mixedOrders=T){f:FuncId}{c:Xh}{ts:O RV}{nt:Y}{ds:O DV}{rs:O R1}(he:B4 P f=E (c.strip,ts,nt))(hl:Nat.ble ds.length nt=T)
  (h:go P [.code c] (A8 ts rs) .normal (E (St.init ds))):FC P f ds rs:=bH hm he hl rfl h
theorem L5{sz:Y}{es:O (O D)}(hf:σ.fresh d=T):σ.make (.row d sz es)=E {(σ.set d (.v (.sc (.own (d*64))))) with rows:=put σ.rows (d*64) (sz,es)}:=by simp[St.make,hf]
theorem J2{cs:O AC}(hf:σ.fresh d=T)(hu:cs.all (fun c=> !c.uses d)=T):σ.make (.box d cs)=E {(σ.set d (.v (.sc (.pb d 0)))) with bx:=put σ.bx d cs}:=by simp only[St.make,hf,hu,I,if_true]
theorem PX{m:Mk}(ho:o.isMade=T)(hm:σ.made o=E m){σ':St}(hs:σ.make m=E σ')(H:go P (.ops its::k) Q .normal (E σ')):go P (.ops ((G,o)::its)::k) Q .normal (E σ):=by
 have hc:o.isCall=F:=by cases o<;>first | rfl | (simp[AOp.isMade] at ho; done)
 rw[B8 hc,vV ho,hm];show go P (.ops its::k) Q .normal (σ.make m)
 rw[hs];exact H
theorem nD{X:Opd}{y:V1}(hX:σ.val X= .v y)(hf:σ.fresh d=T)(hu:y.cells.all (fun c=> !c.uses d)=T)(H:go P (.ops its::k) Q .normal (E {(σ.set d (.v (.sc (.pb d 0)))) with bx:=put σ.bx d y.cells })) :
  go P (.ops ((G,.box d X)::its)::k) Q .normal (E σ):=PX rfl (by simp only[St.made,hX]) (J2 hf hu) H
theorem mh{cs:O AC}(hf:σ.fresh d=T)(hu:cs.all (fun c=> !c.uses d)=T)(H:go P (.ops its::k) Q .normal (E {(σ.set d (.v (.sc (.pb d 0)))) with bx:=put σ.bx d cs })) :
  go P (.ops ((G,.alloc d cs)::its)::k) Q .normal (E σ):=PX rfl rfl (J2 hf hu) H
theorem At{sz:Y}{zs:O D}{len:Y}{ps:O (Y × Opd)}{es:O (O D)}(hm:σ.made (.bslice d sz zs len ps)=E (.row d sz es))(hf:σ.fresh d=T)
  (H:go P (.ops its::k) Q .normal (E {(σ.set d (.v (.sc (.own (d*64))))) with rows:=put σ.rows (d*64) (sz,es) })):go P (.ops ((G,.bslice d sz zs len ps)::its)::k) Q .normal (E σ):=PX rfl hm (L5 hf) H
theorem Og{L C:Opd}{l c:V}{bytes n sz:Y}{zs:O D}{es:O (O D)}(hl:BZ (σ.val L)=E l)(hc:BZ (σ.val C)=E c)(hb:Br l c bytes=E n)(hz:zs.length=sz)(he:zB n zs=es) :
  σ.made (.mksl d sz bytes zs L C)=E (.row d sz es):=by
 unfold Br at hb
 split at hb
 ·rename_i h
  cases hb;subst he;simp only[St.made,hl,hc];rw[if_pos ⟨h.1,h.2.1,h.2.2.1,h.2.2.2,hz⟩]
 ·cases hb
theorem RO{L C:Opd}{l c:V}{bytes n sz:Y}{zs:O D}{es:O (O D)}(hl:BZ (σ.val L)=E l)(hc:BZ (σ.val C)=E c)(hb:Br l c bytes=E n)(hz:zs.length=sz)(he:zB n zs=es)(hf:σ.fresh d=T)
  (H:go P (.ops its::k) Q .normal (E {(σ.set d (.v (.sc (.own (d*64))))) with rows:=put σ.rows (d*64) (sz,es) })):go P (.ops ((G,.mksl d sz bytes zs L C)::its)::k) Q .normal (E σ):=
 PX rfl (Og hl hc hb hz he) (L5 hf) H
theorem FJ{n:Y}{N:O Y}{m:Mk}(hm:(σ.less (n::N)).made o=E m)(hv:Y0 (n::N) m=T){σ':St}(hs:σ.make m=E σ')(H:go P (.dops ds::k) Q .normal (E σ')) :
  go P (.dops ((E (n::N),G,o)::ds)::k) Q .normal (E σ):=nK hm hv hs H
theorem AS{α:Type}{env bx rows}{id sz i off n:Y}{xs:O α}{row:α→O D}{x y:α}{yv:V1}{dd:O D}(hd:yv.toDs=E dd)(hf:A1 rows id=E (sz,A row xs))
  (hx:xs[i]?=E x) (hn:dd.length=n) (ho:Nat.ble (off+n) (row x).length=T) (hy:G0 (row x) off dd=row y) (H:go P k Q .normal (E ⟨env,bx,put rows id (sz,A row (xs.set i y))⟩)) :
  go P k Q .normal (St.storeV ⟨env,bx,rows⟩ n (.v (.sc (.pe id i off))) (.v yv)):=by
 have e:St.storeV ⟨env,bx,rows⟩ n (.v (.sc (.pe id i off))) (.v yv)=E ⟨env,bx,put rows id (sz,A row (xs.set i y))⟩:=by
  simp only[St.storeV,hf,List.getElem?_map,hx,Option.map_some,hd];rw[if_pos ⟨hn,zA ho⟩,hy,List.map_set]
 rw[e];exact H
end
def DA{α:Type}:Y→O α→U (O α)
 | 0,l=>E l
 | _+1,[]=>G
 | n+1,_::l=>DA n l
def G2{α:Type}:Y→O α→U (O α)
 | 0,_=>E []
 | _+1,[]=>G
 | n+1,c::l=>(G2 n l).map (c:: ·)
def DI{α:Type}:O α→Y→W
 | [],0=>T
 | _::l,n+1=>DI l n
 | _,_=>F
def C4{α:Type}:O α→Y→W
 | _,0=>T
 | _::l,n+1=>C4 l n
 | [],_+1=>F
theorem LF{α:Type}:∀(n:Y) (l:O α),DA n l=if n≤l.length then E (l.drop n) else G
 | 0,l=>by simp[DA]
 | n+1,[]=>by simp[DA]
 | n+1,c::l=>by simp[DA,LF n l]
theorem Zq{α:Type}:∀(n:Y) (l:O α),G2 n l=if n≤l.length then E (l.take n) else G
 | 0,l=>by simp[G2]
 | n+1,[]=>by simp[G2]
 | n+1,c::l=>by simp only[G2,Zq n l]; split<;>simp_all
theorem SD{α:Type}:∀(l:O α) (n:Y),DI l n=decide (l.length=n)
 | [],0=>by simp[DI]
 | [],n+1=>by simp[DI]
 | _::l,0=>by simp[DI]
 | _::l,n+1=>by simp[DI,SD l n]
theorem Oc{α:Type}:∀(l:O α) (n:Y),C4 l n=decide (n≤l.length)
 | [],0=>by simp[C4]
 | [],n+1=>by simp[C4]
 | _::l,0=>by simp[C4]
 | _::l,n+1=>by simp[C4,Oc l n]
theorem jI{α:Type}{l:O α}:DA 0 l=E l:=by cases l<;>rfl
theorem jJ{α:Type}{n:Y}{c:α}{l:O α}:DA (n+1) (c::l)=DA n l:=rfl
theorem wH{α:Type}{l:O α}:G2 0 l=E []:=by cases l<;>rfl
theorem wI{α:Type}{n:Y}{c:α}{l:O α}:G2 (n+1) (c::l)=(G2 n l).map (c:: ·):=rfl
theorem rV{α:Type}:DI ([]:O α) 0=T:=rfl
theorem rW{α:Type}{n:Y}{c:α}{l:O α}:DI (c::l) (n+1)=DI l n:=rfl
theorem rR{α:Type}{l:O α}:C4 l 0=T:=by cases l<;>rfl
theorem rT{α:Type}{n:Y}{c:α}{l:O α}:C4 (c::l) (n+1)=C4 l n:=rfl
theorem gQ{cs:O AC}{off n:Y}:CW cs off T n=(DA off cs).bind fun l=>(G2 n l).map fun l=> .v (.ag l):=by
 simp only[CW,cond_true,LF,Zq];by_cases h:off≤cs.length
 ·rw[if_pos h];by_cases h2:off+n≤cs.length
  ·rw[if_pos h2,Option.bind_some,if_pos (by simp; omega)]; rfl
  ·rw[if_neg h2,Option.bind_some,if_neg (by simp; omega)]; rfl
 ·rw[if_neg h,if_neg (by omega)]; rfl
theorem ub{cs:O AC}:BL cs 0 []=cs:=by simp[BL]
theorem ud{c:AC}{cs ds:O AC}{n:Y}:BL (c::cs) (n+1) ds=c::BL cs n ds:=by
 simp only[BL,List.take_succ_cons,List.cons_append];rw[show n+1+ds.length=(n+ds.length)+1 by omega,List.drop_succ_cons]
theorem ue{c d:AC}{cs ds:O AC}:BL (c::cs) 0 (d::ds)=d::BL cs 0 ds:=by simp[BL]
theorem JC{α β:Type}{a:α}{f:α→U β}:(E a).bind f=f a:=rfl
theorem fv{α β:Type}{f:α→U β}:(G:U α).bind f=G:=rfl
theorem get_map{α β:Type}{f:α→β}{l:O α}{i:Y}:(A f l)[i]?=(l[i]?).map f:=List.getElem?_map
theorem mf{α:Type}{a:α}{l:O α}:(a::l)[0]?=E a:=rfl
theorem me{α:Type}{a:α}{l:O α}{n:Y}:(a::l)[n+1]?=l[n]?:=by simp
theorem jD:A AC.dat []= []:=rfl
theorem jC{d:D}{l:O D}:A AC.dat (d::l)= .dat d::A AC.dat l:=rfl
section
variable {P : Program} {k : O Fr} {Q : Xm → St → Prop} {σ : St} {its : O AItem} {env : O (Y × AV)} {bx : O (Y × O AC)} {rows : Rows}
theorem pJ{α:Type}{rs:Rows}{sz:Y}{xs:O α}{row:α→O D} [Row row sz]{kd:IntKind}{i:V}:D6 rs sz (.v (.sc (.dat (.sl (A row xs))))) (.v (.sc (.dat (.int kd i))))=(ix xs i).map fun x=> .v (.sc (.dat (.pd (row x)))):=by
 simp only[D6,Qg];cases ix xs i with
 | none=>rfl
 | some x=>simp[Row.len (row:=row) (sz:=sz),Row.pos row]
theorem pH{rs:Rows}{sz id:Y}{kd:IntKind}{i:V}:D6 rs sz (.v (.sc (.own id))) (.v (.sc (.dat (.int kd i))))=(A1 rs id).bind fun p=>(ix p.2 i).bind fun _=>bif p.1==sz then E (.v (.sc (.pe id i.toNat 0))) else G:=by
 simp only[D6];cases A1 rs id with
 | none=>rfl
 | some p=>
  obtain⟨a,es⟩:=p;simp only[JC];cases ix es i with
  | none=>rfl
  | some x=>
   by_cases h:a=sz
   ·simp[h]
   ·have h':(a==sz)=F:=by simpa using h
    simp[h,h']
theorem rq{g:W}{n id off:Y}:CQ ⟨env,bx,rows⟩ g n (.v (.sc (.pb id off)))=(A1 bx id).bind fun cs=>CW cs off g n:=by
 show(match A1 bx id with | some cs=>_ | none=>G)=_
 cases A1 bx id<;>rfl
theorem ru{g:W}{n id i off:Y}:CQ ⟨env,bx,rows⟩ g n (.v (.sc (.pe id i off)))=(A1 rows id).bind fun p=>(p.2[i]?).bind fun d=>CW (A AC.dat d) off g n:=by
 simp only[CQ];cases A1 rows id with
 | none=>rfl
 | some p=>
  simp only[JC];cases p.2[i]?<;>rfl
theorem rr{g:W}{n:Y}{cs:O D}:CQ σ g n (.v (.sc (.dat (.pd cs))))=CW (A AC.dat cs) 0 g n:=rfl
theorem lj{rs:Rows}{off id i o:Y}:CA rs off (.v (.sc (.pe id i o)))=(A1 rs id).map fun _=> .v (.sc (.pe id i (o+off))):=by
 simp only[CA];cases A1 rs id<;>rfl
theorem lh{rs:Rows}{off:Y}{cs:O D}:CA rs off (.v (.sc (.dat (.pd cs))))=(DA off cs).map fun cs=> .v (.sc (.dat (.pd cs))):=by
 simp only[CA,LF];split<;>rfl
theorem lc{l:O V1}{i:Y}:JO i (.tup l)=(l[i]?).map .v:=rfl
theorem sa{id off:Y}:FU (.v (.sc (.pb id off)))=E (.v (.sc (.pb id off))):=rfl
theorem sb{cs:O D}:FU (.v (.sc (.dat (.pd cs))))=E (.v (.sc (.dat (.pd cs)))):=rfl
theorem wz:A (St.val σ) []= []:=rfl
theorem wy{x:Opd}{l:O Opd}:A (St.val σ) (x::l)=σ.val x::A (St.val σ) l:=rfl
theorem sQ{f:FuncId}:FT f []=E []:=rfl
theorem sK{f:FuncId}:FR f []=E (.clo f []):=rfl
theorem sL{f:FuncId}{id:Y}{r:O AV}:FR f (.v (.sc (.pb id 0))::r)=(FT f (.v (.sc (.pb id 0))::r)).map (.clo f):=rfl
theorem sJ{f:FuncId}{d:D}{r:O AV}:FR f (.v (.sc (.dat d))::r)=(FS (.v (.sc (.dat d))::r)).map fun q=> .dat (.clo f q):=rfl
theorem sO:FS []=E []:=rfl
theorem sN{ds:O D}{r:O AV}:FS (.v (.sc (.dat (.pd ds)))::r)=(FS r).map (.pd ds:: ·):=rfl
theorem sP{f:FuncId}{id:Y}{r:O AV}:FT f (.v (.sc (.pb id 0))::r)=(FT f r).map (id:: ·):=rfl
def P6(K:O AC→U (O AC))(off n:Y)(cs:O AC):AV→U (O AC)
 | .v x=>bif DI x.cells n&&C4 cs (off+n) then K (BL cs off x.cells) else G
 | _=>G
def Ga(σ:St):O (Y × Y × Opd)→O AC→U (O AC)
 | [],cs=>E cs
 | (off,n,x)::r,cs=>P6 (Ga σ r) off n cs (σ.val x)
theorem Rn:∀(ps:O (Y × Y × Opd)) (cs:O AC),Dk cs (ps.map fun p=>(p.1,p.2.1,σ.val p.2.2))=Ga σ ps cs
 | [],cs=>rfl
 | (off,n,x)::r,cs=>by
  simp only[List.map_cons,Ga];generalize σ.val x=v
  cases v with
  | v y=>
   simp only[Dk,P6,SD,Oc];by_cases h1:y.cells.length=n
   ·by_cases h2:off+n≤cs.length
    ·subst h1;simp only[h2,and_self,if_true,decide_true,I,cond_true];exact Rn r _
    ·simp[h1,h2]
   ·simp[h1]
  | _=>rfl
theorem fy{cs:O AC}:Ga σ [] cs=E cs:=rfl
theorem fx{off n:Y}{x:Opd}{r:O (Y × Y × Opd)}{cs:O AC}:Ga σ ((off,n,x)::r) cs=P6 (Ga σ r) off n cs (σ.val x):=rfl
theorem fw{K:O AC→U (O AC)}{off n:Y}{cs:O AC}{x:V1}:P6 K off n cs (.v x)=bif DI x.cells n&&C4 cs (off+n) then K (BL cs off x.cells) else G:=rfl
theorem mu{d zs ps}:go P (.ops ((G,.build d zs ps)::its)::k) Q .normal (E σ)=go P (.ops its::k) Q .normal (AB σ d ((Ga σ ps zs).map fun cs=> .v (.ag cs))):=by rw[nC,Rn]
theorem vQ{d zs ps}:σ.step (.build d zs ps)=AB σ d ((Ga σ ps zs).map fun cs=> .v (.ag cs)):=by rw[Z1,Rn]
theorem vZ{n id off:Y}{y:V1}:St.storeV ⟨env,bx,rows⟩ n (.v (.sc (.pb id off))) (.v y)=(A1 bx id).bind fun cs=>bif DI y.cells n&&C4 cs (off+n) then E ⟨env,put bx id (BL cs off y.cells),rows⟩ else G:=by
 simp only[St.storeV,SD,Oc];cases A1 bx id with
 | none=>rfl
 | some cs=>
  simp only[JC];by_cases h1:y.cells.length=n
  ·by_cases h2:off+n≤cs.length
   ·simp[h1,h2]
   ·simp[h1,h2]
  ·simp[h1]
def QD(sz:Y)(es:O (O D)):W:=es.all fun r=>r.length==sz
theorem uO{α:Type}{sz:Y}{row:α→O D} [Row row sz]{xs:O α}:QD sz (A row xs)=T:=Ud (Row.len (row:=row)) xs
theorem fB{d sz bytes id:Y}{y:AV}:St.appV ⟨env,bx,rows⟩ d sz bytes (.v (.sc (.own id))) y=bif id / 99999999999==0 then((A1 rows id).bind fun p=>(appSrc rows y).bind fun es'=>
  bif (p.1==sz)&&(QD sz es'&&A3 p.2.length es'.length bytes) then E ⟨put (env.map fun p=>(p.1,p.2.map (AC.kill id))) d (.v (.sc (.own id))),bx.map fun p=>(p.1,p.2.map (AC.kill id)),put rows id (sz,p.2++es')⟩ else G) else G:=by
 simp only[St.appV];by_cases h0:id / 99999999999=0
 rotate_left
 ·rw[if_neg h0,show(id / 99999999999==0)=F by simpa using h0];rfl
 rw[if_pos h0,show(id / 99999999999==0)=T by simpa using h0,cond_true];cases A1 rows id with
 | none=>rfl
 | some p=>
  obtain⟨a,es⟩:=p;simp only[JC];cases appSrc rows y with
  | none=>rfl
  | some es'=>
   simp only[JC];by_cases h1:a=sz
   ·by_cases h2:QD sz es'=T
    ·by_cases h3:A3 es.length es'.length bytes=T
     ·have h3':=of_decide_eq_true h3;rw[if_pos ⟨h1,h2,h3'.1,h3'.2⟩];simp only[h1,beq_self_eq_true,h2,h3,I,cond_true];rfl
     ·have h3':A3 es.length es'.length bytes=F:=by simpa using h3
      rw[if_neg (fun h=>h3 (decide_eq_true ⟨h.2.2.1,h.2.2.2⟩))];simp[h3']
    ·have h2':QD sz es'=F:=by simpa using h2
     rw[if_neg (fun h=>h2 h.2.1)];simp[h2']
   ·have h1':(a==sz)=F:=by simpa using h1
    rw[if_neg (fun h=>h1 h.1)];simp[h1']
theorem vI{rs:Rows}{es:O (O D)}:appSrc rs (.v (.sc (.dat (.sl es))))=E es:=rfl
theorem vJ{rs:Rows}:appSrc rs (.v (.sc .nil))=E []:=rfl
theorem vK{rs:Rows}{id:Y}:appSrc rs (.v (.sc (.own id)))=(A1 rs id).map fun p=>p.2:=by
 simp only[appSrc,toD0];cases A1 rs id<;>rfl
theorem sB{α:Type}{f:α→O D}{a b:O α}:A f a++A f b=A f (a++b):=List.map_append.symm
def EN(σ:St)(n:Y):U Opd→U V
 | none=>E n
 | some x=>BZ (σ.val x)
def Hj(n:Y):U V→U V→U V→U (Y × Y)
 | some m,E h,E l=>bnd m h l n
 | _,_,_=>G
theorem Ro{lo hi mx:U Opd}{n:Y}:DU σ lo hi mx n=Hj n (EN σ n mx) (EN σ n hi) (match lo with | none=>E 0 | some x=>BZ (σ.val x)):=by
 cases mx<;>cases hi<;>cases lo<;>(simp only[DU,Hj,EN]; first | rfl | (split<;>simp_all[Hj,bnd]))
def Oo(σ:St):U Opd→U V
 | none=>E 0
 | some x=>BZ (σ.val x)
theorem uo{α:Type}{sz:Y}{lo hi mx:U Opd}{xs:O α}{row:α→O D} [Row row sz]:Eg σ sz (.v (.sc (.dat (.sl (A row xs))))) lo hi mx=(Hj xs.length (EN σ xs.length mx) (EN σ xs.length hi) (Oo σ lo)).map fun p=> .v (.sc (.dat (.sl (A row ((xs.drop p.1).take (p.2 - p.1)))))):=by
 have h:(A row xs).all (fun d=>d.length==sz)=T:=Ud (Row.len (row:=row)) xs;simp only[Eg,h,Row.pos row (sz:=sz),decide_true,I,if_true,List.length_map,Ro];cases lo<;>simp[Oo,List.map_drop,List.map_take]
theorem vP{lo hi:U Opd}{s:O UInt8}:H6 σ (.v (.sc (.dat (.str s)))) lo hi=(Hj s.length (EN σ s.length G) (EN σ s.length hi) (Oo σ lo)).map fun p=> .v (.sc (.dat (.str ((s.drop p.1).take (p.2 - p.1))))):=by
 simp only[H6,Ro];cases lo<;>rfl
theorem tC{n:Y}:EN σ n G=E (n:V):=rfl
theorem tD{n:Y}{x:Opd}:EN σ n (E x)=BZ (σ.val x):=rfl
theorem tA:Oo σ G=E 0:=rfl
theorem tB{x:Opd}:Oo σ (E x)=BZ (σ.val x):=rfl
theorem fE{kd:IntKind}{i:V}:BZ (.v (.sc (.dat (.int kd i))))=E i:=rfl
theorem gB{n:Y}{m h l:V}:Hj n (E m) (E h) (E l)=bnd m h l n:=rfl
theorem vh{x y:O UInt8}:H8 .add x y=bif JE x.length y.length then E (.str (x++y)) else G:=by
 simp only[H8,JE];by_cases h:x.length+y.length≤4611686018427387904
 ·simp[h]
 ·simp[h]
theorem qK{k:IntKind}{x y:V}:AT .and k x y=E (.int k (Bf .and k x y)):=rfl
theorem qT{k:IntKind}{x y:V}:AT .or k x y=E (.int k (Bf .or k x y)):=rfl
theorem qc{k:IntKind}{x y:V}:AT .xor k x y=E (.int k (Bf .xor k x y)):=rfl
theorem ff:(T==T)=T:=rfl
theorem fe:(T==F)=F:=rfl
theorem fb:(F==T)=F:=rfl
theorem fZ:(F==F)=T:=rfl
theorem eZ{b:W}:(F&&b)=F:=rfl
end
def Yl{α:Type}(k:Y):U α→O (Y × α)→O (Y × α)
 | some v,r=>(k,v)::r
 | none,r=>r
theorem tS{α:Type}{l:O (Y × α)}:Cs l []= []:=rfl
theorem tR{α:Type}{l:O (Y × α)}{k:Y}{ks:O Y}:Cs l (k::ks)=Yl k (A1 l k) (Cs l ks):=by
 show(match A1 l k with | some v=>_ | none=>_)=_
 cases A1 l k<;>rfl
theorem tQ{α:Type}{k:Y}{v:α}{r:O (Y × α)}:Yl k (E v) r=(k,v)::r:=rfl
theorem qh{env bx rows ks bs rs}:(St.mk env bx rows).kept ks bs rs=⟨Cs env ks,Cs bx bs,Cs rows rs⟩:=rfl
theorem ng{P:Program}{k:O Fr}{Q:Xm→St→Prop}{σ:St}{its:O AItem}{ks bs rs:O Y}:go P (.ops ((G,.keep ks bs rs)::its)::k) Q .normal (E σ)=go P (.ops its::k) Q .normal (E (σ.kept ks bs rs)):=B8 rfl
theorem tT{b:W}{x y:AV}:Le (.v (.sc (.dat (.bool b)))) x y=E (bif b then x else y):=rfl
theorem fY{g x y:W}:JB g (.v (.sc (.dat (.bool x)))) (.v (.sc (.dat (.bool y))))=E (.v (.sc (.dat (.bool (bif g then !(x==y) else x==y))))):=rfl
theorem sV{m:W}{k:IntKind}{x y:V}:J5 m (.v (.sc (.dat (.int k x)))) (.v (.sc (.dat (.int k y))))=E (.v (.sc (.dat (.int k (bif m then(if x<y then y else x) else(if y<x then y else x)))))):=by simp[J5]
theorem wj{k:IntKind}{x:V}:Jp .neg (.v (.sc (.dat (.int k x))))=E (.v (.sc (.dat (.int k (k.wrap (0 - x)))))):=rfl
theorem lg{rs:Rows}{off id o:Y}:CA rs off (.v (.sc (.pb id o)))=E (.v (.sc (.pb id (o+off)))):=rfl
theorem ra{rs:Rows}{id:Y}:E9 rs (.v (.sc (.own id)))=(A1 rs id).map fun p=> .v (.sc (.dat (.int .i64 p.2.length))):=by
 show(match A1 rs id with | some (_,es)=>_ | none=>_)=_
 cases A1 rs id<;>rfl
theorem pu{k:Y}:FN k []= []:=rfl
theorem pr{k:Y}{d:DV}{ds:O DV}:FN k (d::ds)=(k,d.av)::FN (k+1) ds:=rfl
theorem pw{ds:O DV}:St.init ds=⟨FN 0 ds,[],[]⟩:=rfl
theorem ju{d:D}:DV.av (.sc d)= .v (.sc (.dat d)):=rfl
theorem jr{ds:O D}:DV.av (.ag ds)= .v (.ag (ds.map .dat)):=rfl
theorem ro{f:AC→AC}:A (V1.map f) []= []:=rfl
theorem rn{f:AC→AC}{x:V1}{l:O V1}:A (V1.map f) (x::l)=x.map f::A (V1.map f) l:=rfl
theorem rA{f:AC→AC}:A (fun p:Y × AV=>(p.1,p.2.map f)) []= []:=rfl
theorem qz{f:AC→AC}{k:Y}{v:AV}{l:O (Y × AV)}:A (fun p:Y × AV=>(p.1,p.2.map f)) ((k,v)::l)=(k,v.map f)::A (fun p:Y × AV=>(p.1,p.2.map f)) l:=rfl
theorem gA{f:AC→AC}:A (fun p:Y × O AC=>(p.1,p.2.map f)) []= []:=rfl
theorem fz{f:AC→AC}{k:Y}{v:O AC}{l:O (Y × O AC)}:A (fun p:Y × O AC=>(p.1,p.2.map f)) ((k,v)::l)=(k,v.map f)::A (fun p:Y × O AC=>(p.1,p.2.map f)) l:=rfl
theorem gY{f:AC→AC}:A f ([]:O AC)= []:=rfl
theorem gX{f:AC→AC}{c:AC}{l:O AC}:A f (c::l)=f c::A f l:=rfl
theorem rl{α β:Type}{f:α→β}{l:O α}:(A f l).length=l.length:=List.length_map ..
theorem gP{c:AC}:V1.cells (.sc c)= [c]:=rfl
theorem gL{cs:O AC}:V1.cells (.ag cs)=cs:=rfl
theorem sC{f:AC→AC}{env bx rows}:(St.mk env bx rows).map f=⟨env.map fun p=>(p.1,p.2.map f),bx.map fun p=>(p.1,p.2.map f),rows⟩:=rfl
theorem fR{f:AC→AC}{c:AC}:AV.map f (.v (.sc c))= .v (.sc (f c)):=rfl
theorem fQ{f:AC→AC}{cs:O AC}:AV.map f (.v (.ag cs))= .v (.ag (cs.map f)):=rfl
theorem fT{f:AC→AC}:AV.map f .undef= .undef:=rfl
theorem fP{f:AC→AC}:AV.map f .no= .no:=rfl
theorem fS{f:AC→AC}{l:O V1}:AV.map f (.tup l)= .tup (l.map (V1.map f)):=rfl
theorem wr{f:AC→AC}{c:AC}:V1.map f (.sc c)= .sc (f c):=rfl
theorem wq{f:AC→AC}{cs:O AC}:V1.map f (.ag cs)= .ag (cs.map f):=rfl
theorem qn{id:Y}{d:D}:AC.kill id (.dat d)= .dat d:=rfl
theorem qq{id:Y}:AC.kill id .nil= .nil:=rfl
theorem qv{id:Y}:AC.kill id .undef= .undef:=rfl
theorem qr{id i:Y}:AC.kill id (.own i)=bif i==id then .undef else .own i:=rfl
theorem qu{id i a b:Y}:AC.kill id (.osub i a b)=bif i==id then .undef else .osub i a b:=rfl
theorem qo{id i a b:Y}:AC.kill id (.pe i a b)=bif i==id then .undef else .pe i a b:=rfl
theorem qk{id i a:Y}:AC.kill id (.pb i a)= .pb i a:=rfl
theorem qm{id f:Y}{is:O Y}:AC.kill id (.clo f is)= .clo f is:=rfl
theorem mM{id:Y}{es:O (O D)}{d:D}:AC.frz id es (.dat d)= .dat d:=rfl
theorem mP{id:Y}{es:O (O D)}:AC.frz id es .nil= .nil:=rfl
theorem mT{id:Y}{es:O (O D)}:AC.frz id es .undef= .undef:=rfl
theorem mQ{id i:Y}{es:O (O D)}:AC.frz id es (.own i)=bif i==id then .dat (.sl es) else .own i:=rfl
theorem mS{id i a b:Y}{es:O (O D)}:AC.frz id es (.osub i a b)=bif i==id then .undef else .osub i a b:=rfl
theorem mN{id i a b:Y}{es:O (O D)}:AC.frz id es (.pe i a b)=bif i==id then .undef else .pe i a b:=rfl
theorem mJ{id i a:Y}{es:O (O D)}:AC.frz id es (.pb i a)= .pb i a:=rfl
theorem mK{id f:Y}{es:O (O D)}{is:O Y}:AC.frz id es (.clo f is)= .clo f is:=rfl
theorem nV{P:Program}{k:O Fr}{Q:Xm→St→Prop}{σ:St}{its:O AItem}{id sz:Y}{es:O (O D)}(hf:A1 σ.rows id=E (sz,es))(H:go P (.ops its::k) Q .normal (E {(σ.map (AC.frz id es)) with rows:=erase σ.rows [id] }))(h0:(id / 99999999999==0)=T:=by rfl) :
  go P (.ops ((G,.frz id)::its)::k) Q .normal (E σ):=by
 rw[nU];simp only[St.step,hf,h0,zE,zD,if_false];exact H
theorem FL{P:Program}{k:O Fr}{Q:Xm→St→Prop}{σ:St}{its:O AItem}{b j id sz:Y}{cs cs':O AC}(h1:σ.has id=F)(h2:A1 σ.bx b=E cs)(h3:cs[j]?=E .nil)(h4:cs.set j (.own id)=cs')
  (H:go P (.ops its::k) Q .normal (E {σ with bx:=put σ.bx b cs',rows:=put σ.rows id (sz,[]) })) (h0:(id / 99999999999==0)=T:=by rfl):go P (.ops ((G,.ownb b j id sz)::its)::k) Q .normal (E σ):=by
 rw[ny];subst h4;simp only[St.step,h1,h2,h3,h0,zE,Bool.or_self,zD,if_false];exact H
theorem lS{α:Type}{ks:O Y}:erase ([]:O (Y × α)) ks= []:=rfl
theorem lT{α:Type}{k n:Y}{v:α}{r:O (Y × α)}:erase ((k,v)::r) [n]=bif k==n then erase r [n] else(k,v)::erase r [n]:=by
 by_cases h:k=n
 ·simp[erase,h]
 ·have h':(k==n)=F:=by simpa using h
  simp[erase,h,h']
theorem uE{ts:O RV}{rs:O R1}{σ:St}:A8 ts rs .ret σ=(OutVs σ ts rs∧EL (Du σ ts rs)=T):=rfl
theorem uD{ts:O RV}{rs:O R1}{σ:St}:A8 ts rs .normal σ=(OutVs σ ts rs∧EL (Du σ ts rs)=T):=rfl
theorem tJ{σ:St}{t:RV}{ts:O RV}{r:R1}{rs:O R1}:OutVs σ (t::ts) (r::rs)=(OV σ.rows (La σ t) r∧OutVs σ ts rs):=rfl
theorem tI{σ:St}{t:RV}{ts:O RV}{r:R1}{rs:O R1}:Du σ (t::ts) (r::rs)=SQ (La σ t) r++Du σ ts rs:=rfl
theorem tH{σ:St}{a n:Y}{g:W}:La σ (.c a g n)=(CQ σ g n (σ.get a)).getD .undef:=rfl
def H4:=Z @uE (Z @uD (Z @tJ (Z @tI @tH)))
set_option maxRecDepth 4000 in
def uQ:=Z @nv (Z @nr (Z @oL (Z @oF (Z @nM (Z @nR (Z @oK (Z @nB (Z @nN (Z @oI (Z @nG (Z @oE (Z @oD (Z @oA (Z @oC (Z @mw (Z @nA (Z @nx (Z @nL (Z @Yt (Z @nc (Z @nb (Z @nZ (Z @nY (Z @nX (Z @mD (Z @mC (Z @ti (Z @th (Z @ww (Z @wu (Z @md (Z @ug (Z @getD_some (Z @getD_none (Z @map_some (Z @map_none (Z @ur (Z @rc (Z @uX (Z @uW (Z @rY (Z @ge (Z @fj (Z @ft (Z @qJ (Z @qb (Z @qR (Z @qU (Z @qV (Z @qM (Z @qS (Z @qQ (Z @qP (Z @qO (Z @qN (Z @vj (Z @vk (Z @wk (Z @pO (Z @qd (Z @lz (Z @gM (Z @ga (Z @gZ (Z @nq (Z @nw (Z @ni (Z @nu (Z @mr (Z @mq (Z @oR (Z @nH (Z @oM (Z @oO (Z @nP (Z @nQ (Z @nd (Z @nf (Z @nO (Z @nh (Z @oJ (Z @oN (Z @nl (Z @nj (Z @oP (Z @mn (Z @my (Z @qF (Z @px (Z @py (Z @qC (Z @qB (Z @zb (Z @za (Z @qI (Z @qG (Z @qH (Z @qE (Z @qA (Z @pz (Z @uG (Z @uH (Z @uJ (Z @gO (Z @gK (Z @uL (Z @uN (Z @uM (Z @td (Z @tc (Z @fA (Z @ey (Z @gC (Z @fc (Z @iE (Z @iG (Z @gx (Z @hZ (Z @iF (Z @gt (Z @gp (Z @iM (Z @gy (Z @iI (Z @iK (Z @hD (Z @hH (Z @hO (Z @gm (Z @hP (Z @gz (Z @hU (Z @iH (Z @iJ (Z @iD (Z @iA (Z @gu (Z @gn (Z @gw (Z @iC (Z @ij (Z @il (Z @iQ (Z @iZ (Z @ik (Z @iP (Z @iO (Z @iu (Z @iR (Z @io (Z @iq (Z @iT (Z @iU (Z @iW (Z @iN (Z @iX (Z @iS (Z @iY (Z @im (Z @ip (Z @ii (Z @ib (Z @iw (Z @iv (Z @jB (Z @jA (Z @iz (Z @rh (Z @sH (Z @sG (Z @qg (Z @qf (Z @qe (Z @wJ (Z @wn (Z @fH (Z @fI (Z @fK (Z @fL (Z @fM (Z @fG (Z @fF (Z @si (Z @sj (Z @ei (Z @nT (Z @mp (Z @jg (Z @ji (Z @jQ (Z @jb (Z @jh (Z @jN (Z @jM (Z @jp (Z @jT (Z @jk (Z @jm (Z @jV (Z @jW (Z @jY (Z @jK (Z @jZ (Z @jU (Z @ja (Z @jj (Z @jl (Z @jf (Z @jc (Z @jO (Z @jL (Z @jP (Z @je (Z @jR (Z @jS (Z @Ze (Z @Zg (Z @Za (Z @Zf (Z @Z0 (Z @YZ (Z @Zn (Z @Z2 (Z @Zj (Z @Zl (Z @Z4 (Z @Z5 (Z @Z7 (Z @Z8 (Z @Z3 (Z @Z9 (Z @Zi (Z @Zk (Z @Zd (Z @Zb (Z @tS (Z @tR (Z @tQ (Z @qh (Z @ng (Z @tT (Z @fY (Z @sV (Z @wj (Z @lg (Z @ra (Z @pu (Z @pr (Z @pw (Z @ju (Z @jr (Z @rl (Z @gP (Z @gL (Z @sC (Z @fR (Z @fQ (Z @fT (Z @fS (Z @wr (Z @wq (Z @qn (Z @qq (Z @qv (Z @qr (Z @qu (Z @qo (Z @qk (Z @qm (Z @mM (Z @mP (Z @mT (Z @mQ (Z @mS (Z @mN (Z @mJ (Z @mK (Z @lS (Z @lT (Z @jI (Z @jJ (Z @wH (Z @wI (Z @rV (Z @rW (Z @rR (Z @rT (Z @gQ (Z @ub (Z @ud (Z @ue (Z @JC (Z @fv (Z @get_map (Z @mf (Z @me (Z @jD (Z @jC (Z @pJ (Z @pH (Z @rq (Z @ru (Z @rr (Z @lj (Z @lh (Z @lc (Z @sa (Z @sb (Z @wz (Z @wy (Z (Z @sQ (Z @sK (Z @sL (Z @sJ (Z @sO @sN))))) (Z @sP (Z @fy (Z @fx (Z @fw (Z @mu (Z @vQ (Z @vZ (Z @uO (Z @fB (Z @vI (Z @vJ (Z @vK (Z @sB (Z @uo (Z @vP (Z @tC (Z @tD (Z @tA (Z @tB (Z @fE (Z @gB (Z @vh (Z @qK (Z @qT (Z @qc (Z @ff (Z @fe (Z @fb (Z @fZ (Z @eZ (Z @Qg (Z @Yw (Z @UB (Z @tj (Z @tk (Z @tm (Z @tl (Z @ro (Z @rn (Z @rA (Z @qz (Z @gA (Z @fz (Z @gY (Z @gX (Z @iy (Z @nW @fP))))))))))))))))))))))))))))))))))))))))))))))))))))))))))))))))))))))))))))))))))))))))))))))))))))))))))))))))))))))))))))))))))))))))))))))))))))))))))))))))))))))))))))))))))))))))))))))))))))))))))))))))))))))))))))))))))))))))))))))))))))))))))))))))))))))))))))))))))))))))))))))))))))))))))))))))))))))))))))))))))))))))))))))))))))))))))))))))))))))
theorem Dx{P:Program}(hm:P.follows .mixedOrders=T){f:FuncId}{c:Xh}{ts:O RV}{nt:Y}{xs:O XV}{R0 R1:Ap}{r:D}{ps:O (Y × Y)}{σ:St}(he:B4 P f=E (c.strip,ts,nt))(hl:Nat.ble xs.length nt=T)(hlen:R1.length=R0.length)(hrf:r.flat=T)(hR1:DG R1)(hσ:St.initX xs R0=σ)
  (h:go P [.code c] (Ej ts r R1 ps) .normal (E σ)):Cv P f xs R0 R1 r:=bM hm he (zA hl) hlen hrf hR1 (PY (hσ▸h))
theorem BA:DG []:=fun p hp=>by simp at hp
theorem AR{α:Type}{row:α→O D} [FlatRow row]{sz:Y}{xs:O α}{R:Ap}(h:DG R):DG ((sz,A row xs)::R):=fun p hp=>by
 rcases List.mem_cons.1 hp with rfl|hp
 ·intro e he d hd;obtain⟨x,_,rfl⟩:=List.mem_map.1 he;exact FlatRow.flat x d hd
 ·exact h p hp
theorem Dv:DO [] []=T:=rfl
theorem C8{α β:Type}{row:α→O D}{row':β→O D}{z:Y}{xs:O α}{ys:O β}{R R':Ap}(hl:ys.length=xs.length)(h:DO R R'=T):DO ((z,A row xs)::R) ((z,A row' ys)::R')=T:=by
 simp[DO,hl,h]
theorem qD{env:O (Y × AV)}{bx:O (Y × O AC)}{rows:Rows}{d:Y}{ids:O Y}{R1:Ap}{r:D}:St.instX ⟨env,bx,rows⟩ d ids R1 r=⟨put env d (.v (.sc (.dat r))),bx,CR rows ids R1⟩:=rfl
theorem te{rs:Rows}{id:Y}{ids:O Y}{r:Y × O (O D)}{R:Ap}:CR rs (id::ids) (r::R)=CR (put rs id r) ids R:=rfl
theorem tf{rs:Rows}:CR rs [] []=rs:=rfl
theorem Up{N:O Y}:AV.avoids N (.v (.sc .z))=T:=by simp[AV.avoids,AV.cells,V1.cells,AC.avoids,AC.uses]
theorem A5m{P:Program}{k:O Fr}{Q:Xm→St→Prop}{σ:St}{N:O Y}{d:Y}{its:O B0}:go P (.dops ((E N,G,.zsl d)::its)::k) Q .normal (E σ)=go P (.dops its::k) Q .normal (E (σ.set d (.v (.sc .z)))):=by
 rw[Bw rfl];show go P _ Q .normal (bif (((σ.less N).set d (.v (.sc .z))).get d).avoids N then E (σ.set d (((σ.less N).set d (.v (.sc .z))).get d)) else G)=_
 rw[St.get_set_same,Up];rfl
theorem fO{N:O Y}:AV.avoids N (.tup [])=T:=rfl
theorem fN{N:O Y}{x:V1}{l:O V1}:AV.avoids N (.tup (x::l))=((AV.v x).avoids N&&(AV.tup l).avoids N):=by simp[AV.avoids,AV.cells]
theorem sS{t:TypeId}{d:D}:GZ t (.v (.sc (.dat d)))=E (.v (.sc (.dat (.ifc t d)))):=rfl
theorem wK{t u:TypeId}{zc:AC}{d:D}:Li t zc (.v (.sc (.dat (.ifc u d))))=bif u==t then E (.tup [.sc (.dat d),.sc (.dat (.bool T))]) else E (.tup [.sc zc,.sc (.dat (.bool F))]):=rfl
theorem mW{id:Y}{ds:O D}{d:D}:AC.frzb id ds (.dat d)= .dat d:=rfl
theorem mY{id:Y}{ds:O D}:AC.frzb id ds .nil= .nil:=rfl
theorem mb{id:Y}{ds:O D}:AC.frzb id ds .undef= .undef:=rfl
theorem mZ{id i:Y}{ds:O D}:AC.frzb id ds (.own i)= .own i:=rfl
theorem ma{id i a b:Y}{ds:O D}:AC.frzb id ds (.osub i a b)= .osub i a b:=rfl
theorem mX{id i a b:Y}{ds:O D}:AC.frzb id ds (.pe i a b)= .pe i a b:=rfl
theorem mV{id i a:Y}{ds:O D}:AC.frzb id ds (.pb i a)=bif i==id then .dat (.pd (ds.drop a)) else .pb i a:=rfl
theorem tv{a b:Y}{d:D}:AC.ren a b (.dat d)= .dat d:=rfl
theorem tx{a b:Y}:AC.ren a b .nil= .nil:=rfl
theorem uB{a b:Y}:AC.ren a b .undef= .undef:=rfl
theorem tz{a b i:Y}:AC.ren a b (.own i)= .own (bif i==a then b else i):=rfl
theorem uA{a b i x y:Y}:AC.ren a b (.osub i x y)= .osub (bif i==a then b else i) x y:=rfl
theorem tw{a b i x y:Y}:AC.ren a b (.pe i x y)= .pe (bif i==a then b else i) x y:=rfl
theorem tr{a b i x:Y}:AC.ren a b (.pb i x)= .pb i x:=rfl
theorem oH{P:Program}{k:O Fr}{Q:Xm→St→Prop}{σ:St}{its:O AItem}{a b:Y}{r:Y × O (O D)}(h1:σ.has b=F)(hf:A1 σ.rows a=E r)(H:go P (.ops its::k) Q .normal (E {(σ.map (AC.ren a b)) with rows:=put (erase σ.rows [a]) b r }))
  (h0:(a / 99999999999==0)=T:=by rfl) (h2:(b / 99999999999==0)=T:=by rfl):go P (.ops ((G,.ren a b)::its)::k) Q .normal (E σ):=by
 rw[oG];simp only[St.step,h1,hf,h0,h2,I,zE,Bool.or_self,zD,if_false];exact H
theorem sR{t:TypeId}{a b:D}:GZ t (.v (.ag [.dat a,.dat b]))=E (.v (.sc (.dat (.ifs t [a,b])))):=rfl
def FCq(P:Program)(f:FuncId)(ds:O DV)(rs:O R1):U D→Prop
 | none=>FC P f ds rs
 | some d=>Lp P f ds d
theorem FCq.none{P:Program}{f:FuncId}{ds:O DV}{rs:O R1}{pd:U D}(h:FCq P f ds rs pd)(hp:pd=G):FC P f ds rs:=by subst hp; exact h
theorem FCq.some{P:Program}{f:FuncId}{ds:O DV}{rs:O R1}{pd:U D}{d:D}(h:FCq P f ds rs pd)(hp:pd=E d):Lp P f ds d:=by subst hp; exact h
theorem sT{t:TypeId}{id:Y}:GZ t (.v (.sc (.pb id 0)))=E (.v (.sc (.ipb t id))):=rfl
theorem qp{id i:Y}{t:TypeId}:AC.kill id (.ipb t i)= .ipb t i:=rfl
theorem mO{id i:Y}{t:TypeId}{es:O (O D)}:AC.frz id es (.ipb t i)= .ipb t i:=rfl
theorem mc{g:W}{ks:O FK}{cs ds:O AC}:KQ g ks (.v (.ag cs)) (.v (.ag ds))=(Bp ks cs ds).map fun b=> .v (.sc (.dat (.bool (bif g then !b else b)))):=rfl
theorem lQ:Bp [] [] []=E T:=rfl
theorem lP{k:IntKind}{x y:V}{ks:O FK}{cs ds:O AC}:Bp (.i::ks) (.dat (.int k x)::cs) (.dat (.int k y)::ds)=(Bp ks cs ds).map fun b=>(x==y)&&b:=if_pos rfl
theorem lO{x y:W}{ks:O FK}{cs ds:O AC}:Bp (.b::ks) (.dat (.bool x)::cs) (.dat (.bool y)::ds)=(Bp ks cs ds).map fun b=>(x==y)&&b:=rfl
theorem lR{x y:O UInt8}{ks:O FK}{cs ds:O AC}:Bp (.s::ks) (.dat (.str x)::cs) (.dat (.str y)::ds)=(Bp ks cs ds).map fun b=>(x==y)&&b:=rfl
def uS:=Z @Up (Z @A5m (Z @fO (Z @fN (Z @qD (Z @te (Z @tf (Z @nk (Z @oQ (Z @Zc (Z @Zm (Z @iB (Z @ig (Z @jd (Z @iL (Z @ir (Z @jo (Z @sS (Z @wK (Z @mW (Z @mY (Z @mb (Z @mZ (Z @ma (Z @mX (Z @mV (Z @sT (Z @qp (Z @mO (Z @tv (Z @tx (Z @uB (Z @tz (Z @uA (Z @tw (Z @tr (Z @nz (Z @nE (Z @oB (Z @mz (Z @sR (Z @Z6 (Z @na (Z @hI (Z @iV (Z @jX (Z @mc (Z @lQ (Z @lP (Z @lO @lR)))))))))))))))))))))))))))))))))))))))))))))))))
end Go.Vi
