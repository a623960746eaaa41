/-
The value level. No condition.
-/
import Derived.Test.YtpigjggbnclpbaaGreatOVi28
namespace Go.Vi
set_option linter.all false
open And renaming intro → Z
open List renaming map → A, mem_singleton → B, replicate → zB
open Bool renaming and_self → I, false_eq_true → zD, not_true → zE, true → T, false → F
open Nat renaming le_of_ble_eq_true → zA, one_pos → zC
open Option renaming some → E, none → G
open _root_ renaming List → O, Option → U, Int → V, Bool → W, Nat → Y
abbrev S(n:Y):Opd:= .t n
abbrev K(n:V):Opd:= .c (.v (.sc (.dat (.int .i64 n))))
abbrev K8(n:V):Opd:= .c (.v (.sc (.dat (.int .u8 n))))
abbrev KB(b:W):Opd:= .c (.v (.sc (.dat (.bool b))))
abbrev KS(s:O UInt8):Opd:= .c (.v (.sc (.dat (.str s))))
abbrev KN:Opd:= .c (.v (.sc .nil))
abbrev aI(n:V):AC:= .dat (.int .i64 n)
abbrev a8(n:V):AC:= .dat (.int .u8 n)
abbrev aB(b:W):AC:= .dat (.bool b)
abbrev aS(s:O UInt8):AC:= .dat (.str s)
abbrev aL(es:O (O D)):AC:= .dat (.sl es)
abbrev vc(c:AC):AV:= .v (.sc c)
abbrev va(cs:O AC):AV:= .v (.ag cs)
def rI(n:V):O D:= [.int .i64 n]
def r8(n:V):O D:= [.int .u8 n]
def rB(b:W):O D:= [.bool b]
def rS(s:O UInt8):O D:= [.str s]
def rL{α:Type}(row:α→O D)(xs:O α):O D:= [.sl (xs.map row)]
class Row {α:Type} (row:α→O D) (sz:Y):Prop where
 len:∀x,(row x).length=sz
 pos:0<sz
instance:Row rI 1:=⟨fun _=>rfl,zC⟩
instance:Row r8 1:=⟨fun _=>rfl,zC⟩
instance:Row rB 1:=⟨fun _=>rfl,zC⟩
instance:Row rS 1:=⟨fun _=>rfl,zC⟩
instance {α:Type} (row:α→O D):Row (rL row) 1:=⟨fun _=>rfl,zC⟩
theorem Uk(n:V):rI n= [.int .i64 n]:=rfl
def Vp(n:V):UInt8:=UInt8.ofNat n.toNat
theorem Rb:∀{xs:O V},Cy (A r8 xs)=E (A Vp xs)
 | []=>rfl
 | n::xs=>by
  show(Cy (A r8 xs)).map _=_
  rw[Rb];rfl
theorem mq(n:V):r8 n= [.int .u8 n]:=rfl
theorem mr(b:W):rB b= [.bool b]:=rfl
theorem mw(s:O UInt8):rS s= [.str s]:=rfl
theorem mu{α:Type}(row:α→O D)(xs:O α):rL row xs= [.sl (xs.map row)]:=rfl
theorem QR{α:Type}{row:α→O D}{sz:Y}(h:∀x,(row x).length=sz)(xs:O α):(xs.map row).all (fun d=>d.length==sz)=T:=by
 simp[List.all_map,Function.comp_def,h]
@[irreducible] def bigN:Y:=1208925819614629174706176
def bnd(m h l:V)(n:Y):U (Y × Y):=if 0≤l∧l≤h∧h≤m∧m≤n then E (l.toNat,h.toNat) else G
def Ck(l c:V)(bytes:Y):U Y:=if 0≤l∧l≤c∧c*bytes≤140737488355328∧c≤4611686018427387904 then E l.toNat else G
def A4(n m bytes:Y):W:=decide ((n+m)*bytes≤140737488355328∧n+m≤4611686018427387904)
def DO(n m:Y):W:=decide (n+m≤4611686018427387904)
theorem Nj{α β:Type}{f:α→β}{l:O α}{i:V}:ix (l.map f) i=(ix l i).map f:=by
 unfold ix;split<;>simp
theorem Ay{α:Type}{l:O α}{i:V}{x:α}(h:ix l i=E x):l[i.toNat]?=E x:=by
 unfold ix at h;split at h
 ·exact h
 ·cases h
theorem ob{α β:Type}{o:U α}{f:α→U β}{r:β}(h:o.bind f=E r):∃a,o=E a∧f a=E r:=Option.bind_eq_some_iff.1 h
class FlatRow {α:Type} (row:α→O D):Prop where
 flat:∀x,∀d∈row x,d.flat=T
instance:FlatRow rI:=⟨fun _ d h=>by rw[B.1 h]; rfl⟩
instance:FlatRow r8:=⟨fun _ d h=>by rw[B.1 h]; rfl⟩
instance:FlatRow rB:=⟨fun _ d h=>by rw[B.1 h]; rfl⟩
instance:FlatRow rS:=⟨fun _ d h=>by rw[B.1 h]; rfl⟩
def Qw:O RC→Prop
 | []=>True
 | c::cs=>c.flat∧Qw cs
theorem BL{rs:O R1}{cs:O RC}(h:rs.flatMap R1.cells=cs)(hf:Qw cs):C7 rs:=by
 subst h;unfold C7;generalize rs.flatMap R1.cells=l at hf
 induction l with
 | nil=>intro c hc; simp at hc
 | cons a l ih=>
  intro c hc;rcases List.mem_cons.1 hc with rfl|hc
  ·exact hf.1
  ·exact ih hf.2 c hc
theorem AM{α:Type}{row:α→O D} [FlatRow row]{sz:Y}{xs:O α}:RC.flat (.o sz (A row xs)):=by
 intro r hr;obtain⟨x,_,rfl⟩:=List.mem_map.1 hr;exact FlatRow.flat x
theorem nK{α:Type}{row:α→O D}{z:α}{zs:O D}{n:Y}(h:row z=zs):zB n zs=A row (zB n z):=by rw[List.map_replicate,h]
theorem Bv{α:Type}{b:W}{x:U α}{r:α}(h:(if b=T then x else G)=E r):b=T∧x=E r:=by
 cases b
 ·rw[if_neg Bool.false_ne_true] at h; cases h
 ·exact⟨rfl,by simpa using h⟩
theorem ly{α:Type}{b:W}{x:U α}{r:α}(h:(if b=T then G else x)=E r):b=F∧x=E r:=by
 cases b
 ·exact⟨rfl,by simpa using h⟩
 ·rw[if_pos rfl] at h; cases h
theorem ic{α:Type}{b:W}{x y:U α}{r:α}(h:(if b=T then x else y)=E r):(b=T∧x=E r)∨(b=F∧y=E r):=by
 cases b with
 | true=>exact .inl ⟨rfl,h⟩
 | false=>exact .inr ⟨rfl,h⟩
section
variable {P : Program} {k : O Fr} {Q : Xg → St → Prop} {σ : St} {its : O AItem} {ds : O AO} {o : AOp} {d : Y}
theorem AR{c:Xd}(h:go P (.code c:: .code (.loop c)::k) Q .normal (E σ)):go P (.code (.loop c)::k) Q .normal (E σ):=by
 intro X hX;refine hX σ (R6 c (fun e σ' h=> ?_) h);cases e with
 | normal=>exact h X hX
 | exit id=>exact h
 | ret=>exact h
 | pan d=>exact h
theorem Wq(hm:P.follows .mixedOrders=T){f:FuncId}{c:Xd}{ts:O RV}{nt:Y}{ds:O DV}{rs:O R1}{σ:St}(he:AB P f=E (c.strip,ts,nt))(hl:Nat.ble ds.length nt=T)(hσ:St.init ds=σ)
  (h:go P [.code c] (Ac ts rs) .normal (E σ)):FC P f ds rs:=Ws hm he (zA hl) fun _=>H2 (hσ▸h)
theorem Wp(hm:P.follows .mixedOrders=T){f:FuncId}{c:Xd}{ts:O RV}{nt:Y}{ds:O DV}{rs:O R1}(he:AB P f=E (c.strip,ts,nt))(hl:Nat.ble ds.length nt=T)
  (h:go P [.code c] (Ac ts rs) .normal (E (St.init ds))):FC P f ds rs:=Wq hm he hl rfl h
theorem TH{sz:Y}{es:O (O D)}(hf:σ.fresh d=T):σ.make (.row d sz es)=E {(σ.set d (.v (.sc (.own (d*64))))) with rows:=put σ.rows (d*64) (sz,es)}:=by simp[St.make,hf]
theorem Pv{cs:O AC}(hf:σ.fresh d=T)(hu:cs.all (fun c=> !c.uses d)=T):σ.make (.box d cs)=E {(σ.set d (.v (.sc (.pb d 0)))) with bx:=put σ.bx d cs}:=by simp only[St.make,hf,hu,I,if_true]
theorem N2{m:Mk}(ho:o.isMade=T)(hm:σ.made o=E m){σ':St}(hs:σ.make m=E σ')(H:go P (.ops its::k) Q .normal (E σ')):go P (.ops ((G,o)::its)::k) Q .normal (E σ):=by
 have hc:o.isCall=F:=by cases o<;>first | rfl | (simp[AOp.isMade] at ho; done)
 rw[AX hc,oY ho,hm];show go P (.ops its::k) Q .normal (σ.make m)
 rw[hs];exact H
theorem fG{X:Opd}{y:V1}(hX:σ.val X= .v y)(hf:σ.fresh d=T)(hu:y.cells.all (fun c=> !c.uses d)=T)(H:go P (.ops its::k) Q .normal (E {(σ.set d (.v (.sc (.pb d 0)))) with bx:=put σ.bx d y.cells })) :
  go P (.ops ((G,.box d X)::its)::k) Q .normal (E σ):=N2 rfl (by simp only[St.made,hX]) (Pv hf hu) H
theorem ep{cs:O AC}(hf:σ.fresh d=T)(hu:cs.all (fun c=> !c.uses d)=T)(H:go P (.ops its::k) Q .normal (E {(σ.set d (.v (.sc (.pb d 0)))) with bx:=put σ.bx d cs })) :
  go P (.ops ((G,.alloc d cs)::its)::k) Q .normal (E σ):=N2 rfl rfl (Pv hf hu) H
theorem As{sz:Y}{zs:O D}{len:Y}{ps:O (Y × Opd)}{es:O (O D)}(hm:σ.made (.bslice d sz zs len ps)=E (.row d sz es))(hf:σ.fresh d=T)
  (H:go P (.ops its::k) Q .normal (E {(σ.set d (.v (.sc (.own (d*64))))) with rows:=put σ.rows (d*64) (sz,es) })):go P (.ops ((G,.bslice d sz zs len ps)::its)::k) Q .normal (E σ):=N2 rfl hm (TH hf) H
theorem lC{L C:Opd}{l c:V}{bytes n sz:Y}{zs:O D}{es:O (O D)}(hl:BD (σ.val L)=E l)(hc:BD (σ.val C)=E c)(hb:Ck l c bytes=E n)(hz:zs.length=sz)(he:zB n zs=es) :
  σ.made (.mksl d sz bytes zs L C)=E (.row d sz es):=by
 unfold Ck at hb
 split at hb
 ·rename_i h
  cases hb;subst he;simp only[St.made,hl,hc];rw[if_pos ⟨h.1,h.2.1,h.2.2.1,h.2.2.2,hz⟩]
 ·cases hb
theorem gA{L C:Opd}{l c:V}{bytes n sz:Y}{zs:O D}{es:O (O D)}(hl:BD (σ.val L)=E l)(hc:BD (σ.val C)=E c)(hb:Ck l c bytes=E n)(hz:zs.length=sz)(he:zB n zs=es)(hf:σ.fresh d=T)
  (H:go P (.ops its::k) Q .normal (E {(σ.set d (.v (.sc (.own (d*64))))) with rows:=put σ.rows (d*64) (sz,es) })):go P (.ops ((G,.mksl d sz bytes zs L C)::its)::k) Q .normal (E σ):=
 N2 rfl (lC hl hc hb hz he) (TH hf) H
theorem fx{n:Y}{N:O Y}{m:Mk}(hm:(σ.less (n::N)).made o=E m)(hv:TO (n::N) m=T){σ':St}(hs:σ.make m=E σ')(H:go P (.dops ds::k) Q .normal (E σ')) :
  go P (.dops ((E (n::N),G,o)::ds)::k) Q .normal (E σ):=fS hm hv hs H
theorem B1{α:Type}{env bx rows}{id sz i off n:Y}{xs:O α}{row:α→O D}{x y:α}{yv:V1}{dd:O D}(hd:yv.toDs=E dd)(hf:A1 rows id=E (sz,A row xs))
  (hx:xs[i]?=E x) (hn:dd.length=n) (ho:Nat.ble (off+n) (row x).length=T) (hy:Ew (row x) off dd=row y) (H:go P k Q .normal (E ⟨env,bx,put rows id (sz,A row (xs.set i y))⟩)) :
  go P k Q .normal (St.storeV ⟨env,bx,rows⟩ n (.v (.sc (.pe id i off))) (.v yv)):=by
 have e:St.storeV ⟨env,bx,rows⟩ n (.v (.sc (.pe id i off))) (.v yv)=E ⟨env,bx,put rows id (sz,A row (xs.set i y))⟩:=by
  simp only[St.storeV,hf,List.getElem?_map,hx,Option.map_some,hd];rw[if_pos ⟨hn,zA ho⟩,hy,List.map_set]
 rw[e];exact H
end
def CK{α:Type}:Y→O α→U (O α)
 | 0,l=>E l
 | _+1,[]=>G
 | n+1,_::l=>CK n l
def Ez{α:Type}:Y→O α→U (O α)
 | 0,_=>E []
 | _+1,[]=>G
 | n+1,c::l=>(Ez n l).map (c:: ·)
def CP{α:Type}:O α→Y→W
 | [],0=>T
 | _::l,n+1=>CP l n
 | _,_=>F
def BJ{α:Type}:O α→Y→W
 | _,0=>T
 | _::l,n+1=>BJ l n
 | [],_+1=>F
theorem Jn{α:Type}:∀(n:Y) (l:O α),CK n l=if n≤l.length then E (l.drop n) else G
 | 0,l=>by simp[CK]
 | n+1,[]=>by simp[CK]
 | n+1,c::l=>by simp[CK,Jn n l]
theorem Vc{α:Type}:∀(n:Y) (l:O α),Ez n l=if n≤l.length then E (l.take n) else G
 | 0,l=>by simp[Ez]
 | n+1,[]=>by simp[Ez]
 | n+1,c::l=>by simp only[Ez,Vc n l]; split<;>simp_all
theorem Ps{α:Type}:∀(l:O α) (n:Y),CP l n=decide (l.length=n)
 | [],0=>by simp[CP]
 | [],n+1=>by simp[CP]
 | _::l,0=>by simp[CP]
 | _::l,n+1=>by simp[CP,Ps l n]
theorem Lj{α:Type}:∀(l:O α) (n:Y),BJ l n=decide (n≤l.length)
 | [],0=>by simp[BJ]
 | [],n+1=>by simp[BJ]
 | _::l,0=>by simp[BJ]
 | _::l,n+1=>by simp[BJ,Lj l n]
theorem bg{α:Type}{l:O α}:CK 0 l=E l:=by cases l<;>rfl
theorem bh{α:Type}{n:Y}{c:α}{l:O α}:CK (n+1) (c::l)=CK n l:=rfl
theorem pM{α:Type}{l:O α}:Ez 0 l=E []:=by cases l<;>rfl
theorem pN{α:Type}{n:Y}{c:α}{l:O α}:Ez (n+1) (c::l)=(Ez n l).map (c:: ·):=rfl
theorem jy{α:Type}:CP ([]:O α) 0=T:=rfl
theorem jz{α:Type}{n:Y}{c:α}{l:O α}:CP (c::l) (n+1)=CP l n:=rfl
theorem jw{α:Type}{l:O α}:BJ l 0=T:=by cases l<;>rfl
theorem jx{α:Type}{n:Y}{c:α}{l:O α}:BJ (c::l) (n+1)=BJ l n:=rfl
theorem ZN{cs:O AC}{off n:Y}:Ci cs off T n=(CK off cs).bind fun l=>(Ez n l).map fun l=> .v (.ag l):=by
 simp only[Ci,cond_true,Jn,Vc];by_cases h:off≤cs.length
 ·rw[if_pos h];by_cases h2:off+n≤cs.length
  ·rw[if_pos h2,Option.bind_some,if_pos (by simp; omega)]; rfl
  ·rw[if_neg h2,Option.bind_some,if_neg (by simp; omega)]; rfl
 ·rw[if_neg h,if_neg (by omega)]; rfl
theorem nh{cs:O AC}:Bx cs 0 []=cs:=by simp[Bx]
theorem nj{c:AC}{cs ds:O AC}{n:Y}:Bx (c::cs) (n+1) ds=c::Bx cs n ds:=by
 simp only[Bx,List.take_succ_cons,List.cons_append];rw[show n+1+ds.length=(n+ds.length)+1 by omega,List.drop_succ_cons]
theorem nk{c d:AC}{cs ds:O AC}:Bx (c::cs) 0 (d::ds)=d::Bx cs 0 ds:=by simp[Bx]
theorem HC{α β:Type}{a:α}{f:α→U β}:(E a).bind f=f a:=rfl
theorem Zu{α β:Type}{f:α→U β}:(G:U α).bind f=G:=rfl
theorem get_map{α β:Type}{f:α→β}{l:O α}{i:Y}:(A f l)[i]?=(l[i]?).map f:=List.getElem?_map
theorem ej{α:Type}{a:α}{l:O α}:(a::l)[0]?=E a:=rfl
theorem ei{α:Type}{a:α}{l:O α}{n:Y}:(a::l)[n+1]?=l[n]?:=by simp
theorem bZ:A AC.dat []= []:=rfl
theorem bY{d:D}{l:O D}:A AC.dat (d::l)= .dat d::A AC.dat l:=rfl
section
variable {P : Program} {k : O Fr} {Q : Xg → St → Prop} {σ : St} {its : O AItem} {env : O (Y × AV)} {bx : O (Y × O AC)} {rows : Rows}
theorem hD{α:Type}{rs:Rows}{sz:Y}{xs:O α}{row:α→O D} [Row row sz]{kd:IntKind}{i:V}:Cq rs sz (.v (.sc (.dat (.sl (A row xs))))) (.v (.sc (.dat (.int kd i))))=(ix xs i).map fun x=> .v (.sc (.dat (.pd (row x)))):=by
 simp only[Cq,Nj];cases ix xs i with
 | none=>rfl
 | some x=>simp[Row.len (row:=row) (sz:=sz),Row.pos row]
theorem gz{rs:Rows}{sz id:Y}{kd:IntKind}{i:V}:Cq rs sz (.v (.sc (.own id))) (.v (.sc (.dat (.int kd i))))=(A1 rs id).bind fun p=>(ix p.2 i).bind fun _=>bif p.1==sz then E (.v (.sc (.pe id i.toNat 0))) else G:=by
 simp only[Cq];cases A1 rs id with
 | none=>rfl
 | some p=>
  obtain⟨a,es⟩:=p;simp only[HC];cases ix es i with
  | none=>rfl
  | some x=>
   by_cases h:a=sz
   ·simp[h]
   ·have h':(a==sz)=F:=by simpa using h
    simp[h,h']
theorem kw{g:W}{n id off:Y}:Ca ⟨env,bx,rows⟩ g n (.v (.sc (.pb id off)))=(A1 bx id).bind fun cs=>Ci cs off g n:=by
 show(match A1 bx id with | some cs=>_ | none=>G)=_
 cases A1 bx id<;>rfl
theorem ky{g:W}{n id i off:Y}:Ca ⟨env,bx,rows⟩ g n (.v (.sc (.pe id i off)))=(A1 rows id).bind fun p=>(p.2[i]?).bind fun d=>Ci (A AC.dat d) off g n:=by
 simp only[Ca];cases A1 rows id with
 | none=>rfl
 | some p=>
  simp only[HC];cases p.2[i]?<;>rfl
theorem kx{g:W}{n:Y}{cs:O D}:Ca σ g n (.v (.sc (.dat (.pd cs))))=Ci (A AC.dat cs) 0 g n:=rfl
theorem dr{rs:Rows}{off id i o:Y}:BX rs off (.v (.sc (.pe id i o)))=(A1 rs id).map fun _=> .v (.sc (.pe id i (o+off))):=by
 simp only[BX];cases A1 rs id<;>rfl
theorem dq{rs:Rows}{off:Y}{cs:O D}:BX rs off (.v (.sc (.dat (.pd cs))))=(CK off cs).map fun cs=> .v (.sc (.dat (.pd cs))):=by
 simp only[BX,Jn];split<;>rfl
theorem dl{l:O V1}{i:Y}:HO i (.tup l)=(l[i]?).map .v:=rfl
theorem lj{id off:Y}:Eo (.v (.sc (.pb id off)))=E (.v (.sc (.pb id off))):=rfl
theorem lk{cs:O D}:Eo (.v (.sc (.dat (.pd cs))))=E (.v (.sc (.dat (.pd cs)))):=rfl
theorem qG:A (St.val σ) []= []:=rfl
theorem qF{x:Opd}{l:O Opd}:A (St.val σ) (x::l)=σ.val x::A (St.val σ) l:=rfl
theorem lU{f:FuncId}:En f []=E []:=rfl
theorem lO{f:FuncId}:El f []=E (.clo f []):=rfl
theorem lP{f:FuncId}{id:Y}{r:O AV}:El f (.v (.sc (.pb id 0))::r)=(En f (.v (.sc (.pb id 0))::r)).map (.clo f):=rfl
theorem lN{f:FuncId}{d:D}{r:O AV}:El f (.v (.sc (.dat d))::r)=(Em (.v (.sc (.dat d))::r)).map fun q=> .dat (.clo f q):=rfl
theorem lS:Em []=E []:=rfl
theorem lR{ds:O D}{r:O AV}:Em (.v (.sc (.dat (.pd ds)))::r)=(Em r).map (.pd ds:: ·):=rfl
theorem lT{f:FuncId}{id:Y}{r:O AV}:En f (.v (.sc (.pb id 0))::r)=(En f r).map (id:: ·):=rfl
def M9(K:O AC→U (O AC))(off n:Y)(cs:O AC):AV→U (O AC)
 | .v x=>bif CP x.cells n&&BJ cs (off+n) then K (Bx cs off x.cells) else G
 | _=>G
def EI(σ:St):O (Y × Y × Opd)→O AC→U (O AC)
 | [],cs=>E cs
 | (off,n,x)::r,cs=>M9 (EI σ r) off n cs (σ.val x)
theorem On:∀(ps:O (Y × Y × Opd)) (cs:O AC),Co cs (ps.map fun p=>(p.1,p.2.1,σ.val p.2.2))=EI σ ps cs
 | [],cs=>rfl
 | (off,n,x)::r,cs=>by
  simp only[List.map_cons,EI];generalize σ.val x=v
  cases v with
  | v y=>
   simp only[Co,M9,Ps,Lj];by_cases h1:y.cells.length=n
   ·by_cases h2:off+n≤cs.length
    ·subst h1;simp only[h2,and_self,if_true,decide_true,I,cond_true];exact On r _
    ·simp[h1,h2]
   ·simp[h1]
  | _=>rfl
theorem Zx{cs:O AC}:EI σ [] cs=E cs:=rfl
theorem Zw{off n:Y}{x:Opd}{r:O (Y × Y × Opd)}{cs:O AC}:EI σ ((off,n,x)::r) cs=M9 (EI σ r) off n cs (σ.val x):=rfl
theorem Zv{K:O AC→U (O AC)}{off n:Y}{cs:O AC}{x:V1}:M9 K off n cs (.v x)=bif CP x.cells n&&BJ cs (off+n) then K (Bx cs off x.cells) else G:=rfl
theorem ez{d zs ps}:go P (.ops ((G,.build d zs ps)::its)::k) Q .normal (E σ)=go P (.ops its::k) Q .normal (Aq σ d ((EI σ ps zs).map fun cs=> .v (.ag cs))):=by rw[fF,On]
theorem oT{d zs ps}:σ.step (.build d zs ps)=Aq σ d ((EI σ ps zs).map fun cs=> .v (.ag cs)):=by rw[UK,On]
theorem oe{n id off:Y}{y:V1}:St.storeV ⟨env,bx,rows⟩ n (.v (.sc (.pb id off))) (.v y)=(A1 bx id).bind fun cs=>bif CP y.cells n&&BJ cs (off+n) then E ⟨env,put bx id (Bx cs off y.cells),rows⟩ else G:=by
 simp only[St.storeV,Ps,Lj];cases A1 bx id with
 | none=>rfl
 | some cs=>
  simp only[HC];by_cases h1:y.cells.length=n
  ·by_cases h2:off+n≤cs.length
   ·simp[h1,h2]
   ·simp[h1,h2]
  ·simp[h1]
def NI(sz:Y)(es:O (O D)):W:=es.all fun r=>r.length==sz
theorem nV{α:Type}{sz:Y}{row:α→O D} [Row row sz]{xs:O α}:NI sz (A row xs)=T:=QR (Row.len (row:=row)) xs
theorem YT{d sz bytes id:Y}{y:AV}:St.appV ⟨env,bx,rows⟩ d sz bytes (.v (.sc (.own id))) y=bif id / 99999999999==0 then((A1 rows id).bind fun p=>(appSrc rows y).bind fun es'=>
  bif (p.1==sz)&&(NI sz es'&&A4 p.2.length es'.length bytes) then E ⟨put (env.map fun p=>(p.1,p.2.map (AC.kill id))) d (.v (.sc (.own id))),bx.map fun p=>(p.1,p.2.map (AC.kill id)),put rows id (sz,p.2++es')⟩ else G) else G:=by
 simp only[St.appV];by_cases h0:id / 99999999999=0
 rotate_left
 ·rw[if_neg h0,show(id / 99999999999==0)=F by simpa using h0];rfl
 rw[if_pos h0,show(id / 99999999999==0)=T by simpa using h0,cond_true];cases A1 rows id with
 | none=>rfl
 | some p=>
  obtain⟨a,es⟩:=p;simp only[HC];cases appSrc rows y with
  | none=>rfl
  | some es'=>
   simp only[HC];by_cases h1:a=sz
   ·by_cases h2:NI sz es'=T
    ·by_cases h3:A4 es.length es'.length bytes=T
     ·have h3':=of_decide_eq_true h3;rw[if_pos ⟨h1,h2,h3'.1,h3'.2⟩];simp only[h1,beq_self_eq_true,h2,h3,I,cond_true];rfl
     ·have h3':A4 es.length es'.length bytes=F:=by simpa using h3
      rw[if_neg (fun h=>h3 (decide_eq_true ⟨h.2.2.1,h.2.2.2⟩))];simp[h3']
    ·have h2':NI sz es'=F:=by simpa using h2
     rw[if_neg (fun h=>h2 h.2.1)];simp[h2']
   ·have h1':(a==sz)=F:=by simpa using h1
    rw[if_neg (fun h=>h1 h.1)];simp[h1']
theorem oP{rs:Rows}{es:O (O D)}:appSrc rs (.v (.sc (.dat (.sl es))))=E es:=rfl
theorem oQ{rs:Rows}:appSrc rs (.v (.sc .nil))=E []:=rfl
theorem oR{rs:Rows}{id:Y}:appSrc rs (.v (.sc (.own id)))=(A1 rs id).map fun p=>p.2:=by
 simp only[appSrc,toD0];cases A1 rs id<;>rfl
theorem lF{α:Type}{f:α→O D}{a b:O α}:A f a++A f b=A f (a++b):=List.map_append.symm
def Dd(σ:St)(n:Y):U Opd→U V
 | none=>E n
 | some x=>BD (σ.val x)
def EJ(n:Y):U V→U V→U V→U (Y × Y)
 | some m,E h,E l=>bnd m h l n
 | _,_,_=>G
theorem Ma{lo hi mx:U Opd}{n:Y}:D3 σ lo hi mx n=EJ n (Dd σ n mx) (Dd σ n hi) (match lo with | none=>E 0 | some x=>BD (σ.val x)):=by
 cases mx<;>cases hi<;>cases lo<;>(simp only[D3,EJ,Dd]; first | rfl | (split<;>simp_all[EJ,bnd]))
def Lt(σ:St):U Opd→U V
 | none=>E 0
 | some x=>BD (σ.val x)
theorem nv{α:Type}{sz:Y}{lo hi mx:U Opd}{xs:O α}{row:α→O D} [Row row sz]:Cs σ sz (.v (.sc (.dat (.sl (A row xs))))) lo hi mx=(EJ xs.length (Dd σ xs.length mx) (Dd σ xs.length hi) (Lt σ lo)).map fun p=> .v (.sc (.dat (.sl (A row ((xs.drop p.1).take (p.2 - p.1)))))):=by
 have h:(A row xs).all (fun d=>d.length==sz)=T:=QR (Row.len (row:=row)) xs;simp only[Cs,h,Row.pos row (sz:=sz),decide_true,I,if_true,List.length_map,Ma];cases lo<;>simp[Lt,List.map_drop,List.map_take]
theorem oS{lo hi:U Opd}{s:O UInt8}:FB σ (.v (.sc (.dat (.str s)))) lo hi=(EJ s.length (Dd σ s.length G) (Dd σ s.length hi) (Lt σ lo)).map fun p=> .v (.sc (.dat (.str ((s.drop p.1).take (p.2 - p.1))))):=by
 simp only[FB,Ma];cases lo<;>rfl
theorem mL{n:Y}:Dd σ n G=E (n:V):=rfl
theorem mM{n:Y}{x:Opd}:Dd σ n (E x)=BD (σ.val x):=rfl
theorem mJ:Lt σ G=E 0:=rfl
theorem mK{x:Opd}:Lt σ (E x)=BD (σ.val x):=rfl
theorem YX{kd:IntKind}{i:V}:BD (.v (.sc (.dat (.int kd i))))=E i:=rfl
theorem ZA{n:Y}{m h l:V}:EJ n (E m) (E h) (E l)=bnd m h l n:=rfl
theorem oo{x y:O UInt8}:FD .add x y=bif DO x.length y.length then E (.str (x++y)) else G:=by
 simp only[FD,DO];by_cases h:x.length+y.length≤4611686018427387904
 ·simp[h]
 ·simp[h]
theorem ip{k:IntKind}{x y:V}:Ba .and k x y=E (.int k (HE .and k x y)):=rfl
theorem jB{k:IntKind}{x y:V}:Ba .or k x y=E (.int k (HE .or k x y)):=rfl
theorem jH{k:IntKind}{x y:V}:Ba .xor k x y=E (.int k (HE .xor k x y)):=rfl
theorem Zn:(T==T)=T:=rfl
theorem Zm:(T==F)=F:=rfl
theorem Zk:(F==T)=F:=rfl
theorem Zj:(F==F)=T:=rfl
theorem YL{b:W}:(F&&b)=F:=rfl
end
def Ub{α:Type}(k:Y):U α→O (Y × α)→O (Y × α)
 | some v,r=>(k,v)::r
 | none,r=>r
theorem mX{α:Type}{l:O (Y × α)}:BU l []= []:=rfl
theorem mW{α:Type}{l:O (Y × α)}{k:Y}{ks:O Y}:BU l (k::ks)=Ub k (A1 l k) (BU l ks):=by
 show(match A1 l k with | some v=>_ | none=>_)=_
 cases A1 l k<;>rfl
theorem mV{α:Type}{k:Y}{v:α}{r:O (Y × α)}:Ub k (E v) r=(k,v)::r:=rfl
theorem jN{env bx rows ks bs rs}:(St.mk env bx rows).kept ks bs rs=⟨BU env ks,BU bx bs,BU rows rs⟩:=rfl
theorem fu{P:Program}{k:O Fr}{Q:Xg→St→Prop}{σ:St}{its:O AItem}{ks bs rs:O Y}:go P (.ops ((G,.keep ks bs rs)::its)::k) Q .normal (E σ)=go P (.ops its::k) Q .normal (E (σ.kept ks bs rs)):=AX rfl
theorem mY{b:W}{x y:AV}:IQ (.v (.sc (.dat (.bool b)))) x y=E (bif b then x else y):=rfl
theorem Zi{g x y:W}:HB g (.v (.sc (.dat (.bool x)))) (.v (.sc (.dat (.bool y))))=E (.v (.sc (.dat (.bool (bif g then !(x==y) else x==y))))):=rfl
theorem lZ{m:W}{k:IntKind}{x y:V}:H8 m (.v (.sc (.dat (.int k x)))) (.v (.sc (.dat (.int k y))))=E (.v (.sc (.dat (.int k (bif m then(if x<y then y else x) else(if y<x then y else x)))))):=by simp[H8]
theorem pq{k:IntKind}{x:V}:Ho .neg (.v (.sc (.dat (.int k x))))=E (.v (.sc (.dat (.int k (k.wrap (0 - x)))))):=rfl
theorem dp{rs:Rows}{off id o:Y}:BX rs off (.v (.sc (.pb id o)))=E (.v (.sc (.pb id (o+off)))):=rfl
theorem ke{rs:Rows}{id:Y}:Db rs (.v (.sc (.own id)))=(A1 rs id).map fun p=> .v (.sc (.dat (.int .i64 p.2.length))):=by
 show(match A1 rs id with | some (_,es)=>_ | none=>_)=_
 cases A1 rs id<;>rfl
theorem iS{k:Y}:Eg k []= []:=rfl
theorem iR{k:Y}{d:DV}{ds:O DV}:Eg k (d::ds)=(k,d.av)::Eg (k+1) ds:=rfl
theorem iU{ds:O DV}:St.init ds=⟨Eg 0 ds,[],[]⟩:=rfl
theorem cX{d:D}:DV.av (.sc d)= .v (.sc (.dat d)):=rfl
theorem cW{ds:O D}:DV.av (.ag ds)= .v (.ag (ds.map .dat)):=rfl
theorem ku{f:AC→AC}:A (V1.map f) []= []:=rfl
theorem kr{f:AC→AC}{x:V1}{l:O V1}:A (V1.map f) (x::l)=x.map f::A (V1.map f) l:=rfl
theorem jg{f:AC→AC}:A (fun p:Y × AV=>(p.1,p.2.map f)) []= []:=rfl
theorem jf{f:AC→AC}{k:Y}{v:AV}{l:O (Y × AV)}:A (fun p:Y × AV=>(p.1,p.2.map f)) ((k,v)::l)=(k,v.map f)::A (fun p:Y × AV=>(p.1,p.2.map f)) l:=rfl
theorem Zz{f:AC→AC}:A (fun p:Y × O AC=>(p.1,p.2.map f)) []= []:=rfl
theorem Zy{f:AC→AC}{k:Y}{v:O AC}{l:O (Y × O AC)}:A (fun p:Y × O AC=>(p.1,p.2.map f)) ((k,v)::l)=(k,v.map f)::A (fun p:Y × O AC=>(p.1,p.2.map f)) l:=rfl
theorem ZT{f:AC→AC}:A f ([]:O AC)= []:=rfl
theorem ZS{f:AC→AC}{c:AC}{l:O AC}:A f (c::l)=f c::A f l:=rfl
theorem kq{α β:Type}{f:α→β}{l:O α}:(A f l).length=l.length:=List.length_map ..
theorem ZM{c:AC}:V1.cells (.sc c)= [c]:=rfl
theorem ZI{cs:O AC}:V1.cells (.ag cs)=cs:=rfl
theorem lG{f:AC→AC}{env bx rows}:(St.mk env bx rows).map f=⟨env.map fun p=>(p.1,p.2.map f),bx.map fun p=>(p.1,p.2.map f),rows⟩:=rfl
theorem Za{f:AC→AC}{c:AC}:AV.map f (.v (.sc c))= .v (.sc (f c)):=rfl
theorem Z9{f:AC→AC}{cs:O AC}:AV.map f (.v (.ag cs))= .v (.ag (cs.map f)):=rfl
theorem Zc{f:AC→AC}:AV.map f .undef= .undef:=rfl
theorem Z8{f:AC→AC}:AV.map f .no= .no:=rfl
theorem Zb{f:AC→AC}{l:O V1}:AV.map f (.tup l)= .tup (l.map (V1.map f)):=rfl
theorem qA{f:AC→AC}{c:AC}:V1.map f (.sc c)= .sc (f c):=rfl
theorem pz{f:AC→AC}{cs:O AC}:V1.map f (.ag cs)= .ag (cs.map f):=rfl
theorem jS{id:Y}{d:D}:AC.kill id (.dat d)= .dat d:=rfl
theorem jW{id:Y}:AC.kill id .nil= .nil:=rfl
theorem jb{id:Y}:AC.kill id .undef= .undef:=rfl
theorem jX{id i:Y}:AC.kill id (.own i)=bif i==id then .undef else .own i:=rfl
theorem jZ{id i a b:Y}:AC.kill id (.osub i a b)=bif i==id then .undef else .osub i a b:=rfl
theorem jT{id i a b:Y}:AC.kill id (.pe i a b)=bif i==id then .undef else .pe i a b:=rfl
theorem jQ{id i a:Y}:AC.kill id (.pb i a)= .pb i a:=rfl
theorem jR{id f:Y}{is:O Y}:AC.kill id (.clo f is)= .clo f is:=rfl
theorem eL{id:Y}{es:O (O D)}{d:D}:AC.frz id es (.dat d)= .dat d:=rfl
theorem eP{id:Y}{es:O (O D)}:AC.frz id es .nil= .nil:=rfl
theorem eT{id:Y}{es:O (O D)}:AC.frz id es .undef= .undef:=rfl
theorem eQ{id i:Y}{es:O (O D)}:AC.frz id es (.own i)=bif i==id then .dat (.sl es) else .own i:=rfl
theorem eS{id i a b:Y}{es:O (O D)}:AC.frz id es (.osub i a b)=bif i==id then .undef else .osub i a b:=rfl
theorem eM{id i a b:Y}{es:O (O D)}:AC.frz id es (.pe i a b)=bif i==id then .undef else .pe i a b:=rfl
theorem eI{id i a:Y}{es:O (O D)}:AC.frz id es (.pb i a)= .pb i a:=rfl
theorem eJ{id f:Y}{es:O (O D)}{is:O Y}:AC.frz id es (.clo f is)= .clo f is:=rfl
theorem fg{P:Program}{k:O Fr}{Q:Xg→St→Prop}{σ:St}{its:O AItem}{id sz:Y}{es:O (O D)}(hf:A1 σ.rows id=E (sz,es))(H:go P (.ops its::k) Q .normal (E {(σ.map (AC.frz id es)) with rows:=erase σ.rows [id] }))(h0:(id / 99999999999==0)=T:=by rfl) :
  go P (.ops ((G,.frz id)::its)::k) Q .normal (E σ):=by
 rw[ff];simp only[St.step,hf,h0,zE,zD,if_false];exact H
theorem OL{P:Program}{k:O Fr}{Q:Xg→St→Prop}{σ:St}{its:O AItem}{b j id sz:Y}{cs cs':O AC}(h1:σ.has id=F)(h2:A1 σ.bx b=E cs)(h3:cs[j]?=E .nil)(h4:cs.set j (.own id)=cs')
  (H:go P (.ops its::k) Q .normal (E {σ with bx:=put σ.bx b cs',rows:=put σ.rows id (sz,[]) })) (h0:(id / 99999999999==0)=T:=by rfl):go P (.ops ((G,.ownb b j id sz)::its)::k) Q .normal (E σ):=by
 rw[gI];subst h4;simp only[St.step,h1,h2,h3,h0,zE,Bool.or_self,zD,if_false];exact H
theorem dg{α:Type}{ks:O Y}:erase ([]:O (Y × α)) ks= []:=rfl
theorem dh{α:Type}{k n:Y}{v:α}{r:O (Y × α)}:erase ((k,v)::r) [n]=bif k==n then erase r [n] else(k,v)::erase r [n]:=by
 by_cases h:k=n
 ·simp[erase,h]
 ·have h':(k==n)=F:=by simpa using h
  simp[erase,h,h']
theorem nM{ts:O RV}{rs:O R1}{σ:St}:Ac ts rs .ret σ=(OutVs σ ts rs∧DE (Cl σ ts rs)=T):=rfl
theorem nL{ts:O RV}{rs:O R1}{σ:St}:Ac ts rs .normal σ=(OutVs σ ts rs∧DE (Cl σ ts rs)=T):=rfl
theorem mR{σ:St}{t:RV}{ts:O RV}{r:R1}{rs:O R1}:OutVs σ (t::ts) (r::rs)=(LY σ.rows (IN σ t) r∧OutVs σ ts rs):=rfl
theorem mQ{σ:St}{t:RV}{ts:O RV}{r:R1}{rs:O R1}:Cl σ (t::ts) (r::rs)=PE (IN σ t) r++Cl σ ts rs:=rfl
theorem mP{σ:St}{a n:Y}{g:W}:IN σ (.c a g n)=(Ca σ g n (σ.get a)).getD .undef:=rfl
def NJ:=Z @nM (Z @nL (Z @mR (Z @mQ @mP)))
set_option maxRecDepth 4000 in
def nX:=Z @gF (Z @gD (Z @gV (Z @gP (Z @fU (Z @fZ (Z @gU (Z @fE (Z @fV (Z @gS (Z @fO (Z @gO (Z @gN (Z @gK (Z @gM (Z @fA (Z @fD (Z @gH (Z @fT (Z @PK (Z @fp (Z @fo (Z @fk (Z @fj (Z @fi (Z @eD (Z @eC (Z @mp (Z @mn (Z @qC (Z @qB (Z @eh (Z @nl (Z @getD_some (Z @getD_none (Z @map_some (Z @map_none (Z @ny (Z @kf (Z @nf (Z @nd (Z @ka (Z @ZX (Z @Zq (Z @Zt (Z @io (Z @jG (Z @iz (Z @jC (Z @jD (Z @ir (Z @jA (Z @iy (Z @iw (Z @iv (Z @iu (Z @oq (Z @ot (Z @pr (Z @hP (Z @jJ (Z @dz (Z @ZJ (Z @ZV (Z @ZU (Z @gC (Z @gG (Z @fw (Z @gE (Z @ey (Z @ex (Z @gf (Z @fP (Z @gW (Z @ga (Z @fX (Z @fY (Z @fq (Z @ft (Z @fW (Z @fv (Z @gT (Z @gZ (Z @gB (Z @fy (Z @gb (Z @er (Z @fB (Z @ij (Z @iV (Z @iW (Z @ib (Z @iZ (Z @rM (Z @rK (Z @im (Z @ik (Z @il (Z @ii (Z @iY (Z @iX (Z @nO (Z @nP (Z @nR (Z @ZL (Z @ZH (Z @nS (Z @nU (Z @nT (Z @mf (Z @me (Z @YS (Z @YR (Z @ZB (Z @Zl (Z @aZ (Z @ab (Z @aH (Z @aU (Z @aa (Z @aE (Z @aD (Z @al (Z @aJ (Z @af (Z @aj (Z @aN (Z @aO (Z @aQ (Z @aA (Z @aR (Z @aK (Z @aT (Z @ae (Z @ah (Z @aY (Z @aV (Z @aF (Z @aC (Z @aG (Z @aX (Z @bJ (Z @bL (Z @as_ (Z @bF (Z @bK (Z @ar (Z @aq (Z @bR (Z @au (Z @bN (Z @bP (Z @az (Z @bA (Z @bC (Z @am (Z @bD (Z @aw (Z @bE (Z @bM (Z @bO (Z @bI (Z @bG (Z @bT (Z @bS (Z @bX (Z @bW (Z @bV (Z @kk (Z @lL (Z @lK (Z @jM (Z @jL (Z @jK (Z @pO (Z @pv (Z @Z0 (Z @Z1 (Z @Z3 (Z @Z4 (Z @Z5 (Z @YZ (Z @YY (Z @lr (Z @ls (Z @YM (Z @fe (Z @eu (Z @cM (Z @cO (Z @bt (Z @cH (Z @cN (Z @bp (Z @bl (Z @cU (Z @bw (Z @cQ (Z @cS (Z @cB (Z @cC (Z @cE (Z @bj (Z @cF (Z @cA (Z @cG (Z @cP (Z @cR (Z @cL (Z @cI (Z @bq (Z @bk (Z @br (Z @cK (Z @bu (Z @bv (Z @UX (Z @UZ (Z @UT (Z @UY (Z @UJ (Z @UI (Z @V7 (Z @UL (Z @V3 (Z @V5 (Z @UN (Z @UO (Z @UQ (Z @UR (Z @UM (Z @US (Z @V2 (Z @V4 (Z @UW (Z @UU (Z @mX (Z @mW (Z @mV (Z @jN (Z @fu (Z @mY (Z @Zi (Z @lZ (Z @pq (Z @dp (Z @ke (Z @iS (Z @iR (Z @iU (Z @cX (Z @cW (Z @kq (Z @ZM (Z @ZI (Z @lG (Z @Za (Z @Z9 (Z @Zc (Z @Zb (Z @qA (Z @pz (Z @jS (Z @jW (Z @jb (Z @jX (Z @jZ (Z @jT (Z @jQ (Z @jR (Z @eL (Z @eP (Z @eT (Z @eQ (Z @eS (Z @eM (Z @eI (Z @eJ (Z @dg (Z @dh (Z @bg (Z @bh (Z @pM (Z @pN (Z @jy (Z @jz (Z @jw (Z @jx (Z @ZN (Z @nh (Z @nj (Z @nk (Z @HC (Z @Zu (Z @get_map (Z @ej (Z @ei (Z @bZ (Z @bY (Z @hD (Z @gz (Z @kw (Z @ky (Z @kx (Z @dr (Z @dq (Z @dl (Z @lj (Z @lk (Z @qG (Z @qF (Z (Z @lU (Z @lO (Z @lP (Z @lN (Z @lS @lR))))) (Z @lT (Z @Zx (Z @Zw (Z @Zv (Z @ez (Z @oT (Z @oe (Z @nV (Z @YT (Z @oP (Z @oQ (Z @oR (Z @lF (Z @nv (Z @oS (Z @mL (Z @mM (Z @mJ (Z @mK (Z @YX (Z @ZA (Z @oo (Z @ip (Z @jB (Z @jH (Z @Zn (Z @Zm (Z @Zk (Z @Zj (Z @YL (Z @Nj (Z @Uk (Z @Rb (Z @mq (Z @mr (Z @mw (Z @mu (Z @ku (Z @kr (Z @jg (Z @jf (Z @Zz (Z @Zy (Z @ZT (Z @ZS (Z @bU (Z @fh @Z8))))))))))))))))))))))))))))))))))))))))))))))))))))))))))))))))))))))))))))))))))))))))))))))))))))))))))))))))))))))))))))))))))))))))))))))))))))))))))))))))))))))))))))))))))))))))))))))))))))))))))))))))))))))))))))))))))))))))))))))))))))))))))))))))))))))))))))))))))))))))))))))))))))))))))))))))))))))))))))))))))))))))))))))))))))))))))))))))))))))
theorem Cw{P:Program}(hm:P.follows .mixedOrders=T){f:FuncId}{c:Xd}{ts:O RV}{nt:Y}{xs:O XV}{R0 R1:Ai}{r:D}{ps:O (Y × Y)}{σ:St}(he:AB P f=E (c.strip,ts,nt))(hl:Nat.ble xs.length nt=T)(hlen:R1.length=R0.length)(hrf:r.flat=T)(hR1:CM R1)(hσ:St.initX xs R0=σ)
  (h:go P [.code c] (Ch ts r R1 ps) .normal (E σ)):FCx P f xs R0 R1 r:=WB hm he (zA hl) hlen hrf hR1 (H2 (hσ▸h))
theorem Bp:CM []:=fun p hp=>by simp at hp
theorem AL{α:Type}{row:α→O D} [FlatRow row]{sz:Y}{xs:O α}{R:Ai}(h:CM R):CM ((sz,A row xs)::R):=fun p hp=>by
 rcases List.mem_cons.1 hp with rfl|hp
 ·intro e he d hd;obtain⟨x,_,rfl⟩:=List.mem_map.1 he;exact FlatRow.flat x d hd
 ·exact h p hp
theorem CY:CX [] []=T:=rfl
theorem BO{α β:Type}{row:α→O D}{row':β→O D}{z:Y}{xs:O α}{ys:O β}{R R':Ai}(hl:ys.length=xs.length)(h:CX R R'=T):CX ((z,A row xs)::R) ((z,A row' ys)::R')=T:=by
 simp[CX,hl,h]
theorem ig{env:O (Y × AV)}{bx:O (Y × O AC)}{rows:Rows}{d:Y}{ids:O Y}{R1:Ai}{r:D}:St.instX ⟨env,bx,rows⟩ d ids R1 r=⟨put env d (.v (.sc (.dat r))),bx,Cc rows ids R1⟩:=rfl
theorem mg{rs:Rows}{id:Y}{ids:O Y}{r:Y × O (O D)}{R:Ai}:Cc rs (id::ids) (r::R)=Cc (put rs id r) ids R:=rfl
theorem mh{rs:Rows}:Cc rs [] []=rs:=rfl
theorem R5{N:O Y}:AV.avoids N (.v (.sc .z))=T:=by simp[AV.avoids,AV.cells,V1.cells,AC.avoids,AC.uses]
theorem ua{P:Program}{k:O Fr}{Q:Xg→St→Prop}{σ:St}{N:O Y}{d:Y}{its:O AO}:go P (.dops ((E N,G,.zsl d)::its)::k) Q .normal (E σ)=go P (.dops its::k) Q .normal (E (σ.set d (.v (.sc .z)))):=by
 rw[Bn rfl];show go P _ Q .normal (bif (((σ.less N).set d (.v (.sc .z))).get d).avoids N then E (σ.set d (((σ.less N).set d (.v (.sc .z))).get d)) else G)=_
 rw[St.get_set_same,R5];rfl
theorem Z7{N:O Y}:AV.avoids N (.tup [])=T:=rfl
theorem Z6{N:O Y}{x:V1}{l:O V1}:AV.avoids N (.tup (x::l))=((AV.v x).avoids N&&(AV.tup l).avoids N):=by simp[AV.avoids,AV.cells]
theorem lW{t:TypeId}{d:D}:Ft t (.v (.sc (.dat d)))=E (.v (.sc (.dat (.ifc t d)))):=rfl
theorem pP{t u:TypeId}{zc:AC}{d:D}:IU t zc (.v (.sc (.dat (.ifc u d))))=bif u==t then E (.tup [.sc (.dat d),.sc (.dat (.bool T))]) else E (.tup [.sc zc,.sc (.dat (.bool F))]):=rfl
theorem eW{id:Y}{ds:O D}{d:D}:AC.frzb id ds (.dat d)= .dat d:=rfl
theorem eY{id:Y}{ds:O D}:AC.frzb id ds .nil= .nil:=rfl
theorem ee{id:Y}{ds:O D}:AC.frzb id ds .undef= .undef:=rfl
theorem eZ{id i:Y}{ds:O D}:AC.frzb id ds (.own i)= .own i:=rfl
theorem ed{id i a b:Y}{ds:O D}:AC.frzb id ds (.osub i a b)= .osub i a b:=rfl
theorem eX{id i a b:Y}{ds:O D}:AC.frzb id ds (.pe i a b)= .pe i a b:=rfl
theorem eV{id i a:Y}{ds:O D}:AC.frzb id ds (.pb i a)=bif i==id then .dat (.pd (ds.drop a)) else .pb i a:=rfl
theorem nE{a b:Y}{d:D}:AC.ren a b (.dat d)= .dat d:=rfl
theorem nG{a b:Y}:AC.ren a b .nil= .nil:=rfl
theorem nJ{a b:Y}:AC.ren a b .undef= .undef:=rfl
theorem nH{a b i:Y}:AC.ren a b (.own i)= .own (bif i==a then b else i):=rfl
theorem nI{a b i x y:Y}:AC.ren a b (.osub i x y)= .osub (bif i==a then b else i) x y:=rfl
theorem nF{a b i x y:Y}:AC.ren a b (.pe i x y)= .pe (bif i==a then b else i) x y:=rfl
theorem nC{a b i x:Y}:AC.ren a b (.pb i x)= .pb i x:=rfl
theorem gR{P:Program}{k:O Fr}{Q:Xg→St→Prop}{σ:St}{its:O AItem}{a b:Y}{r:Y × O (O D)}(h1:σ.has b=F)(hf:A1 σ.rows a=E r)(H:go P (.ops its::k) Q .normal (E {(σ.map (AC.ren a b)) with rows:=put (erase σ.rows [a]) b r }))
  (h0:(a / 99999999999==0)=T:=by rfl) (h2:(b / 99999999999==0)=T:=by rfl):go P (.ops ((G,.ren a b)::its)::k) Q .normal (E σ):=by
 rw[gQ];simp only[St.step,h1,hf,h0,h2,I,zE,Bool.or_self,zD,if_false];exact H
theorem lV{t:TypeId}{a b:D}:Ft t (.v (.ag [.dat a,.dat b]))=E (.v (.sc (.dat (.ifs t [a,b])))):=rfl
def FCq(P:Program)(f:FuncId)(ds:O DV)(rs:O R1):U D→Prop
 | none=>FC P f ds rs
 | some d=>J5 P f ds d
theorem FCq.none{P:Program}{f:FuncId}{ds:O DV}{rs:O R1}{pd:U D}(h:FCq P f ds rs pd)(hp:pd=G):FC P f ds rs:=by subst hp; exact h
theorem FCq.some{P:Program}{f:FuncId}{ds:O DV}{rs:O R1}{pd:U D}{d:D}(h:FCq P f ds rs pd)(hp:pd=E d):J5 P f ds d:=by subst hp; exact h
theorem lX{t:TypeId}{id:Y}:Ft t (.v (.sc (.pb id 0)))=E (.v (.sc (.ipb t id))):=rfl
theorem jU{id i:Y}{t:TypeId}:AC.kill id (.ipb t i)= .ipb t i:=rfl
theorem eN{id i:Y}{t:TypeId}{es:O (O D)}:AC.frz id es (.ipb t i)= .ipb t i:=rfl
theorem ef{g:W}{ks:O FK}{cs ds:O AC}:Ir g ks (.v (.ag cs)) (.v (.ag ds))=(Bf ks cs ds).map fun b=> .v (.sc (.dat (.bool (bif g then !b else b)))):=rfl
theorem dc:Bf [] [] []=E T:=rfl
theorem db{k:IntKind}{x y:V}{ks:O FK}{cs ds:O AC}:Bf (.i::ks) (.dat (.int k x)::cs) (.dat (.int k y)::ds)=(Bf ks cs ds).map fun b=>(x==y)&&b:=if_pos rfl
theorem da{x y:W}{ks:O FK}{cs ds:O AC}:Bf (.b::ks) (.dat (.bool x)::cs) (.dat (.bool y)::ds)=(Bf ks cs ds).map fun b=>(x==y)&&b:=rfl
theorem de{x y:O UInt8}{ks:O FK}{cs ds:O AC}:Bf (.s::ks) (.dat (.str x)::cs) (.dat (.str y)::ds)=(Bf ks cs ds).map fun b=>(x==y)&&b:=rfl
def nZ:=Z @R5 (Z @ua (Z @Z7 (Z @Z6 (Z @ig (Z @mg (Z @mh (Z @fz (Z @ge (Z @UV (Z @V6 (Z @aW (Z @bH (Z @cJ (Z @ak (Z @bQ (Z @cT (Z @lW (Z @pP (Z @eW (Z @eY (Z @ee (Z @eZ (Z @ed (Z @eX (Z @eV (Z @lX (Z @jU (Z @eN (Z @nE (Z @nG (Z @nJ (Z @nH (Z @nI (Z @nF (Z @nC (Z @gJ (Z @fH (Z @gL (Z @fC (Z @lV (Z @UP (Z @fm (Z @aP (Z @bB (Z @cD (Z @ef (Z @dc (Z @db (Z @da @de)))))))))))))))))))))))))))))))))))))))))))))))))
end Go.Vi
