/-
The value level. No condition.
-/
import Derived.Test.YtjaofdfehibjhaaGreatDoorSVi28
namespace Go.Vi
set_option linter.all false
open And renaming intro → Z
open List renaming map → A, mem_singleton → B, replicate → I
open Nat renaming one_pos → zA
open Bool renaming and_self → zB, true → T, false → F
open Option renaming some → E, none → G
open _root_ renaming List → O, Option → U, Int → V, Bool → W, Nat → Y
abbrev S(n:Y):Opd:= .t n
abbrev K(n:V):Opd:= .c (.v (.sc (.dat (.int .i64 n))))
abbrev K8(n:V):Opd:= .c (.v (.sc (.dat (.int .u8 n))))
abbrev KB(b:W):Opd:= .c (.v (.sc (.dat (.bool b))))
abbrev KS(s:O UInt8):Opd:= .c (.v (.sc (.dat (.str s))))
abbrev KN:Opd:= .c (.v (.sc .nil))
abbrev aI(n:V):AC:= .dat (.int .i64 n)
abbrev a8(n:V):AC:= .dat (.int .u8 n)
abbrev aB(b:W):AC:= .dat (.bool b)
abbrev aS(s:O UInt8):AC:= .dat (.str s)
abbrev aL(es:O (O D)):AC:= .dat (.sl es)
abbrev vc(c:AC):AV:= .v (.sc c)
abbrev va(cs:O AC):AV:= .v (.ag cs)
def rI(n:V):O D:= [.int .i64 n]
def r8(n:V):O D:= [.int .u8 n]
def rB(b:W):O D:= [.bool b]
def rS(s:O UInt8):O D:= [.str s]
def rL{α:Type}(row:α→O D)(xs:O α):O D:= [.sl (xs.map row)]
class Row {α:Type} (row:α→O D) (sz:Y):Prop where
 len:∀x,(row x).length=sz
 pos:0<sz
instance:Row rI 1:=⟨fun _=>rfl,zA⟩
instance:Row r8 1:=⟨fun _=>rfl,zA⟩
instance:Row rB 1:=⟨fun _=>rfl,zA⟩
instance:Row rS 1:=⟨fun _=>rfl,zA⟩
instance {α:Type} (row:α→O D):Row (rL row) 1:=⟨fun _=>rfl,zA⟩
theorem E2r(n:V):rI n= [.int .i64 n]:=rfl
def C72(n:V):UInt8:=UInt8.ofNat n.toNat
theorem C3h:∀{xs:O V},A3z (A r8 xs)=E (A C72 xs)
 | []=>rfl
 | n::xs=>by
  show(A3z (A r8 xs)).map _=_
  rw[C3h]
  rfl
theorem F9o(n:V):r8 n= [.int .u8 n]:=rfl
theorem F5u(b:W):rB b= [.bool b]:=rfl
theorem F5g(s:O UInt8):rS s= [.str s]:=rfl
theorem F6o{α:Type}(row:α→O D)(xs:O α):rL row xs= [.sl (xs.map row)]:=rfl
theorem D04{α:Type}{row:α→O D}{sz:Y}(h:∀x,(row x).length=sz)(xs:O α):(xs.map row).all (fun d=>d.length==sz)=T:=by
 simp[List.all_map,Function.comp_def,h]
@[irreducible] def bigN:Y:=1208925819614629174706176
def bnd(m h l:V)(n:Y):U (Y × Y):=if 0≤l∧l≤h∧h≤m∧m≤n then E (l.toNat,h.toNat) else G
def mkS(l c:V)(bytes:Y):U Y:=if 0≤l∧l≤c∧c*bytes≤140737488355328∧c≤4611686018427387904 then E l.toNat else G
def B9(n m bytes:Y):W:=decide ((n+m)*bytes≤140737488355328∧n+m≤4611686018427387904)
def B1z(n m:Y):W:=decide (n+m≤4611686018427387904)
theorem C04{α β:Type}{f:α→β}{l:O α}{i:V}:ix (l.map f) i=(ix l i).map f:=by
 unfold ix
 split<;>simp
theorem M5{α:Type}{l:O α}{i:V}{x:α}(h:ix l i=E x):l[i.toNat]?=E x:=by
 unfold ix at h
 split at h
 ·exact h
 ·cases h
theorem ob{α β:Type}{o:U α}{f:α→U β}{r:β}(h:o.bind f=E r):∃a,o=E a∧f a=E r:=Option.bind_eq_some_iff.1 h
class FlatRow {α:Type} (row:α→O D):Prop where
 flat:∀x,∀d∈row x,d.flat=T
instance:FlatRow rI:=⟨fun _ d h=>by rw[B.1 h]; rfl⟩
instance:FlatRow r8:=⟨fun _ d h=>by rw[B.1 h]; rfl⟩
instance:FlatRow rB:=⟨fun _ d h=>by rw[B.1 h]; rfl⟩
instance:FlatRow rS:=⟨fun _ d h=>by rw[B.1 h]; rfl⟩
def E29:O RC→Prop
 | []=>True
 | c::cs=>c.flat∧E29 cs
theorem A7j{rs:O R1}{cs:O RC}(h:rs.flatMap R1.cells=cs)(hf:E29 cs):A5c rs:=by
 subst h
 unfold A5c
 generalize rs.flatMap R1.cells=l at hf
 induction l with
 | nil=>intro c hc; simp at hc
 | cons a l ih=>
  intro c hc
  rcases List.mem_cons.1 hc with rfl|hc
  ·exact hf.1
  ·exact ih hf.2 c hc
theorem A7p{α:Type}{row:α→O D} [FlatRow row]{sz:Y}{xs:O α}:RC.flat (.o sz (A row xs)):=by
 intro r hr
 obtain⟨x,_,rfl⟩:=List.mem_map.1 hr
 exact FlatRow.flat x
theorem A6c{α:Type}{row:α→O D}{z:α}{zs:O D}{n:Y}(h:row z=zs):I n zs=A row (I n z):=by rw[List.map_replicate,h]
theorem C9{α:Type}{b:W}{x:U α}{r:α}(h:(if b=T then x else G)=E r):b=T∧x=E r:=by
 cases b
 ·rw[if_neg Bool.false_ne_true] at h; cases h
 ·exact⟨rfl,by simpa using h⟩
theorem A1u{α:Type}{b:W}{x:U α}{r:α}(h:(if b=T then G else x)=E r):b=F∧x=E r:=by
 cases b
 ·exact⟨rfl,by simpa using h⟩
 ·rw[if_pos rfl] at h; cases h
theorem ic{α:Type}{b:W}{x y:U α}{r:α}(h:(if b=T then x else y)=E r):(b=T∧x=E r)∨(b=F∧y=E r):=by
 cases b with
 | true=>exact .inl ⟨rfl,h⟩
 | false=>exact .inr ⟨rfl,h⟩
section
variable {P : Program} {k : O Fr} {Q : Xo → St → Prop} {σ : St} {its : O AItem} {ds : O Q7} {o : AOp} {d : Y}
theorem B5{c:X2}(h:go P (.code c:: .code (.loop c)::k) Q .normal (E σ)):go P (.code (.loop c)::k) Q .normal (E σ):=by
 intro X hX
 refine hX σ (C8l c (fun e σ' h=> ?_) h)
 cases e with
 | normal=>exact h X hX
 | exit id=>exact h
 | ret=>exact h
 | pan d=>exact h
theorem F88(hm:P.follows .mixedOrders=T){f:FuncId}{c:X2}{ts:O RV}{nt:Y}{ds:O DV}{rs:O R1}{σ:St}(he:A5 P f=E (c.strip,ts,nt))(hl:Nat.ble ds.length nt=T)(hσ:St.init ds=σ)
  (h:go P [.code c] (Ret ts rs) .normal (E σ)):FC P f ds rs:=F9w hm he (Nat.le_of_ble_eq_true hl) fun _=>B2g (hσ▸h)
theorem C3(hm:P.follows .mixedOrders=T){f:FuncId}{c:X2}{ts:O RV}{nt:Y}{ds:O DV}{rs:O R1}(he:A5 P f=E (c.strip,ts,nt))(hl:Nat.ble ds.length nt=T)
  (h:go P [.code c] (Ret ts rs) .normal (E (St.init ds))):FC P f ds rs:=F88 hm he hl rfl h
theorem B9h{sz:Y}{es:O (O D)}(hf:σ.fresh d=T):σ.make (.row d sz es)=E {(σ.set d (.v (.sc (.own (d*64))))) with rows:=put σ.rows (d*64) (sz,es)}:=by simp[St.make,hf]
theorem A9w{cs:O AC}(hf:σ.fresh d=T)(hu:cs.all (fun c=> !c.uses d)=T):σ.make (.box d cs)=E {(σ.set d (.v (.sc (.pb d 0)))) with bx:=put σ.bx d cs}:=by simp only[St.make,hf,hu,zB,if_true]
theorem C6g{m:Mk}(ho:o.isMade=T)(hm:σ.made o=E m){σ':St}(hs:σ.make m=E σ')(H:go P (.ops its::k) Q .normal (E σ')):go P (.ops ((G,o)::its)::k) Q .normal (E σ):=by
 have hc:o.isCall=F:=by cases o<;>first | rfl | (simp[AOp.isMade] at ho; done)
 rw[Q6 hc,E6n ho,hm]
 show go P (.ops its::k) Q .normal (σ.make m)
 rw[hs]
 exact H
theorem B2{X:Opd}{y:V1}(hX:σ.val X= .v y)(hf:σ.fresh d=T)(hu:y.cells.all (fun c=> !c.uses d)=T)(H:go P (.ops its::k) Q .normal (E {(σ.set d (.v (.sc (.pb d 0)))) with bx:=put σ.bx d y.cells })) :
  go P (.ops ((G,.box d X)::its)::k) Q .normal (E σ):=C6g rfl (by simp only[St.made,hX]) (A9w hf hu) H
theorem B7{cs:O AC}(hf:σ.fresh d=T)(hu:cs.all (fun c=> !c.uses d)=T)(H:go P (.ops its::k) Q .normal (E {(σ.set d (.v (.sc (.pb d 0)))) with bx:=put σ.bx d cs })) :
  go P (.ops ((G,.alloc d cs)::its)::k) Q .normal (E σ):=C6g rfl rfl (A9w hf hu) H
theorem D6{sz:Y}{zs:O D}{len:Y}{ps:O (Y × Opd)}{es:O (O D)}(hm:σ.made (.bslice d sz zs len ps)=E (.row d sz es))(hf:σ.fresh d=T)
  (H:go P (.ops its::k) Q .normal (E {(σ.set d (.v (.sc (.own (d*64))))) with rows:=put σ.rows (d*64) (sz,es) })):go P (.ops ((G,.bslice d sz zs len ps)::its)::k) Q .normal (E σ):=C6g rfl hm (B9h hf) H
theorem E0l{L C:Opd}{l c:V}{bytes n sz:Y}{zs:O D}{es:O (O D)}(hl:asI (σ.val L)=E l)(hc:asI (σ.val C)=E c)(hb:mkS l c bytes=E n)(hz:zs.length=sz)(he:I n zs=es) :
  σ.made (.mksl d sz bytes zs L C)=E (.row d sz es):=by
 unfold mkS at hb
 split at hb
 ·rename_i h
  cases hb
  subst he
  simp only[St.made,hl,hc]
  rw[if_pos ⟨h.1,h.2.1,h.2.2.1,h.2.2.2,hz⟩]
 ·cases hb
theorem A7k{L C:Opd}{l c:V}{bytes n sz:Y}{zs:O D}{es:O (O D)}(hl:asI (σ.val L)=E l)(hc:asI (σ.val C)=E c)(hb:mkS l c bytes=E n)(hz:zs.length=sz)(he:I n zs=es)(hf:σ.fresh d=T)
  (H:go P (.ops its::k) Q .normal (E {(σ.set d (.v (.sc (.own (d*64))))) with rows:=put σ.rows (d*64) (sz,es) })):go P (.ops ((G,.mksl d sz bytes zs L C)::its)::k) Q .normal (E σ):=
 C6g rfl (E0l hl hc hb hz he) (B9h hf) H
theorem B6j{n:Y}{N:O Y}{m:Mk}(hm:(σ.less (n::N)).made o=E m)(hv:F0c (n::N) m=T){σ':St}(hs:σ.make m=E σ')(H:go P (.dops ds::k) Q .normal (E σ')) :
  go P (.dops ((E (n::N),G,o)::ds)::k) Q .normal (E σ):=E0p hm hv hs H
theorem A5a{α:Type}{env bx rows}{id sz i off n:Y}{xs:O α}{row:α→O D}{x y:α}{yv:V1}{dd:O D}(hd:yv.toDs=E dd)(hf:A3 rows id=E (sz,A row xs))
  (hx:xs[i]?=E x) (hn:dd.length=n) (ho:Nat.ble (off+n) (row x).length=T) (hy:B4w (row x) off dd=row y) (H:go P k Q .normal (E ⟨env,bx,put rows id (sz,A row (xs.set i y))⟩)) :
  go P k Q .normal (St.storeV ⟨env,bx,rows⟩ n (.v (.sc (.pe id i off))) (.v yv)):=by
 have e:St.storeV ⟨env,bx,rows⟩ n (.v (.sc (.pe id i off))) (.v yv)=E ⟨env,bx,put rows id (sz,A row (xs.set i y))⟩:=by
  simp only[St.storeV,hf,List.getElem?_map,hx,Option.map_some,hd]
  rw[if_pos ⟨hn,Nat.le_of_ble_eq_true ho⟩,hy,List.map_set]
 rw[e]
 exact H
end
def A8s{α:Type}:Y→O α→U (O α)
 | 0,l=>E l
 | _+1,[]=>G
 | n+1,_::l=>A8s n l
def B08{α:Type}:Y→O α→U (O α)
 | 0,_=>E []
 | _+1,[]=>G
 | n+1,c::l=>(B08 n l).map (c:: ·)
def A8q{α:Type}:O α→Y→W
 | [],0=>T
 | _::l,n+1=>A8q l n
 | _,_=>F
def A2z{α:Type}:O α→Y→W
 | _,0=>T
 | _::l,n+1=>A2z l n
 | [],_+1=>F
theorem B17{α:Type}:∀(n:Y) (l:O α),A8s n l=if n≤l.length then E (l.drop n) else G
 | 0,l=>by simp[A8s]
 | n+1,[]=>by simp[A8s]
 | n+1,c::l=>by simp[A8s,B17 n l]
theorem C7p{α:Type}:∀(n:Y) (l:O α),B08 n l=if n≤l.length then E (l.take n) else G
 | 0,l=>by simp[B08]
 | n+1,[]=>by simp[B08]
 | n+1,c::l=>by simp only[B08,C7p n l]; split<;>simp_all
theorem B9k{α:Type}:∀(l:O α) (n:Y),A8q l n=decide (l.length=n)
 | [],0=>by simp[A8q]
 | [],n+1=>by simp[A8q]
 | _::l,0=>by simp[A8q]
 | _::l,n+1=>by simp[A8q,B9k l n]
theorem B1v{α:Type}:∀(l:O α) (n:Y),A2z l n=decide (n≤l.length)
 | [],0=>by simp[A2z]
 | [],n+1=>by simp[A2z]
 | _::l,0=>by simp[A2z]
 | _::l,n+1=>by simp[A2z,B1v l n]
theorem E4i{α:Type}{l:O α}:A8s 0 l=E l:=by cases l<;>rfl
theorem E40{α:Type}{n:Y}{c:α}{l:O α}:A8s (n+1) (c::l)=A8s n l:=rfl
theorem E4b{α:Type}{l:O α}:B08 0 l=E []:=by cases l<;>rfl
theorem E49{α:Type}{n:Y}{c:α}{l:O α}:B08 (n+1) (c::l)=(B08 n l).map (c:: ·):=rfl
theorem E4u{α:Type}:A8q ([]:O α) 0=T:=rfl
theorem E4h{α:Type}{n:Y}{c:α}{l:O α}:A8q (c::l) (n+1)=A8q l n:=rfl
theorem E6r{α:Type}{l:O α}:A2z l 0=T:=by cases l<;>rfl
theorem E5c{α:Type}{n:Y}{c:α}{l:O α}:A2z (c::l) (n+1)=A2z l n:=rfl
theorem E7u{cs:O AC}{off n:Y}:A39 cs off T n=(A8s off cs).bind fun l=>(B08 n l).map fun l=> .v (.ag l):=by
 simp only[A39,cond_true,B17,C7p]
 by_cases h:off≤cs.length
 ·rw[if_pos h]
  by_cases h2:off+n≤cs.length
  ·rw[if_pos h2,Option.bind_some,if_pos (by simp; omega)]; rfl
  ·rw[if_neg h2,Option.bind_some,if_neg (by simp; omega)]; rfl
 ·rw[if_neg h,if_neg (by omega)]; rfl
theorem D9e{cs:O AC}:A37 cs 0 []=cs:=by simp[A37]
theorem D6w{c:AC}{cs ds:O AC}{n:Y}:A37 (c::cs) (n+1) ds=c::A37 cs n ds:=by
 simp only[A37,List.take_succ_cons,List.cons_append]
 rw[show n+1+ds.length=(n+ds.length)+1 by omega,List.drop_succ_cons]
theorem D8b{c d:AC}{cs ds:O AC}:A37 (c::cs) 0 (d::ds)=d::A37 cs 0 ds:=by simp[A37]
theorem A7s{α β:Type}{a:α}{f:α→U β}:(E a).bind f=f a:=rfl
theorem D4p{α β:Type}{f:α→U β}:(G:U α).bind f=G:=rfl
theorem get_map{α β:Type}{f:α→β}{l:O α}{i:Y}:(A f l)[i]?=(l[i]?).map f:=List.getElem?_map
theorem E1d{α:Type}{a:α}{l:O α}:(a::l)[0]?=E a:=rfl
theorem D8m{α:Type}{a:α}{l:O α}{n:Y}:(a::l)[n+1]?=l[n]?:=by simp
theorem E7y:A AC.dat []= []:=rfl
theorem E1e{d:D}{l:O D}:A AC.dat (d::l)= .dat d::A AC.dat l:=rfl
section
variable {P : Program} {k : O Fr} {Q : Xo → St → Prop} {σ : St} {its : O AItem} {env : O (Y × AV)} {bx : O (Y × O AC)} {rows : Rows}
theorem E03{α:Type}{rs:Rows}{sz:Y}{xs:O α}{row:α→O D} [Row row sz]{kd:IntKind}{i:V}:A5i rs sz (.v (.sc (.dat (.sl (A row xs))))) (.v (.sc (.dat (.int kd i))))=(ix xs i).map fun x=> .v (.sc (.dat (.pd (row x)))):=by
 simp only[A5i,C04]
 cases ix xs i with
 | none=>rfl
 | some x=>simp[Row.len (row:=row) (sz:=sz),Row.pos row]
theorem D7e{rs:Rows}{sz id:Y}{kd:IntKind}{i:V}:A5i rs sz (.v (.sc (.own id))) (.v (.sc (.dat (.int kd i))))=(A3 rs id).bind fun p=>(ix p.2 i).bind fun _=>bif p.1==sz then E (.v (.sc (.pe id i.toNat 0))) else G:=by
 simp only[A5i]
 cases A3 rs id with
 | none=>rfl
 | some p=>
  obtain⟨a,es⟩:=p
  simp only[A7s]
  cases ix es i with
  | none=>rfl
  | some x=>
   by_cases h:a=sz
   ·simp[h]
   ·have h':(a==sz)=F:=by simpa using h
    simp[h,h']
theorem E53{g:W}{n id off:Y}:A5x ⟨env,bx,rows⟩ g n (.v (.sc (.pb id off)))=(A3 bx id).bind fun cs=>A39 cs off g n:=by
 show(match A3 bx id with | some cs=>_ | none=>G)=_
 cases A3 bx id<;>rfl
theorem E33{g:W}{n id i off:Y}:A5x ⟨env,bx,rows⟩ g n (.v (.sc (.pe id i off)))=(A3 rows id).bind fun p=>(p.2[i]?).bind fun d=>A39 (A AC.dat d) off g n:=by
 simp only[A5x]
 cases A3 rows id with
 | none=>rfl
 | some p=>
  simp only[A7s]
  cases p.2[i]?<;>rfl
theorem E6l{g:W}{n:Y}{cs:O D}:A5x σ g n (.v (.sc (.dat (.pd cs))))=A39 (A AC.dat cs) 0 g n:=rfl
theorem F4c{rs:Rows}{off id i o:Y}:A2l rs off (.v (.sc (.pe id i o)))=(A3 rs id).map fun _=> .v (.sc (.pe id i (o+off))):=by
 simp only[A2l]
 cases A3 rs id<;>rfl
theorem F47{rs:Rows}{off:Y}{cs:O D}:A2l rs off (.v (.sc (.dat (.pd cs))))=(A8s off cs).map fun cs=> .v (.sc (.dat (.pd cs))):=by
 simp only[A2l,B17]
 split<;>rfl
theorem E1j{l:O V1}{i:Y}:B7z i (.tup l)=(l[i]?).map .v:=rfl
theorem E64{id off:Y}:B03 (.v (.sc (.pb id off)))=E (.v (.sc (.pb id off))):=rfl
theorem E6z{cs:O D}:B03 (.v (.sc (.dat (.pd cs))))=E (.v (.sc (.dat (.pd cs)))):=rfl
theorem E0c:A (St.val σ) []= []:=rfl
theorem D6c{x:Opd}{l:O Opd}:A (St.val σ) (x::l)=σ.val x::A (St.val σ) l:=rfl
theorem E4v{f:FuncId}:B2c f []=E []:=rfl
theorem E07{f:FuncId}{id:Y}{r:O AV}:B2c f (.v (.sc (.pb id 0))::r)=(B2c f r).map (id:: ·):=rfl
def D4l(K:O AC→U (O AC))(off n:Y)(cs:O AC):AV→U (O AC)
 | .v x=>bif A8q x.cells n&&A2z cs (off+n) then K (A37 cs off x.cells) else G
 | _=>G
def B56(σ:St):O (Y × Y × Opd)→O AC→U (O AC)
 | [],cs=>E cs
 | (off,n,x)::r,cs=>D4l (B56 σ r) off n cs (σ.val x)
theorem C2i:∀(ps:O (Y × Y × Opd)) (cs:O AC),A71 cs (ps.map fun p=>(p.1,p.2.1,σ.val p.2.2))=B56 σ ps cs
 | [],cs=>rfl
 | (off,n,x)::r,cs=>by
  simp only[List.map_cons,B56]
  generalize σ.val x=v
  cases v with
  | v y=>
   simp only[A71,D4l,B9k,B1v]
   by_cases h1:y.cells.length=n
   ·by_cases h2:off+n≤cs.length
    ·subst h1
     simp only[h2,and_self,if_true,decide_true,zB,cond_true]
     exact C2i r _
    ·simp[h1,h2]
   ·simp[h1]
  | _=>rfl
theorem E6p{cs:O AC}:B56 σ [] cs=E cs:=rfl
theorem D9p{off n:Y}{x:Opd}{r:O (Y × Y × Opd)}{cs:O AC}:B56 σ ((off,n,x)::r) cs=D4l (B56 σ r) off n cs (σ.val x):=rfl
theorem F01{K:O AC→U (O AC)}{off n:Y}{cs:O AC}{x:V1}:D4l K off n cs (.v x)=bif A8q x.cells n&&A2z cs (off+n) then K (A37 cs off x.cells) else G:=rfl
theorem F07{d zs ps}:go P (.ops ((G,.build d zs ps)::its)::k) Q .normal (E σ)=go P (.ops its::k) Q .normal (J3 σ d ((B56 σ ps zs).map fun cs=> .v (.ag cs))):=by rw[D9k,C2i]
theorem E9v{d zs ps}:σ.step (.build d zs ps)=J3 σ d ((B56 σ ps zs).map fun cs=> .v (.ag cs)):=by rw[C1z,C2i]
theorem E1r{n id off:Y}{y:V1}:St.storeV ⟨env,bx,rows⟩ n (.v (.sc (.pb id off))) (.v y)=(A3 bx id).bind fun cs=>bif A8q y.cells n&&A2z cs (off+n) then E ⟨env,put bx id (A37 cs off y.cells),rows⟩ else G:=by
 simp only[St.storeV,B9k,B1v]
 cases A3 bx id with
 | none=>rfl
 | some cs=>
  simp only[A7s]
  by_cases h1:y.cells.length=n
  ·by_cases h2:off+n≤cs.length
   ·simp[h1,h2]
   ·simp[h1,h2]
  ·simp[h1]
def C02(sz:Y)(es:O (O D)):W:=es.all fun r=>r.length==sz
theorem D21{α:Type}{sz:Y}{row:α→O D} [Row row sz]{xs:O α}:C02 sz (A row xs)=T:=D04 (Row.len (row:=row)) xs
theorem E71{d sz bytes id:Y}{y:AV}:St.appV ⟨env,bx,rows⟩ d sz bytes (.v (.sc (.own id))) y=bif id / 99999999999==0 then((A3 rows id).bind fun p=>(appSrc rows y).bind fun es'=>
  bif (p.1==sz)&&(C02 sz es'&&B9 p.2.length es'.length bytes) then E ⟨put (env.map fun p=>(p.1,p.2.map (AC.kill id))) d (.v (.sc (.own id))),bx.map fun p=>(p.1,p.2.map (AC.kill id)),put rows id (sz,p.2++es')⟩ else G) else G:=by
 simp only[St.appV]
 by_cases h0:id / 99999999999=0
 rotate_left
 ·rw[if_neg h0,show(id / 99999999999==0)=F by simpa using h0]
  rfl
 rw[if_pos h0,show(id / 99999999999==0)=T by simpa using h0,cond_true]
 cases A3 rows id with
 | none=>rfl
 | some p=>
  obtain⟨a,es⟩:=p
  simp only[A7s]
  cases appSrc rows y with
  | none=>rfl
  | some es'=>
   simp only[A7s]
   by_cases h1:a=sz
   ·by_cases h2:C02 sz es'=T
    ·by_cases h3:B9 es.length es'.length bytes=T
     ·have h3':=of_decide_eq_true h3
      rw[if_pos ⟨h1,h2,h3'.1,h3'.2⟩]
      simp only[h1,beq_self_eq_true,h2,h3,zB,cond_true]
      rfl
     ·have h3':B9 es.length es'.length bytes=F:=by simpa using h3
      rw[if_neg (fun h=>h3 (decide_eq_true ⟨h.2.2.1,h.2.2.2⟩))]
      simp[h3']
    ·have h2':C02 sz es'=F:=by simpa using h2
     rw[if_neg (fun h=>h2 h.2.1)]
     simp[h2']
   ·have h1':(a==sz)=F:=by simpa using h1
    rw[if_neg (fun h=>h1 h.1)]
    simp[h1']
theorem E5t{rs:Rows}{es:O (O D)}:appSrc rs (.v (.sc (.dat (.sl es))))=E es:=rfl
theorem E7g{rs:Rows}:appSrc rs (.v (.sc .nil))=E []:=rfl
theorem E7c{rs:Rows}{id:Y}:appSrc rs (.v (.sc (.own id)))=(A3 rs id).map fun p=>p.2:=by
 simp only[appSrc,toD0]
 cases A3 rs id<;>rfl
theorem E65{α:Type}{f:α→O D}{a b:O α}:A f a++A f b=A f (a++b):=List.map_append.symm
def B3m(σ:St)(n:Y):U Opd→U V
 | none=>E n
 | some x=>asI (σ.val x)
def B9a(n:Y):U V→U V→U V→U (Y × Y)
 | some m,E h,E l=>bnd m h l n
 | _,_,_=>G
theorem C2k{lo hi mx:U Opd}{n:Y}:B1t σ lo hi mx n=B9a n (B3m σ n mx) (B3m σ n hi) (match lo with | none=>E 0 | some x=>asI (σ.val x)):=by
 cases mx<;>cases hi<;>cases lo<;>(simp only[B1t,B9a,B3m]; first | rfl | (split<;>simp_all[B9a,bnd]))
def C8g(σ:St):U Opd→U V
 | none=>E 0
 | some x=>asI (σ.val x)
theorem E6b{α:Type}{sz:Y}{lo hi mx:U Opd}{xs:O α}{row:α→O D} [Row row sz]:B16 σ sz (.v (.sc (.dat (.sl (A row xs))))) lo hi mx=(B9a xs.length (B3m σ xs.length mx) (B3m σ xs.length hi) (C8g σ lo)).map fun p=> .v (.sc (.dat (.sl (A row ((xs.drop p.1).take (p.2 - p.1)))))):=by
 have h:(A row xs).all (fun d=>d.length==sz)=T:=D04 (Row.len (row:=row)) xs
 simp only[B16,h,Row.pos row (sz:=sz),decide_true,zB,if_true,List.length_map,C2k]
 cases lo<;>simp[C8g,List.map_drop,List.map_take]
theorem E32{lo hi:U Opd}{s:O UInt8}:B24 σ (.v (.sc (.dat (.str s)))) lo hi=(B9a s.length (B3m σ s.length G) (B3m σ s.length hi) (C8g σ lo)).map fun p=> .v (.sc (.dat (.str ((s.drop p.1).take (p.2 - p.1))))):=by
 simp only[B24,C2k]
 cases lo<;>rfl
theorem F1s{n:Y}:B3m σ n G=E (n:V):=rfl
theorem E9f{n:Y}{x:Opd}:B3m σ n (E x)=asI (σ.val x):=rfl
theorem E9s:C8g σ G=E 0:=rfl
theorem F02{x:Opd}:C8g σ (E x)=asI (σ.val x):=rfl
theorem F9p{kd:IntKind}{i:V}:asI (.v (.sc (.dat (.int kd i))))=E i:=rfl
theorem F0o{n:Y}{m h l:V}:B9a n (E m) (E h) (E l)=bnd m h l n:=rfl
theorem E69{x y:O UInt8}:B6z .add x y=bif B1z x.length y.length then E (.str (x++y)) else G:=by
 simp only[B6z,B1z]
 by_cases h:x.length+y.length≤4611686018427387904
 ·simp[h]
 ·simp[h]
theorem E66{k:IntKind}{x y:V}:N6 .and k x y=E (.int k (K6 .and k x y)):=rfl
theorem F0s{k:IntKind}{x y:V}:N6 .or k x y=E (.int k (K6 .or k x y)):=rfl
theorem E6j{k:IntKind}{x y:V}:N6 .xor k x y=E (.int k (K6 .xor k x y)):=rfl
theorem E9z:(T==T)=T:=rfl
theorem F1a:(T==F)=F:=rfl
theorem F0z:(F==T)=F:=rfl
theorem E30:(F==F)=T:=rfl
theorem F0y{b:W}:(F&&b)=F:=rfl
end
def E3d{α:Type}(k:Y):U α→O (Y × α)→O (Y × α)
 | some v,r=>(k,v)::r
 | none,r=>r
theorem D6i{α:Type}{l:O (Y × α)}:A4t l []= []:=rfl
theorem D1n{α:Type}{l:O (Y × α)}{k:Y}{ks:O Y}:A4t l (k::ks)=E3d k (A3 l k) (A4t l ks):=by
 show(match A3 l k with | some v=>_ | none=>_)=_
 cases A3 l k<;>rfl
theorem D19{α:Type}{k:Y}{v:α}{r:O (Y × α)}:E3d k (E v) r=(k,v)::r:=rfl
theorem E38{env bx rows ks bs rs}:(St.mk env bx rows).kept ks bs rs=⟨A4t env ks,A4t bx bs,A4t rows rs⟩:=rfl
theorem E7o{P:Program}{k:O Fr}{Q:Xo→St→Prop}{σ:St}{its:O AItem}{ks bs rs:O Y}:go P (.ops ((G,.keep ks bs rs)::its)::k) Q .normal (E σ)=go P (.ops its::k) Q .normal (E (σ.kept ks bs rs)):=Q6 rfl
theorem E8p{b:W}{x y:AV}:B7l (.v (.sc (.dat (.bool b)))) x y=E (bif b then x else y):=rfl
theorem F9m{g x y:W}:C2z g (.v (.sc (.dat (.bool x)))) (.v (.sc (.dat (.bool y))))=E (.v (.sc (.dat (.bool (bif g then !(x==y) else x==y))))):=rfl
theorem G08{m:W}{k:IntKind}{x y:V}:mmV m (.v (.sc (.dat (.int k x)))) (.v (.sc (.dat (.int k y))))=E (.v (.sc (.dat (.int k (bif m then(if x<y then y else x) else(if y<x then y else x)))))):=by simp[mmV]
theorem E9q{k:IntKind}{x:V}:unV .neg (.v (.sc (.dat (.int k x))))=E (.v (.sc (.dat (.int k (k.wrap (0 - x)))))):=rfl
theorem F4d{rs:Rows}{off id o:Y}:A2l rs off (.v (.sc (.pb id o)))=E (.v (.sc (.pb id (o+off)))):=rfl
theorem E6x{rs:Rows}{id:Y}:B1u rs (.v (.sc (.own id)))=(A3 rs id).map fun p=> .v (.sc (.dat (.int .i64 p.2.length))):=by
 show(match A3 rs id with | some (_,es)=>_ | none=>_)=_
 cases A3 rs id<;>rfl
theorem D9m{k:Y}:A70 k []= []:=rfl
theorem D69{k:Y}{d:DV}{ds:O DV}:A70 k (d::ds)=(k,d.av)::A70 (k+1) ds:=rfl
theorem E5z{ds:O DV}:St.init ds=⟨A70 0 ds,[],[]⟩:=rfl
theorem F3m{d:D}:DV.av (.sc d)= .v (.sc (.dat d)):=rfl
theorem F91{ds:O D}:DV.av (.ag ds)= .v (.ag (ds.map .dat)):=rfl
theorem E8m{f:AC→AC}:A (V1.map f) []= []:=rfl
theorem E3v{f:AC→AC}{x:V1}{l:O V1}:A (V1.map f) (x::l)=x.map f::A (V1.map f) l:=rfl
theorem D8r{f:AC→AC}:A (fun p:Y × AV=>(p.1,p.2.map f)) []= []:=rfl
theorem D60{f:AC→AC}{k:Y}{v:AV}{l:O (Y × AV)}:A (fun p:Y × AV=>(p.1,p.2.map f)) ((k,v)::l)=(k,v.map f)::A (fun p:Y × AV=>(p.1,p.2.map f)) l:=rfl
theorem E2g{f:AC→AC}:A (fun p:Y × O AC=>(p.1,p.2.map f)) []= []:=rfl
theorem D54{f:AC→AC}{k:Y}{v:O AC}{l:O (Y × O AC)}:A (fun p:Y × O AC=>(p.1,p.2.map f)) ((k,v)::l)=(k,v.map f)::A (fun p:Y × O AC=>(p.1,p.2.map f)) l:=rfl
theorem E0f{f:AC→AC}:A f ([]:O AC)= []:=rfl
theorem D7m{f:AC→AC}{c:AC}{l:O AC}:A f (c::l)=f c::A f l:=rfl
theorem D9l{α β:Type}{f:α→β}{l:O α}:(A f l).length=l.length:=List.length_map ..
theorem D52{c:AC}:V1.cells (.sc c)= [c]:=rfl
theorem D71{cs:O AC}:V1.cells (.ag cs)=cs:=rfl
theorem F3r{f:AC→AC}{env bx rows}:(St.mk env bx rows).map f=⟨env.map fun p=>(p.1,p.2.map f),bx.map fun p=>(p.1,p.2.map f),rows⟩:=rfl
theorem E0y{f:AC→AC}{c:AC}:AV.map f (.v (.sc c))= .v (.sc (f c)):=rfl
theorem E0j{f:AC→AC}{cs:O AC}:AV.map f (.v (.ag cs))= .v (.ag (cs.map f)):=rfl
theorem E47{f:AC→AC}:AV.map f .undef= .undef:=rfl
theorem E7q{f:AC→AC}:AV.map f .no= .no:=rfl
theorem E3w{f:AC→AC}{l:O V1}:AV.map f (.tup l)= .tup (l.map (V1.map f)):=rfl
theorem D9w{f:AC→AC}{c:AC}:V1.map f (.sc c)= .sc (f c):=rfl
theorem E2f{f:AC→AC}{cs:O AC}:V1.map f (.ag cs)= .ag (cs.map f):=rfl
theorem E8u{id:Y}{d:D}:AC.kill id (.dat d)= .dat d:=rfl
theorem F04{id:Y}:AC.kill id .nil= .nil:=rfl
theorem E86{id:Y}:AC.kill id .undef= .undef:=rfl
theorem E9e{id i:Y}:AC.kill id (.own i)=bif i==id then .undef else .own i:=rfl
theorem E9b{id i a b:Y}:AC.kill id (.osub i a b)=bif i==id then .undef else .osub i a b:=rfl
theorem E75{id i a b:Y}:AC.kill id (.pe i a b)=bif i==id then .undef else .pe i a b:=rfl
theorem E99{id i a:Y}:AC.kill id (.pb i a)= .pb i a:=rfl
theorem F1m{id f:Y}{is:O Y}:AC.kill id (.clo f is)= .clo f is:=rfl
theorem F8h{id:Y}{es:O (O D)}{d:D}:AC.frz id es (.dat d)= .dat d:=rfl
theorem F8c{id:Y}{es:O (O D)}:AC.frz id es .nil= .nil:=rfl
theorem F6t{id:Y}{es:O (O D)}:AC.frz id es .undef= .undef:=rfl
theorem F5v{id i:Y}{es:O (O D)}:AC.frz id es (.own i)=bif i==id then .dat (.sl es) else .own i:=rfl
theorem F9u{id i a b:Y}{es:O (O D)}:AC.frz id es (.osub i a b)=bif i==id then .undef else .osub i a b:=rfl
theorem F4o{id i a b:Y}{es:O (O D)}:AC.frz id es (.pe i a b)=bif i==id then .undef else .pe i a b:=rfl
theorem F28{id i a:Y}{es:O (O D)}:AC.frz id es (.pb i a)= .pb i a:=rfl
theorem F63{id f:Y}{es:O (O D)}{is:O Y}:AC.frz id es (.clo f is)= .clo f is:=rfl
theorem O1{P:Program}{k:O Fr}{Q:Xo→St→Prop}{σ:St}{its:O AItem}{id sz:Y}{es:O (O D)}(hf:A3 σ.rows id=E (sz,es))(H:go P (.ops its::k) Q .normal (E {(σ.map (AC.frz id es)) with rows:=erase σ.rows [id] }))(h0:(id / 99999999999==0)=T:=by rfl) :
  go P (.ops ((G,.frz id)::its)::k) Q .normal (E σ):=by
 rw[F0q]
 simp only[St.step,hf,h0,Bool.not_true,Bool.false_eq_true,if_false]
 exact H
theorem A4d{P:Program}{k:O Fr}{Q:Xo→St→Prop}{σ:St}{its:O AItem}{b j id sz:Y}{cs cs':O AC}(h1:σ.has id=F)(h2:A3 σ.bx b=E cs)(h3:cs[j]?=E .nil)(h4:cs.set j (.own id)=cs')
  (H:go P (.ops its::k) Q .normal (E {σ with bx:=put σ.bx b cs',rows:=put σ.rows id (sz,[]) })) (h0:(id / 99999999999==0)=T:=by rfl):go P (.ops ((G,.ownb b j id sz)::its)::k) Q .normal (E σ):=by
 rw[E7w]
 subst h4
 simp only[St.step,h1,h2,h3,h0,Bool.not_true,Bool.or_self,Bool.false_eq_true,if_false]
 exact H
theorem D76{α:Type}{ks:O Y}:erase ([]:O (Y × α)) ks= []:=rfl
theorem D72{α:Type}{k n:Y}{v:α}{r:O (Y × α)}:erase ((k,v)::r) [n]=bif k==n then erase r [n] else(k,v)::erase r [n]:=by
 by_cases h:k=n
 ·simp[erase,h]
 ·have h':(k==n)=F:=by simpa using h
  simp[erase,h,h']
theorem E4e{ts:O RV}{rs:O R1}{σ:St}:Ret ts rs .ret σ=(OutVs σ ts rs∧A8e (A3w σ ts rs)=T):=rfl
theorem E12{ts:O RV}{rs:O R1}{σ:St}:Ret ts rs .normal σ=(OutVs σ ts rs∧A8e (A3w σ ts rs)=T):=rfl
theorem D39{σ:St}{t:RV}{ts:O RV}{r:R1}{rs:O R1}:OutVs σ (t::ts) (r::rs)=(D5f σ.rows (B35 σ t) r∧OutVs σ ts rs):=rfl
theorem C8c{σ:St}{t:RV}{ts:O RV}{r:R1}{rs:O R1}:A3w σ (t::ts) (r::rs)=C7z (B35 σ t) r++A3w σ ts rs:=rfl
theorem E0q{σ:St}{a n:Y}{g:W}:B35 σ (.c a g n)=(A5x σ g n (σ.get a)).getD .undef:=rfl
def I2:=Z @E4e (Z @E12 (Z @D39 (Z @C8c @E0q)))
set_option maxRecDepth 4000 in
def E94:=Z @E6e (Z @E9i (Z @E4y (Z @E85 (Z @E8g (Z @F83 (Z @E8d (Z @D9t (Z @E7h (Z @E8k (Z @E39 (Z @D9a (Z @E1x (Z @C8r (Z @C9s (Z @F1u (Z @D5v (Z @D5c (Z @C94 (Z @C3q (Z @D8d (Z @D6g (Z @D53 (Z @D7l (Z @D7k (Z @E00 (Z @D7r (Z @E6a (Z @E1v (Z @F7q (Z @F10 (Z @F1g (Z @F1j (Z @getD_some (Z @D6k (Z @map_some (Z @map_none (Z @E1y (Z @F0p (Z @D82 (Z @D7x (Z @E4z (Z @D8q (Z @E6g (Z @E3x (Z @E3z (Z @E6v (Z @E4j (Z @E5o (Z @E67 (Z @E4t (Z @E7l (Z @E5g (Z @E5j (Z @E34 (Z @E42 (Z @E7n (Z @E7v (Z @E74 (Z @E6u (Z @F1c (Z @E0w (Z @E5e (Z @F7h (Z @F7a (Z @F6h (Z @E0x (Z @E5n (Z @E7a (Z @E8t (Z @E8z (Z @F2t (Z @E7r (Z @E8i (Z @E4n (Z @E0a (Z @D9g (Z @E1s (Z @E9y (Z @E4g (Z @E9r (Z @D9j (Z @E44 (Z @F2d (Z @F0l (Z @E0u (Z @E9l (Z @C9p (Z @E5b (Z @C9k (Z @C9x (Z @C80 (Z @C4x (Z @E1b (Z @E1q (Z @F0d (Z @E8v (Z @E5p (Z @E7i (Z @C4y (Z @C2y (Z @D0j (Z @C90 (Z @C9u (Z @D9y (Z @E0t (Z @C40 (Z @C9o (Z @C92 (Z @D1o (Z @D0d (Z @E5i (Z @D9d (Z @D8t (Z @E0s (Z @F9g (Z @E36 (Z @E2e (Z @E4d (Z @E50 (Z @E8a (Z @F09 (Z @F7z (Z @E41 (Z @E78 (Z @E7z (Z @E1p (Z @E0g (Z @D9z (Z @D8p (Z @E8w (Z @E5v (Z @F0j (Z @E05 (Z @E6c (Z @F19 (Z @E8n (Z @E88 (Z @D8w (Z @D6x (Z @E3y (Z @F3s (Z @E43 (Z @D83 (Z @E52 (Z @E7t (Z @F1b (Z @F1q (Z @F7g (Z @E5f (Z @E9k (Z @E6f (Z @E17 (Z @E10 (Z @D9r (Z @E1o (Z @E8l (Z @E45 (Z @F0f (Z @D8x (Z @E7k (Z @F2m (Z @E9h (Z @E2c (Z @D98 (Z @F2x (Z @F5r (Z @F45 (Z @E6t (Z @E0b (Z @D57 (Z @E2b (Z @E4x (Z @E6y (Z @D8l (Z @D80 (Z @E8x (Z @E79 (Z @F0m (Z @F3x (Z @F3i (Z @E9c (Z @F73 (Z @D4v (Z @D7t (Z @F0h (Z @F1f (Z @F0k (Z @E76 (Z @E1c (Z @D78 (Z @E11 (Z @D8u (Z @E7m (Z @E4s (Z @F00 (Z @D8z (Z @E61 (Z @D97 (Z @D59 (Z @D64 (Z @D7j (Z @D6f (Z @E5y (Z @E2k (Z @E58 (Z @D6n (Z @D9b (Z @E9o (Z @E7f (Z @E5q (Z @D63 (Z @D1v (Z @E2d (Z @D90 (Z @D7p (Z @D1j (Z @C3a (Z @C37 (Z @C3j (Z @C8m (Z @C78 (Z @D1e (Z @C3u (Z @C7m (Z @C3i (Z @B97 (Z @C0w (Z @C0j (Z @C76 (Z @C3b (Z @C87 (Z @C01 (Z @C3s (Z @D0u (Z @C7v (Z @D6i (Z @D1n (Z @D19 (Z @E38 (Z @E7o (Z @E8p (Z @F9m (Z @G08 (Z @E9q (Z @F4d (Z @E6x (Z @D9m (Z @D69 (Z @E5z (Z @F3m (Z @F91 (Z @D9l (Z @D52 (Z @D71 (Z @F3r (Z @E0y (Z @E0j (Z @E47 (Z @E3w (Z @D9w (Z @E2f (Z @E8u (Z @F04 (Z @E86 (Z @E9e (Z @E9b (Z @E75 (Z @E99 (Z @F1m (Z @F8h (Z @F8c (Z @F6t (Z @F5v (Z @F9u (Z @F4o (Z @F28 (Z @F63 (Z @D76 (Z @D72 (Z @E4i (Z @E40 (Z @E4b (Z @E49 (Z @E4u (Z @E4h (Z @E6r (Z @E5c (Z @E7u (Z @D9e (Z @D6w (Z @D8b (Z @A7s (Z @D4p (Z @get_map (Z @E1d (Z @D8m (Z @E7y (Z @E1e (Z @E03 (Z @D7e (Z @E53 (Z @E33 (Z @E6l (Z @F4c (Z @F47 (Z @E1j (Z @E64 (Z @E6z (Z @E0c (Z @D6c (Z @E4v (Z @E07 (Z @E6p (Z @D9p (Z @F01 (Z @F07 (Z @E9v (Z @E1r (Z @D21 (Z @E71 (Z @E5t (Z @E7g (Z @E7c (Z @E65 (Z @E6b (Z @E32 (Z @F1s (Z @E9f (Z @E9s (Z @F02 (Z @F9p (Z @F0o (Z @E69 (Z @E66 (Z @F0s (Z @E6j (Z @E9z (Z @F1a (Z @F0z (Z @E30 (Z @F0y (Z @C04 (Z @E2r (Z @C3h (Z @F9o (Z @F5u (Z @F5g (Z @F6o (Z @E8m (Z @E3v (Z @D8r (Z @D60 (Z @E2g (Z @D54 (Z @E0f (Z @D7m (Z @F8y (Z @D7s @E7q))))))))))))))))))))))))))))))))))))))))))))))))))))))))))))))))))))))))))))))))))))))))))))))))))))))))))))))))))))))))))))))))))))))))))))))))))))))))))))))))))))))))))))))))))))))))))))))))))))))))))))))))))))))))))))))))))))))))))))))))))))))))))))))))))))))))))))))))))))))))))))))))))))))))))))))))))))))))))))))))))))))))))))))))))))))))))))))))))))))
theorem E0e{env:O (Y × AV)}{bx:O (Y × O AC)}{rows:Rows}{d:Y}{ids:O Y}{R1:I7}{r:D}:St.instX ⟨env,bx,rows⟩ d ids R1 r=⟨put env d (.v (.sc (.dat r))),bx,A8b rows ids R1⟩:=rfl
theorem D7h{rs:Rows}{id:Y}{ids:O Y}{r:Y × O (O D)}{R:I7}:A8b rs (id::ids) (r::R)=A8b (put rs id r) ids R:=rfl
theorem E0v{rs:Rows}:A8b rs [] []=rs:=rfl
theorem F1r{N:O Y}:AV.avoids N (.v (.sc .z))=T:=by simp[AV.avoids,AV.cells,V1.cells,AC.avoids,AC.uses]
theorem G0q{P:Program}{k:O Fr}{Q:Xo→St→Prop}{σ:St}{N:O Y}{d:Y}{its:O Q7}:go P (.dops ((E N,G,.zsl d)::its)::k) Q .normal (E σ)=go P (.dops its::k) Q .normal (E (σ.set d (.v (.sc .z)))):=by
 rw[N0 rfl]
 show go P _ Q .normal (bif (((σ.less N).set d (.v (.sc .z))).get d).avoids N then E (σ.set d (((σ.less N).set d (.v (.sc .z))).get d)) else G)=_
 rw[St.get_set_same,F1r]
 rfl
theorem E4l{N:O Y}:AV.avoids N (.tup [])=T:=rfl
theorem F03{N:O Y}{x:V1}{l:O V1}:AV.avoids N (.tup (x::l))=((AV.v x).avoids N&&(AV.tup l).avoids N):=by simp[AV.avoids,AV.cells]
theorem E8h{t:TypeId}{d:D}:B2t t (.v (.sc (.dat d)))=E (.v (.sc (.dat (.ifc t d)))):=rfl
theorem F1n{t u:TypeId}{zc:AC}{d:D}:B2q t zc (.v (.sc (.dat (.ifc u d))))=bif u==t then E (.tup [.sc (.dat d),.sc (.dat (.bool T))]) else E (.tup [.sc zc,.sc (.dat (.bool F))]):=rfl
theorem F0e{id:Y}{ds:O D}{d:D}:AC.frzb id ds (.dat d)= .dat d:=rfl
theorem F1i{id:Y}{ds:O D}:AC.frzb id ds .nil= .nil:=rfl
theorem F0a{id:Y}{ds:O D}:AC.frzb id ds .undef= .undef:=rfl
theorem E8s{id i:Y}{ds:O D}:AC.frzb id ds (.own i)= .own i:=rfl
theorem F1t{id i a b:Y}{ds:O D}:AC.frzb id ds (.osub i a b)= .osub i a b:=rfl
theorem E91{id i a b:Y}{ds:O D}:AC.frzb id ds (.pe i a b)= .pe i a b:=rfl
theorem F0g{id i a:Y}{ds:O D}:AC.frzb id ds (.pb i a)=bif i==id then .dat (.pd (ds.drop a)) else .pb i a:=rfl
theorem F35{a b:Y}{d:D}:AC.ren a b (.dat d)= .dat d:=rfl
theorem F66{a b:Y}:AC.ren a b .nil= .nil:=rfl
theorem F76{a b:Y}:AC.ren a b .undef= .undef:=rfl
theorem F24{a b i:Y}:AC.ren a b (.own i)= .own (bif i==a then b else i):=rfl
theorem F64{a b i x y:Y}:AC.ren a b (.osub i x y)= .osub (bif i==a then b else i) x y:=rfl
theorem F4h{a b i x y:Y}:AC.ren a b (.pe i x y)= .pe (bif i==a then b else i) x y:=rfl
theorem F4r{a b i x:Y}:AC.ren a b (.pb i x)= .pb i x:=rfl
theorem E5k{t:TypeId}{a b:D}:B2t t (.v (.ag [.dat a,.dat b]))=E (.v (.sc (.dat (.ifs t [a,b])))):=rfl
def FCq(P:Program)(f:FuncId)(ds:O DV)(rs:O R1):U D→Prop
 | none=>FC P f ds rs
 | some d=>FCp P f ds d
theorem FCq.none{P:Program}{f:FuncId}{ds:O DV}{rs:O R1}{pd:U D}(h:FCq P f ds rs pd)(hp:pd=G):FC P f ds rs:=by subst hp; exact h
theorem FCq.some{P:Program}{f:FuncId}{ds:O DV}{rs:O R1}{pd:U D}{d:D}(h:FCq P f ds rs pd)(hp:pd=E d):FCp P f ds d:=by subst hp; exact h
theorem E8j{t:TypeId}{id:Y}:B2t t (.v (.sc (.pb id 0)))=E (.v (.sc (.ipb t id))):=rfl
theorem E92{id i:Y}{t:TypeId}:AC.kill id (.ipb t i)= .ipb t i:=rfl
theorem F3g{id i:Y}{t:TypeId}{es:O (O D)}:AC.frz id es (.ipb t i)= .ipb t i:=rfl
theorem E96{g:W}{ks:O FK}{cs ds:O AC}:C20 g ks (.v (.ag cs)) (.v (.ag ds))=(A2a ks cs ds).map fun b=> .v (.sc (.dat (.bool (bif g then !b else b)))):=rfl
theorem F25:A2a [] [] []=E T:=rfl
theorem F56{k:IntKind}{x y:V}{ks:O FK}{cs ds:O AC}:A2a (.i::ks) (.dat (.int k x)::cs) (.dat (.int k y)::ds)=(A2a ks cs ds).map fun b=>(x==y)&&b:=if_pos rfl
theorem F69{x y:W}{ks:O FK}{cs ds:O AC}:A2a (.b::ks) (.dat (.bool x)::cs) (.dat (.bool y)::ds)=(A2a ks cs ds).map fun b=>(x==y)&&b:=rfl
theorem F5e{x y:O UInt8}{ks:O FK}{cs ds:O AC}:A2a (.s::ks) (.dat (.str x)::cs) (.dat (.str y)::ds)=(A2a ks cs ds).map fun b=>(x==y)&&b:=rfl
def F1e:=Z @F1r (Z @G0q (Z @E4l (Z @F03 (Z @E0e (Z @D7h (Z @E0v (Z @E31 (Z @E5h (Z @C3d (Z @C4g (Z @E7j (Z @E4f (Z @D9q (Z @E7d (Z @E5u (Z @D96 (Z @E8h (Z @F1n (Z @F0e (Z @F1i (Z @F0a (Z @E8s (Z @F1t (Z @E91 (Z @F0g (Z @E8j (Z @E92 (Z @F3g (Z @F35 (Z @F66 (Z @F76 (Z @F24 (Z @F64 (Z @F4h (Z @F4r (Z @E8r (Z @E9x (Z @C9q (Z @D3u (Z @E5k (Z @C84 (Z @E9p (Z @E98 (Z @E9n (Z @E46 (Z @E96 (Z @F25 (Z @F56 (Z @F69 @F5e)))))))))))))))))))))))))))))))))))))))))))))))))
end Go.Vi
