/-
The value level. No condition.
-/
import Derived.Test.YtjaofdfehibjhaaGreatDoorSVi28
namespace Go.Vi
set_option linter.all false
open And renaming intro → Z
open List renaming map → A, mem_singleton → B, replicate → I
open Nat renaming one_pos → zA
open Bool renaming and_self → zB, true → T, false → F
open Option renaming some → E, none → G
open _root_ renaming List → O, Option → U, Int → V, Bool → W, Nat → Y
abbrev S(n:Y):Opd:= .t n
abbrev K(n:V):Opd:= .c (.v (.sc (.dat (.int .i64 n))))
abbrev K8(n:V):Opd:= .c (.v (.sc (.dat (.int .u8 n))))
abbrev KB(b:W):Opd:= .c (.v (.sc (.dat (.bool b))))
abbrev KS(s:O UInt8):Opd:= .c (.v (.sc (.dat (.str s))))
abbrev KN:Opd:= .c (.v (.sc .nil))
abbrev aI(n:V):AC:= .dat (.int .i64 n)
abbrev a8(n:V):AC:= .dat (.int .u8 n)
abbrev aB(b:W):AC:= .dat (.bool b)
abbrev aS(s:O UInt8):AC:= .dat (.str s)
abbrev aL(es:O (O D)):AC:= .dat (.sl es)
abbrev vc(c:AC):AV:= .v (.sc c)
abbrev va(cs:O AC):AV:= .v (.ag cs)
def rI(n:V):O D:= [.int .i64 n]
def r8(n:V):O D:= [.int .u8 n]
def rB(b:W):O D:= [.bool b]
def rS(s:O UInt8):O D:= [.str s]
def rL{α:Type}(row:α→O D)(xs:O α):O D:= [.sl (xs.map row)]
class Row {α:Type} (row:α→O D) (sz:Y):Prop where
 len:∀x,(row x).length=sz
 pos:0<sz
instance:Row rI 1:=⟨fun _=>rfl,zA⟩
instance:Row r8 1:=⟨fun _=>rfl,zA⟩
instance:Row rB 1:=⟨fun _=>rfl,zA⟩
instance:Row rS 1:=⟨fun _=>rfl,zA⟩
instance {α:Type} (row:α→O D):Row (rL row) 1:=⟨fun _=>rfl,zA⟩
theorem E3r(n:V):rI n= [.int .i64 n]:=rfl
def C7y(n:V):UInt8:=UInt8.ofNat n.toNat
theorem C3b:∀{xs:O V},A3w (A r8 xs)=E (A C7y xs)
 | []=>rfl
 | n::xs=>by
  show(A3w (A r8 xs)).map _=_
  rw[C3b]
  rfl
theorem F6b(n:V):r8 n= [.int .u8 n]:=rfl
theorem F6w(b:W):rB b= [.bool b]:=rfl
theorem F6p(s:O UInt8):rS s= [.str s]:=rfl
theorem F7m{α:Type}(row:α→O D)(xs:O α):rL row xs= [.sl (xs.map row)]:=rfl
theorem D0u{α:Type}{row:α→O D}{sz:Y}(h:∀x,(row x).length=sz)(xs:O α):(xs.map row).all (fun d=>d.length==sz)=T:=by
 simp[List.all_map,Function.comp_def,h]
@[irreducible] def bigN:Y:=1208925819614629174706176
def bnd(m h l:V)(n:Y):U (Y × Y):=if 0≤l∧l≤h∧h≤m∧m≤n then E (l.toNat,h.toNat) else G
def mkS(l c:V)(bytes:Y):U Y:=if 0≤l∧l≤c∧c*bytes≤140737488355328∧c≤4611686018427387904 then E l.toNat else G
def B9(n m bytes:Y):W:=decide ((n+m)*bytes≤140737488355328∧n+m≤4611686018427387904)
def B1w(n m:Y):W:=decide (n+m≤4611686018427387904)
theorem C1d{α β:Type}{f:α→β}{l:O α}{i:V}:ix (l.map f) i=(ix l i).map f:=by
 unfold ix
 split<;>simp
theorem M2{α:Type}{l:O α}{i:V}{x:α}(h:ix l i=E x):l[i.toNat]?=E x:=by
 unfold ix at h
 split at h
 ·exact h
 ·cases h
theorem ob{α β:Type}{o:U α}{f:α→U β}{r:β}(h:o.bind f=E r):∃a,o=E a∧f a=E r:=Option.bind_eq_some_iff.1 h
class FlatRow {α:Type} (row:α→O D):Prop where
 flat:∀x,∀d∈row x,d.flat=T
instance:FlatRow rI:=⟨fun _ d h=>by rw[B.1 h]; rfl⟩
instance:FlatRow r8:=⟨fun _ d h=>by rw[B.1 h]; rfl⟩
instance:FlatRow rB:=⟨fun _ d h=>by rw[B.1 h]; rfl⟩
instance:FlatRow rS:=⟨fun _ d h=>by rw[B.1 h]; rfl⟩
def E24:O RC→Prop
 | []=>True
 | c::cs=>c.flat∧E24 cs
theorem A7r{rs:O R1}{cs:O RC}(h:rs.flatMap R1.cells=cs)(hf:E24 cs):A5l rs:=by
 subst h
 unfold A5l
 generalize rs.flatMap R1.cells=l at hf
 induction l with
 | nil=>intro c hc; simp at hc
 | cons a l ih=>
  intro c hc
  rcases List.mem_cons.1 hc with rfl|hc
  ·exact hf.1
  ·exact ih hf.2 c hc
theorem A7m{α:Type}{row:α→O D} [FlatRow row]{sz:Y}{xs:O α}:RC.flat (.o sz (A row xs)):=by
 intro r hr
 obtain⟨x,_,rfl⟩:=List.mem_map.1 hr
 exact FlatRow.flat x
theorem A54{α:Type}{row:α→O D}{z:α}{zs:O D}{n:Y}(h:row z=zs):I n zs=A row (I n z):=by rw[List.map_replicate,h]
theorem C9{α:Type}{b:W}{x:U α}{r:α}(h:(if b=T then x else G)=E r):b=T∧x=E r:=by
 cases b
 ·rw[if_neg Bool.false_ne_true] at h; cases h
 ·exact⟨rfl,by simpa using h⟩
theorem A1u{α:Type}{b:W}{x:U α}{r:α}(h:(if b=T then G else x)=E r):b=F∧x=E r:=by
 cases b
 ·exact⟨rfl,by simpa using h⟩
 ·rw[if_pos rfl] at h; cases h
theorem ic{α:Type}{b:W}{x y:U α}{r:α}(h:(if b=T then x else y)=E r):(b=T∧x=E r)∨(b=F∧y=E r):=by
 cases b with
 | true=>exact .inl ⟨rfl,h⟩
 | false=>exact .inr ⟨rfl,h⟩
section
variable {P : Program} {k : O Fr} {Q : Xo → St → Prop} {σ : St} {its : O AItem} {ds : O Q6} {o : AOp} {d : Y}
theorem B5{c:X2}(h:go P (.code c:: .code (.loop c)::k) Q .normal (E σ)):go P (.code (.loop c)::k) Q .normal (E σ):=by
 intro X hX
 refine hX σ (C7m c (fun e σ' h=> ?_) h)
 cases e with
 | normal=>exact h X hX
 | exit id=>exact h
 | ret=>exact h
 | pan d=>exact h
theorem F75(hm:P.follows .mixedOrders=T){f:FuncId}{c:X2}{ts:O RV}{nt:Y}{ds:O DV}{rs:O R1}{σ:St}(he:A5 P f=E (c.strip,ts,nt))(hl:Nat.ble ds.length nt=T)(hσ:St.init ds=σ)
  (h:go P [.code c] (Ret ts rs) .normal (E σ)):FC P f ds rs:=F6u hm he (Nat.le_of_ble_eq_true hl) fun _=>B2a (hσ▸h)
theorem C3(hm:P.follows .mixedOrders=T){f:FuncId}{c:X2}{ts:O RV}{nt:Y}{ds:O DV}{rs:O R1}(he:A5 P f=E (c.strip,ts,nt))(hl:Nat.ble ds.length nt=T)
  (h:go P [.code c] (Ret ts rs) .normal (E (St.init ds))):FC P f ds rs:=F75 hm he hl rfl h
theorem B9y{sz:Y}{es:O (O D)}(hf:σ.fresh d=T):σ.make (.row d sz es)=E {(σ.set d (.v (.sc (.own (d*64))))) with rows:=put σ.rows (d*64) (sz,es)}:=by simp[St.make,hf]
theorem A9o{cs:O AC}(hf:σ.fresh d=T)(hu:cs.all (fun c=> !c.uses d)=T):σ.make (.box d cs)=E {(σ.set d (.v (.sc (.pb d 0)))) with bx:=put σ.bx d cs}:=by simp only[St.make,hf,hu,zB,if_true]
theorem C6d{m:Mk}(ho:o.isMade=T)(hm:σ.made o=E m){σ':St}(hs:σ.make m=E σ')(H:go P (.ops its::k) Q .normal (E σ')):go P (.ops ((G,o)::its)::k) Q .normal (E σ):=by
 have hc:o.isCall=F:=by cases o<;>first | rfl | (simp[AOp.isMade] at ho; done)
 rw[Q7 hc,E47 ho,hm]
 show go P (.ops its::k) Q .normal (σ.make m)
 rw[hs]
 exact H
theorem B2{X:Opd}{y:V1}(hX:σ.val X= .v y)(hf:σ.fresh d=T)(hu:y.cells.all (fun c=> !c.uses d)=T)(H:go P (.ops its::k) Q .normal (E {(σ.set d (.v (.sc (.pb d 0)))) with bx:=put σ.bx d y.cells })) :
  go P (.ops ((G,.box d X)::its)::k) Q .normal (E σ):=C6d rfl (by simp only[St.made,hX]) (A9o hf hu) H
theorem B7{cs:O AC}(hf:σ.fresh d=T)(hu:cs.all (fun c=> !c.uses d)=T)(H:go P (.ops its::k) Q .normal (E {(σ.set d (.v (.sc (.pb d 0)))) with bx:=put σ.bx d cs })) :
  go P (.ops ((G,.alloc d cs)::its)::k) Q .normal (E σ):=C6d rfl rfl (A9o hf hu) H
theorem D6{sz:Y}{zs:O D}{len:Y}{ps:O (Y × Opd)}{es:O (O D)}(hm:σ.made (.bslice d sz zs len ps)=E (.row d sz es))(hf:σ.fresh d=T)
  (H:go P (.ops its::k) Q .normal (E {(σ.set d (.v (.sc (.own (d*64))))) with rows:=put σ.rows (d*64) (sz,es) })):go P (.ops ((G,.bslice d sz zs len ps)::its)::k) Q .normal (E σ):=C6d rfl hm (B9y hf) H
theorem E1q{L C:Opd}{l c:V}{bytes n sz:Y}{zs:O D}{es:O (O D)}(hl:asI (σ.val L)=E l)(hc:asI (σ.val C)=E c)(hb:mkS l c bytes=E n)(hz:zs.length=sz)(he:I n zs=es) :
  σ.made (.mksl d sz bytes zs L C)=E (.row d sz es):=by
 unfold mkS at hb
 split at hb
 ·rename_i h
  cases hb
  subst he
  simp only[St.made,hl,hc]
  rw[if_pos ⟨h.1,h.2.1,h.2.2.1,h.2.2.2,hz⟩]
 ·cases hb
theorem A7l{L C:Opd}{l c:V}{bytes n sz:Y}{zs:O D}{es:O (O D)}(hl:asI (σ.val L)=E l)(hc:asI (σ.val C)=E c)(hb:mkS l c bytes=E n)(hz:zs.length=sz)(he:I n zs=es)(hf:σ.fresh d=T)
  (H:go P (.ops its::k) Q .normal (E {(σ.set d (.v (.sc (.own (d*64))))) with rows:=put σ.rows (d*64) (sz,es) })):go P (.ops ((G,.mksl d sz bytes zs L C)::its)::k) Q .normal (E σ):=
 C6d rfl (E1q hl hc hb hz he) (B9y hf) H
theorem B6b{n:Y}{N:O Y}{m:Mk}(hm:(σ.less (n::N)).made o=E m)(hv:F0r (n::N) m=T){σ':St}(hs:σ.make m=E σ')(H:go P (.dops ds::k) Q .normal (E σ')) :
  go P (.dops ((E (n::N),G,o)::ds)::k) Q .normal (E σ):=D83 hm hv hs H
theorem A5j{α:Type}{env bx rows}{id sz i off n:Y}{xs:O α}{row:α→O D}{x y:α}{yv:V1}{dd:O D}(hd:yv.toDs=E dd)(hf:A3 rows id=E (sz,A row xs))
  (hx:xs[i]?=E x) (hn:dd.length=n) (ho:Nat.ble (off+n) (row x).length=T) (hy:B4o (row x) off dd=row y) (H:go P k Q .normal (E ⟨env,bx,put rows id (sz,A row (xs.set i y))⟩)) :
  go P k Q .normal (St.storeV ⟨env,bx,rows⟩ n (.v (.sc (.pe id i off))) (.v yv)):=by
 have e:St.storeV ⟨env,bx,rows⟩ n (.v (.sc (.pe id i off))) (.v yv)=E ⟨env,bx,put rows id (sz,A row (xs.set i y))⟩:=by
  simp only[St.storeV,hf,List.getElem?_map,hx,Option.map_some,hd]
  rw[if_pos ⟨hn,Nat.le_of_ble_eq_true ho⟩,hy,List.map_set]
 rw[e]
 exact H
end
def A8q{α:Type}:Y→O α→U (O α)
 | 0,l=>E l
 | _+1,[]=>G
 | n+1,_::l=>A8q n l
def B1b{α:Type}:Y→O α→U (O α)
 | 0,_=>E []
 | _+1,[]=>G
 | n+1,c::l=>(B1b n l).map (c:: ·)
def A8s{α:Type}:O α→Y→W
 | [],0=>T
 | _::l,n+1=>A8s l n
 | _,_=>F
def A23{α:Type}:O α→Y→W
 | _,0=>T
 | _::l,n+1=>A23 l n
 | [],_+1=>F
theorem B1z{α:Type}:∀(n:Y) (l:O α),A8q n l=if n≤l.length then E (l.drop n) else G
 | 0,l=>by simp[A8q]
 | n+1,[]=>by simp[A8q]
 | n+1,c::l=>by simp[A8q,B1z n l]
theorem C8d{α:Type}:∀(n:Y) (l:O α),B1b n l=if n≤l.length then E (l.take n) else G
 | 0,l=>by simp[B1b]
 | n+1,[]=>by simp[B1b]
 | n+1,c::l=>by simp only[B1b,C8d n l]; split<;>simp_all
theorem B9f{α:Type}:∀(l:O α) (n:Y),A8s l n=decide (l.length=n)
 | [],0=>by simp[A8s]
 | [],n+1=>by simp[A8s]
 | _::l,0=>by simp[A8s]
 | _::l,n+1=>by simp[A8s,B9f l n]
theorem B12{α:Type}:∀(l:O α) (n:Y),A23 l n=decide (n≤l.length)
 | [],0=>by simp[A23]
 | [],n+1=>by simp[A23]
 | _::l,0=>by simp[A23]
 | _::l,n+1=>by simp[A23,B12 l n]
theorem E5x{α:Type}{l:O α}:A8q 0 l=E l:=by cases l<;>rfl
theorem E5n{α:Type}{n:Y}{c:α}{l:O α}:A8q (n+1) (c::l)=A8q n l:=rfl
theorem E6m{α:Type}{l:O α}:B1b 0 l=E []:=by cases l<;>rfl
theorem E6c{α:Type}{n:Y}{c:α}{l:O α}:B1b (n+1) (c::l)=(B1b n l).map (c:: ·):=rfl
theorem E6u{α:Type}:A8s ([]:O α) 0=T:=rfl
theorem E3w{α:Type}{n:Y}{c:α}{l:O α}:A8s (c::l) (n+1)=A8s l n:=rfl
theorem E67{α:Type}{l:O α}:A23 l 0=T:=by cases l<;>rfl
theorem E7o{α:Type}{n:Y}{c:α}{l:O α}:A23 (c::l) (n+1)=A23 l n:=rfl
theorem E6i{cs:O AC}{off n:Y}:A4c cs off T n=(A8q off cs).bind fun l=>(B1b n l).map fun l=> .v (.ag l):=by
 simp only[A4c,cond_true,B1z,C8d]
 by_cases h:off≤cs.length
 ·rw[if_pos h]
  by_cases h2:off+n≤cs.length
  ·rw[if_pos h2,Option.bind_some,if_pos (by simp; omega)]; rfl
  ·rw[if_neg h2,Option.bind_some,if_neg (by simp; omega)]; rfl
 ·rw[if_neg h,if_neg (by omega)]; rfl
theorem E0u{cs:O AC}:A31 cs 0 []=cs:=by simp[A31]
theorem D7a{c:AC}{cs ds:O AC}{n:Y}:A31 (c::cs) (n+1) ds=c::A31 cs n ds:=by
 simp only[A31,List.take_succ_cons,List.cons_append]
 rw[show n+1+ds.length=(n+ds.length)+1 by omega,List.drop_succ_cons]
theorem D7b{c d:AC}{cs ds:O AC}:A31 (c::cs) 0 (d::ds)=d::A31 cs 0 ds:=by simp[A31]
theorem A7u{α β:Type}{a:α}{f:α→U β}:(E a).bind f=f a:=rfl
theorem D23{α β:Type}{f:α→U β}:(G:U α).bind f=G:=rfl
theorem get_map{α β:Type}{f:α→β}{l:O α}{i:Y}:(A f l)[i]?=(l[i]?).map f:=List.getElem?_map
theorem D9l{α:Type}{a:α}{l:O α}:(a::l)[0]?=E a:=rfl
theorem E0p{α:Type}{a:α}{l:O α}{n:Y}:(a::l)[n+1]?=l[n]?:=by simp
theorem E4r:A AC.dat []= []:=rfl
theorem D9x{d:D}{l:O D}:A AC.dat (d::l)= .dat d::A AC.dat l:=rfl
section
variable {P : Program} {k : O Fr} {Q : Xo → St → Prop} {σ : St} {its : O AItem} {env : O (Y × AV)} {bx : O (Y × O AC)} {rows : Rows}
theorem D82{α:Type}{rs:Rows}{sz:Y}{xs:O α}{row:α→O D} [Row row sz]{kd:IntKind}{i:V}:A5i rs sz (.v (.sc (.dat (.sl (A row xs))))) (.v (.sc (.dat (.int kd i))))=(ix xs i).map fun x=> .v (.sc (.dat (.pd (row x)))):=by
 simp only[A5i,C1d]
 cases ix xs i with
 | none=>rfl
 | some x=>simp[Row.len (row:=row) (sz:=sz),Row.pos row]
theorem D73{rs:Rows}{sz id:Y}{kd:IntKind}{i:V}:A5i rs sz (.v (.sc (.own id))) (.v (.sc (.dat (.int kd i))))=(A3 rs id).bind fun p=>(ix p.2 i).bind fun _=>bif p.1==sz then E (.v (.sc (.pe id i.toNat 0))) else G:=by
 simp only[A5i]
 cases A3 rs id with
 | none=>rfl
 | some p=>
  obtain⟨a,es⟩:=p
  simp only[A7u]
  cases ix es i with
  | none=>rfl
  | some x=>
   by_cases h:a=sz
   ·simp[h]
   ·have h':(a==sz)=F:=by simpa using h
    simp[h,h']
theorem E39{g:W}{n id off:Y}:A5r ⟨env,bx,rows⟩ g n (.v (.sc (.pb id off)))=(A3 bx id).bind fun cs=>A4c cs off g n:=by
 show(match A3 bx id with | some cs=>_ | none=>G)=_
 cases A3 bx id<;>rfl
theorem E63{g:W}{n id i off:Y}:A5r ⟨env,bx,rows⟩ g n (.v (.sc (.pe id i off)))=(A3 rows id).bind fun p=>(p.2[i]?).bind fun d=>A4c (A AC.dat d) off g n:=by
 simp only[A5r]
 cases A3 rows id with
 | none=>rfl
 | some p=>
  simp only[A7u]
  cases p.2[i]?<;>rfl
theorem E62{g:W}{n:Y}{cs:O D}:A5r σ g n (.v (.sc (.dat (.pd cs))))=A4c (A AC.dat cs) 0 g n:=rfl
theorem F9o{rs:Rows}{off id i o:Y}:A2v rs off (.v (.sc (.pe id i o)))=(A3 rs id).map fun _=> .v (.sc (.pe id i (o+off))):=by
 simp only[A2v]
 cases A3 rs id<;>rfl
theorem F14{rs:Rows}{off:Y}{cs:O D}:A2v rs off (.v (.sc (.dat (.pd cs))))=(A8q off cs).map fun cs=> .v (.sc (.dat (.pd cs))):=by
 simp only[A2v,B1z]
 split<;>rfl
theorem E1s{l:O V1}{i:Y}:B7p i (.tup l)=(l[i]?).map .v:=rfl
theorem E7v{id off:Y}:B05 (.v (.sc (.pb id off)))=E (.v (.sc (.pb id off))):=rfl
theorem E5h{cs:O D}:B05 (.v (.sc (.dat (.pd cs))))=E (.v (.sc (.dat (.pd cs)))):=rfl
theorem E1h:A (St.val σ) []= []:=rfl
theorem D6f{x:Opd}{l:O Opd}:A (St.val σ) (x::l)=σ.val x::A (St.val σ) l:=rfl
theorem E7q{f:FuncId}:B17 f []=E []:=rfl
theorem E02{f:FuncId}{id:Y}{r:O AV}:B17 f (.v (.sc (.pb id 0))::r)=(B17 f r).map (id:: ·):=rfl
def D2r(K:O AC→U (O AC))(off n:Y)(cs:O AC):AV→U (O AC)
 | .v x=>bif A8s x.cells n&&A23 cs (off+n) then K (A31 cs off x.cells) else G
 | _=>G
def B5y(σ:St):O (Y × Y × Opd)→O AC→U (O AC)
 | [],cs=>E cs
 | (off,n,x)::r,cs=>D2r (B5y σ r) off n cs (σ.val x)
theorem C2k:∀(ps:O (Y × Y × Opd)) (cs:O AC),A70 cs (ps.map fun p=>(p.1,p.2.1,σ.val p.2.2))=B5y σ ps cs
 | [],cs=>rfl
 | (off,n,x)::r,cs=>by
  simp only[List.map_cons,B5y]
  generalize σ.val x=v
  cases v with
  | v y=>
   simp only[A70,D2r,B9f,B12]
   by_cases h1:y.cells.length=n
   ·by_cases h2:off+n≤cs.length
    ·subst h1
     simp only[h2,and_self,if_true,decide_true,zB,cond_true]
     exact C2k r _
    ·simp[h1,h2]
   ·simp[h1]
  | _=>rfl
theorem E5b{cs:O AC}:B5y σ [] cs=E cs:=rfl
theorem D9g{off n:Y}{x:Opd}{r:O (Y × Y × Opd)}{cs:O AC}:B5y σ ((off,n,x)::r) cs=D2r (B5y σ r) off n cs (σ.val x):=rfl
theorem F0y{K:O AC→U (O AC)}{off n:Y}{cs:O AC}{x:V1}:D2r K off n cs (.v x)=bif A8s x.cells n&&A23 cs (off+n) then K (A31 cs off x.cells) else G:=rfl
theorem E9s{d zs ps}:go P (.ops ((G,.build d zs ps)::its)::k) Q .normal (E σ)=go P (.ops its::k) Q .normal (J3 σ d ((B5y σ ps zs).map fun cs=> .v (.ag cs))):=by rw[D9p,C2k]
theorem F0t{d zs ps}:σ.step (.build d zs ps)=J3 σ d ((B5y σ ps zs).map fun cs=> .v (.ag cs)):=by rw[C1v,C2k]
theorem E1w{n id off:Y}{y:V1}:St.storeV ⟨env,bx,rows⟩ n (.v (.sc (.pb id off))) (.v y)=(A3 bx id).bind fun cs=>bif A8s y.cells n&&A23 cs (off+n) then E ⟨env,put bx id (A31 cs off y.cells),rows⟩ else G:=by
 simp only[St.storeV,B9f,B12]
 cases A3 bx id with
 | none=>rfl
 | some cs=>
  simp only[A7u]
  by_cases h1:y.cells.length=n
  ·by_cases h2:off+n≤cs.length
   ·simp[h1,h2]
   ·simp[h1,h2]
  ·simp[h1]
def C0w(sz:Y)(es:O (O D)):W:=es.all fun r=>r.length==sz
theorem D4b{α:Type}{sz:Y}{row:α→O D} [Row row sz]{xs:O α}:C0w sz (A row xs)=T:=D0u (Row.len (row:=row)) xs
theorem E4o{d sz bytes id:Y}{y:AV}:St.appV ⟨env,bx,rows⟩ d sz bytes (.v (.sc (.own id))) y=bif id / 99999999999==0 then((A3 rows id).bind fun p=>(appSrc rows y).bind fun es'=>
  bif (p.1==sz)&&(C0w sz es'&&B9 p.2.length es'.length bytes) then E ⟨put (env.map fun p=>(p.1,p.2.map (AC.kill id))) d (.v (.sc (.own id))),bx.map fun p=>(p.1,p.2.map (AC.kill id)),put rows id (sz,p.2++es')⟩ else G) else G:=by
 simp only[St.appV]
 by_cases h0:id / 99999999999=0
 rotate_left
 ·rw[if_neg h0,show(id / 99999999999==0)=F by simpa using h0]
  rfl
 rw[if_pos h0,show(id / 99999999999==0)=T by simpa using h0,cond_true]
 cases A3 rows id with
 | none=>rfl
 | some p=>
  obtain⟨a,es⟩:=p
  simp only[A7u]
  cases appSrc rows y with
  | none=>rfl
  | some es'=>
   simp only[A7u]
   by_cases h1:a=sz
   ·by_cases h2:C0w sz es'=T
    ·by_cases h3:B9 es.length es'.length bytes=T
     ·have h3':=of_decide_eq_true h3
      rw[if_pos ⟨h1,h2,h3'.1,h3'.2⟩]
      simp only[h1,beq_self_eq_true,h2,h3,zB,cond_true]
      rfl
     ·have h3':B9 es.length es'.length bytes=F:=by simpa using h3
      rw[if_neg (fun h=>h3 (decide_eq_true ⟨h.2.2.1,h.2.2.2⟩))]
      simp[h3']
    ·have h2':C0w sz es'=F:=by simpa using h2
     rw[if_neg (fun h=>h2 h.2.1)]
     simp[h2']
   ·have h1':(a==sz)=F:=by simpa using h1
    rw[if_neg (fun h=>h1 h.1)]
    simp[h1']
theorem E6o{rs:Rows}{es:O (O D)}:appSrc rs (.v (.sc (.dat (.sl es))))=E es:=rfl
theorem E6e{rs:Rows}:appSrc rs (.v (.sc .nil))=E []:=rfl
theorem E7i{rs:Rows}{id:Y}:appSrc rs (.v (.sc (.own id)))=(A3 rs id).map fun p=>p.2:=by
 simp only[appSrc,toD0]
 cases A3 rs id<;>rfl
theorem E7l{α:Type}{f:α→O D}{a b:O α}:A f a++A f b=A f (a++b):=List.map_append.symm
def B3l(σ:St)(n:Y):U Opd→U V
 | none=>E n
 | some x=>asI (σ.val x)
def B9n(n:Y):U V→U V→U V→U (Y × Y)
 | some m,E h,E l=>bnd m h l n
 | _,_,_=>G
theorem C2l{lo hi mx:U Opd}{n:Y}:B2f σ lo hi mx n=B9n n (B3l σ n mx) (B3l σ n hi) (match lo with | none=>E 0 | some x=>asI (σ.val x)):=by
 cases mx<;>cases hi<;>cases lo<;>(simp only[B2f,B9n,B3l]; first | rfl | (split<;>simp_all[B9n,bnd]))
def C7h(σ:St):U Opd→U V
 | none=>E 0
 | some x=>asI (σ.val x)
theorem E66{α:Type}{sz:Y}{lo hi mx:U Opd}{xs:O α}{row:α→O D} [Row row sz]:B2g σ sz (.v (.sc (.dat (.sl (A row xs))))) lo hi mx=(B9n xs.length (B3l σ xs.length mx) (B3l σ xs.length hi) (C7h σ lo)).map fun p=> .v (.sc (.dat (.sl (A row ((xs.drop p.1).take (p.2 - p.1)))))):=by
 have h:(A row xs).all (fun d=>d.length==sz)=T:=D0u (Row.len (row:=row)) xs
 simp only[B2g,h,Row.pos row (sz:=sz),decide_true,zB,if_true,List.length_map,C2l]
 cases lo<;>simp[C7h,List.map_drop,List.map_take]
theorem E7z{lo hi:U Opd}{s:O UInt8}:B2t σ (.v (.sc (.dat (.str s)))) lo hi=(B9n s.length (B3l σ s.length G) (B3l σ s.length hi) (C7h σ lo)).map fun p=> .v (.sc (.dat (.str ((s.drop p.1).take (p.2 - p.1))))):=by
 simp only[B2t,C2l]
 cases lo<;>rfl
theorem F1e{n:Y}:B3l σ n G=E (n:V):=rfl
theorem F0e{n:Y}{x:Opd}:B3l σ n (E x)=asI (σ.val x):=rfl
theorem E8i:C7h σ G=E 0:=rfl
theorem F0a{x:Opd}:C7h σ (E x)=asI (σ.val x):=rfl
theorem F3y{kd:IntKind}{i:V}:asI (.v (.sc (.dat (.int kd i))))=E i:=rfl
theorem E9l{n:Y}{m h l:V}:B9n n (E m) (E h) (E l)=bnd m h l n:=rfl
theorem E4g{x y:O UInt8}:B5t .add x y=bif B1w x.length y.length then E (.str (x++y)) else G:=by
 simp only[B5t,B1w]
 by_cases h:x.length+y.length≤4611686018427387904
 ·simp[h]
 ·simp[h]
theorem E3z{k:IntKind}{x y:V}:N6 .and k x y=E (.int k (K6 .and k x y)):=rfl
theorem E88{k:IntKind}{x y:V}:N6 .or k x y=E (.int k (K6 .or k x y)):=rfl
theorem E7j{k:IntKind}{x y:V}:N6 .xor k x y=E (.int k (K6 .xor k x y)):=rfl
theorem F0j:(T==T)=T:=rfl
theorem F0u:(T==F)=F:=rfl
theorem E8h:(F==T)=F:=rfl
theorem E4x:(F==F)=T:=rfl
theorem F01{b:W}:(F&&b)=F:=rfl
end
def E2m{α:Type}(k:Y):U α→O (Y × α)→O (Y × α)
 | some v,r=>(k,v)::r
 | none,r=>r
theorem D8l{α:Type}{l:O (Y × α)}:A4u l []= []:=rfl
theorem D38{α:Type}{l:O (Y × α)}{k:Y}{ks:O Y}:A4u l (k::ks)=E2m k (A3 l k) (A4u l ks):=by
 show(match A3 l k with | some v=>_ | none=>_)=_
 cases A3 l k<;>rfl
theorem D2a{α:Type}{k:Y}{v:α}{r:O (Y × α)}:E2m k (E v) r=(k,v)::r:=rfl
theorem E6s{env bx rows ks bs rs}:(St.mk env bx rows).kept ks bs rs=⟨A4u env ks,A4u bx bs,A4u rows rs⟩:=rfl
theorem E31{P:Program}{k:O Fr}{Q:Xo→St→Prop}{σ:St}{its:O AItem}{ks bs rs:O Y}:go P (.ops ((G,.keep ks bs rs)::its)::k) Q .normal (E σ)=go P (.ops its::k) Q .normal (E (σ.kept ks bs rs)):=Q7 rfl
theorem F1s{b:W}{x y:AV}:B7w (.v (.sc (.dat (.bool b)))) x y=E (bif b then x else y):=rfl
theorem F6f{g x y:W}:C2i g (.v (.sc (.dat (.bool x)))) (.v (.sc (.dat (.bool y))))=E (.v (.sc (.dat (.bool (bif g then !(x==y) else x==y))))):=rfl
theorem G0i{m:W}{k:IntKind}{x y:V}:mmV m (.v (.sc (.dat (.int k x)))) (.v (.sc (.dat (.int k y))))=E (.v (.sc (.dat (.int k (bif m then(if x<y then y else x) else(if y<x then y else x)))))):=by simp[mmV]
theorem E9z{k:IntKind}{x:V}:unV .neg (.v (.sc (.dat (.int k x))))=E (.v (.sc (.dat (.int k (k.wrap (0 - x)))))):=rfl
theorem F8g{rs:Rows}{off id o:Y}:A2v rs off (.v (.sc (.pb id o)))=E (.v (.sc (.pb id (o+off)))):=rfl
theorem E6r{rs:Rows}{id:Y}:B1u rs (.v (.sc (.own id)))=(A3 rs id).map fun p=> .v (.sc (.dat (.int .i64 p.2.length))):=by
 show(match A3 rs id with | some (_,es)=>_ | none=>_)=_
 cases A3 rs id<;>rfl
theorem D85{k:Y}:A78 k []= []:=rfl
theorem D7e{k:Y}{d:DV}{ds:O DV}:A78 k (d::ds)=(k,d.av)::A78 (k+1) ds:=rfl
theorem E7a{ds:O DV}:St.init ds=⟨A78 0 ds,[],[]⟩:=rfl
theorem F13{d:D}:DV.av (.sc d)= .v (.sc (.dat d)):=rfl
theorem F85{ds:O D}:DV.av (.ag ds)= .v (.ag (ds.map .dat)):=rfl
theorem E90{f:AC→AC}:A (V1.map f) []= []:=rfl
theorem E52{f:AC→AC}{x:V1}{l:O V1}:A (V1.map f) (x::l)=x.map f::A (V1.map f) l:=rfl
theorem D9t{f:AC→AC}:A (fun p:Y × AV=>(p.1,p.2.map f)) []= []:=rfl
theorem D8i{f:AC→AC}{k:Y}{v:AV}{l:O (Y × AV)}:A (fun p:Y × AV=>(p.1,p.2.map f)) ((k,v)::l)=(k,v.map f)::A (fun p:Y × AV=>(p.1,p.2.map f)) l:=rfl
theorem D97{f:AC→AC}:A (fun p:Y × O AC=>(p.1,p.2.map f)) []= []:=rfl
theorem D6l{f:AC→AC}{k:Y}{v:O AC}{l:O (Y × O AC)}:A (fun p:Y × O AC=>(p.1,p.2.map f)) ((k,v)::l)=(k,v.map f)::A (fun p:Y × O AC=>(p.1,p.2.map f)) l:=rfl
theorem E03{f:AC→AC}:A f ([]:O AC)= []:=rfl
theorem D6w{f:AC→AC}{c:AC}{l:O AC}:A f (c::l)=f c::A f l:=rfl
theorem E12{α β:Type}{f:α→β}{l:O α}:(A f l).length=l.length:=List.length_map ..
theorem D6e{c:AC}:V1.cells (.sc c)= [c]:=rfl
theorem D6t{cs:O AC}:V1.cells (.ag cs)=cs:=rfl
theorem F2u{f:AC→AC}{env bx rows}:(St.mk env bx rows).map f=⟨env.map fun p=>(p.1,p.2.map f),bx.map fun p=>(p.1,p.2.map f),rows⟩:=rfl
theorem D8q{f:AC→AC}{c:AC}:AV.map f (.v (.sc c))= .v (.sc (f c)):=rfl
theorem E06{f:AC→AC}{cs:O AC}:AV.map f (.v (.ag cs))= .v (.ag (cs.map f)):=rfl
theorem E7r{f:AC→AC}:AV.map f .undef= .undef:=rfl
theorem E71{f:AC→AC}:AV.map f .no= .no:=rfl
theorem E45{f:AC→AC}{l:O V1}:AV.map f (.tup l)= .tup (l.map (V1.map f)):=rfl
theorem E0f{f:AC→AC}{c:AC}:V1.map f (.sc c)= .sc (f c):=rfl
theorem E0n{f:AC→AC}{cs:O AC}:V1.map f (.ag cs)= .ag (cs.map f):=rfl
theorem E96{id:Y}{d:D}:AC.kill id (.dat d)= .dat d:=rfl
theorem E77{id:Y}:AC.kill id .nil= .nil:=rfl
theorem E8e{id:Y}:AC.kill id .undef= .undef:=rfl
theorem E8s{id i:Y}:AC.kill id (.own i)=bif i==id then .undef else .own i:=rfl
theorem E9u{id i a b:Y}:AC.kill id (.osub i a b)=bif i==id then .undef else .osub i a b:=rfl
theorem F05{id i a b:Y}:AC.kill id (.pe i a b)=bif i==id then .undef else .pe i a b:=rfl
theorem E9q{id i a:Y}:AC.kill id (.pb i a)= .pb i a:=rfl
theorem E95{id f:Y}{is:O Y}:AC.kill id (.clo f is)= .clo f is:=rfl
theorem F74{id:Y}{es:O (O D)}{d:D}:AC.frz id es (.dat d)= .dat d:=rfl
theorem F9z{id:Y}{es:O (O D)}:AC.frz id es .nil= .nil:=rfl
theorem F2x{id:Y}{es:O (O D)}:AC.frz id es .undef= .undef:=rfl
theorem F34{id i:Y}{es:O (O D)}:AC.frz id es (.own i)=bif i==id then .dat (.sl es) else .own i:=rfl
theorem F4x{id i a b:Y}{es:O (O D)}:AC.frz id es (.osub i a b)=bif i==id then .undef else .osub i a b:=rfl
theorem F4v{id i a b:Y}{es:O (O D)}:AC.frz id es (.pe i a b)=bif i==id then .undef else .pe i a b:=rfl
theorem F6s{id i a:Y}{es:O (O D)}:AC.frz id es (.pb i a)= .pb i a:=rfl
theorem F18{id f:Y}{es:O (O D)}{is:O Y}:AC.frz id es (.clo f is)= .clo f is:=rfl
theorem N7{P:Program}{k:O Fr}{Q:Xo→St→Prop}{σ:St}{its:O AItem}{id sz:Y}{es:O (O D)}(hf:A3 σ.rows id=E (sz,es))(H:go P (.ops its::k) Q .normal (E {(σ.map (AC.frz id es)) with rows:=erase σ.rows [id] }))(h0:(id / 99999999999==0)=T:=by rfl) :
  go P (.ops ((G,.frz id)::its)::k) Q .normal (E σ):=by
 rw[E9g]
 simp only[St.step,hf,h0,Bool.not_true,Bool.false_eq_true,if_false]
 exact H
theorem A4p{P:Program}{k:O Fr}{Q:Xo→St→Prop}{σ:St}{its:O AItem}{b j id sz:Y}{cs cs':O AC}(h1:σ.has id=F)(h2:A3 σ.bx b=E cs)(h3:cs[j]?=E .nil)(h4:cs.set j (.own id)=cs')
  (H:go P (.ops its::k) Q .normal (E {σ with bx:=put σ.bx b cs',rows:=put σ.rows id (sz,[]) })) (h0:(id / 99999999999==0)=T:=by rfl):go P (.ops ((G,.ownb b j id sz)::its)::k) Q .normal (E σ):=by
 rw[E7p]
 subst h4
 simp only[St.step,h1,h2,h3,h0,Bool.not_true,Bool.or_self,Bool.false_eq_true,if_false]
 exact H
theorem D7p{α:Type}{ks:O Y}:erase ([]:O (Y × α)) ks= []:=rfl
theorem D8j{α:Type}{k n:Y}{v:α}{r:O (Y × α)}:erase ((k,v)::r) [n]=bif k==n then erase r [n] else(k,v)::erase r [n]:=by
 by_cases h:k=n
 ·simp[erase,h]
 ·have h':(k==n)=F:=by simpa using h
  simp[erase,h,h']
theorem E5j{ts:O RV}{rs:O R1}{σ:St}:Ret ts rs .ret σ=(OutVs σ ts rs∧A8f (A3s σ ts rs)=T):=rfl
theorem D9w{ts:O RV}{rs:O R1}{σ:St}:Ret ts rs .normal σ=(OutVs σ ts rs∧A8f (A3s σ ts rs)=T):=rfl
theorem D4k{σ:St}{t:RV}{ts:O RV}{r:R1}{rs:O R1}:OutVs σ (t::ts) (r::rs)=(D43 σ.rows (B38 σ t) r∧OutVs σ ts rs):=rfl
theorem C89{σ:St}{t:RV}{ts:O RV}{r:R1}{rs:O R1}:A3s σ (t::ts) (r::rs)=C8y (B38 σ t) r++A3s σ ts rs:=rfl
theorem E2a{σ:St}{a n:Y}{g:W}:B38 σ (.c a g n)=(A5r σ g n (σ.get a)).getD .undef:=rfl
def I2:=Z @E5j (Z @D9w (Z @D4k (Z @C89 @E2a)))
set_option maxRecDepth 4000 in
def E9y:=Z @E4e (Z @E9f (Z @E6f (Z @F1h (Z @E9p (Z @F46 (Z @E82 (Z @E0b (Z @E5k (Z @E94 (Z @E5f (Z @D9u (Z @E2k (Z @C74 (Z @C96 (Z @F08 (Z @D2d (Z @D5y (Z @D0b (Z @C3g (Z @D66 (Z @D7h (Z @D61 (Z @D6v (Z @D7c (Z @E2g (Z @D6c (Z @E6j (Z @E0q (Z @F9k (Z @F8q (Z @E8l (Z @F0n (Z @getD_some (Z @D8b (Z @map_some (Z @map_none (Z @D95 (Z @F0s (Z @E1o (Z @D53 (Z @E55 (Z @E01 (Z @E7t (Z @E5u (Z @E7e (Z @E5r (Z @E3y (Z @E42 (Z @E43 (Z @E36 (Z @E5g (Z @E32 (Z @E61 (Z @E4v (Z @E65 (Z @E5y (Z @E7c (Z @E75 (Z @E7n (Z @E85 (Z @E1n (Z @E3x (Z @F5e (Z @F43 (Z @F8p (Z @D91 (Z @E7w (Z @E5q (Z @F1c (Z @E9b (Z @F8i (Z @E6y (Z @E81 (Z @E44 (Z @D8v (Z @D9n (Z @D93 (Z @F09 (Z @E34 (Z @E8r (Z @D9c (Z @E50 (Z @F8j (Z @F1i (Z @E19 (Z @F1p (Z @C9q (Z @E7y (Z @C92 (Z @D0d (Z @C9c (Z @C4p (Z @D8x (Z @D89 (Z @E8d (Z @F1n (Z @E6n (Z @E5d (Z @C4o (Z @C2w (Z @C98 (Z @C9s (Z @C9m (Z @D9k (Z @D81 (Z @C4r (Z @C9w (Z @C9j (Z @D48 (Z @C90 (Z @E6g (Z @D8s (Z @E2i (Z @E10 (Z @F7c (Z @E58 (Z @D8p (Z @E53 (Z @E4q (Z @E9e (Z @F0m (Z @F6j (Z @E7f (Z @F1a (Z @E6k (Z @E14 (Z @D8z (Z @D8y (Z @D92 (Z @E79 (Z @E4m (Z @F1l (Z @E1c (Z @E7k (Z @F1x (Z @E74 (Z @F1q (Z @E2b (Z @D70 (Z @E64 (Z @F3r (Z @E6p (Z @E0h (Z @E37 (Z @E7s (Z @F0l (Z @E8u (Z @F2m (Z @E5c (Z @F1d (Z @E4j (Z @E2j (Z @E0v (Z @E0l (Z @E0j (Z @E9a (Z @E5o (Z @E9t (Z @D96 (Z @E38 (Z @F2d (Z @E80 (Z @E1u (Z @E2d (Z @F95 (Z @F8s (Z @F80 (Z @E4i (Z @E18 (Z @D76 (Z @D9m (Z @E5t (Z @E69 (Z @D79 (Z @E1j (Z @F1t (Z @F1o (Z @E9w (Z @F79 (Z @F3q (Z @E89 (Z @F90 (Z @D21 (Z @D7u (Z @E9i (Z @E9r (Z @F0q (Z @E91 (Z @D8u (Z @D6y (Z @E1z (Z @E08 (Z @E4z (Z @E4l (Z @F1g (Z @E04 (Z @E7d (Z @D88 (Z @D7m (Z @D7x (Z @D62 (Z @D55 (Z @E5l (Z @D8t (Z @E35 (Z @D74 (Z @E0e (Z @E98 (Z @E4c (Z @E54 (Z @D6o (Z @D2x (Z @D94 (Z @E2e (Z @D7n (Z @D0r (Z @C3c (Z @C3u (Z @C3e (Z @C73 (Z @C7v (Z @D0o (Z @C3p (Z @C75 (Z @C3w (Z @C1e (Z @C0l (Z @B93 (Z @C7j (Z @C3r (Z @C7l (Z @C1y (Z @C30 (Z @D1h (Z @C7t (Z @D8l (Z @D38 (Z @D2a (Z @E6s (Z @E31 (Z @F1s (Z @F6f (Z @G0i (Z @E9z (Z @F8g (Z @E6r (Z @D85 (Z @D7e (Z @E7a (Z @F13 (Z @F85 (Z @E12 (Z @D6e (Z @D6t (Z @F2u (Z @D8q (Z @E06 (Z @E7r (Z @E45 (Z @E0f (Z @E0n (Z @E96 (Z @E77 (Z @E8e (Z @E8s (Z @E9u (Z @F05 (Z @E9q (Z @E95 (Z @F74 (Z @F9z (Z @F2x (Z @F34 (Z @F4x (Z @F4v (Z @F6s (Z @F18 (Z @D7p (Z @D8j (Z @E5x (Z @E5n (Z @E6m (Z @E6c (Z @E6u (Z @E3w (Z @E67 (Z @E7o (Z @E6i (Z @E0u (Z @D7a (Z @D7b (Z @A7u (Z @D23 (Z @get_map (Z @D9l (Z @E0p (Z @E4r (Z @D9x (Z @D82 (Z @D73 (Z @E39 (Z @E63 (Z @E62 (Z @F9o (Z @F14 (Z @E1s (Z @E7v (Z @E5h (Z @E1h (Z @D6f (Z @E7q (Z @E02 (Z @E5b (Z @D9g (Z @F0y (Z @E9s (Z @F0t (Z @E1w (Z @D4b (Z @E4o (Z @E6o (Z @E6e (Z @E7i (Z @E7l (Z @E66 (Z @E7z (Z @F1e (Z @F0e (Z @E8i (Z @F0a (Z @F3y (Z @E9l (Z @E4g (Z @E3z (Z @E88 (Z @E7j (Z @F0j (Z @F0u (Z @E8h (Z @E4x (Z @F01 (Z @C1d (Z @E3r (Z @C3b (Z @F6b (Z @F6w (Z @F6p (Z @F7m (Z @E90 (Z @E52 (Z @D9t (Z @D8i (Z @D97 (Z @D6l (Z @E03 (Z @D6w (Z @F96 (Z @D6z @E71))))))))))))))))))))))))))))))))))))))))))))))))))))))))))))))))))))))))))))))))))))))))))))))))))))))))))))))))))))))))))))))))))))))))))))))))))))))))))))))))))))))))))))))))))))))))))))))))))))))))))))))))))))))))))))))))))))))))))))))))))))))))))))))))))))))))))))))))))))))))))))))))))))))))))))))))))))))))))))))))))))))))))))))))))))))))))))))))))))))
theorem E1p{env:O (Y × AV)}{bx:O (Y × O AC)}{rows:Rows}{d:Y}{ids:O Y}{R1:I6}{r:D}:St.instX ⟨env,bx,rows⟩ d ids R1 r=⟨put env d (.v (.sc (.dat r))),bx,A8b rows ids R1⟩:=rfl
theorem D64{rs:Rows}{id:Y}{ids:O Y}{r:Y × O (O D)}{R:I6}:A8b rs (id::ids) (r::R)=A8b (put rs id r) ids R:=rfl
theorem D9y{rs:Rows}:A8b rs [] []=rs:=rfl
theorem F0i{N:O Y}:AV.avoids N (.v (.sc .z))=T:=by simp[AV.avoids,AV.cells,V1.cells,AC.avoids,AC.uses]
theorem G1c{P:Program}{k:O Fr}{Q:Xo→St→Prop}{σ:St}{N:O Y}{d:Y}{its:O Q6}:go P (.dops ((E N,G,.zsl d)::its)::k) Q .normal (E σ)=go P (.dops its::k) Q .normal (E (σ.set d (.v (.sc .z)))):=by
 rw[N1 rfl]
 show go P _ Q .normal (bif (((σ.less N).set d (.v (.sc .z))).get d).avoids N then E (σ.set d (((σ.less N).set d (.v (.sc .z))).get d)) else G)=_
 rw[St.get_set_same,F0i]
 rfl
theorem E6l{N:O Y}:AV.avoids N (.tup [])=T:=rfl
theorem F0c{N:O Y}{x:V1}{l:O V1}:AV.avoids N (.tup (x::l))=((AV.v x).avoids N&&(AV.tup l).avoids N):=by simp[AV.avoids,AV.cells]
theorem E8o{t:TypeId}{d:D}:B2v t (.v (.sc (.dat d)))=E (.v (.sc (.dat (.ifc t d)))):=rfl
theorem F0g{t u:TypeId}{zc:AC}{d:D}:B2z t zc (.v (.sc (.dat (.ifc u d))))=bif u==t then E (.tup [.sc (.dat d),.sc (.dat (.bool T))]) else E (.tup [.sc zc,.sc (.dat (.bool F))]):=rfl
theorem E8p{id:Y}{ds:O D}{d:D}:AC.frzb id ds (.dat d)= .dat d:=rfl
theorem E84{id:Y}{ds:O D}:AC.frzb id ds .nil= .nil:=rfl
theorem E87{id:Y}{ds:O D}:AC.frzb id ds .undef= .undef:=rfl
theorem E9n{id i:Y}{ds:O D}:AC.frzb id ds (.own i)= .own i:=rfl
theorem E8w{id i a b:Y}{ds:O D}:AC.frzb id ds (.osub i a b)= .osub i a b:=rfl
theorem F03{id i a b:Y}{ds:O D}:AC.frzb id ds (.pe i a b)= .pe i a b:=rfl
theorem E9v{id i a:Y}{ds:O D}:AC.frzb id ds (.pb i a)=bif i==id then .dat (.pd (ds.drop a)) else .pb i a:=rfl
theorem F8c{a b:Y}{d:D}:AC.ren a b (.dat d)= .dat d:=rfl
theorem F12{a b:Y}:AC.ren a b .nil= .nil:=rfl
theorem F6y{a b:Y}:AC.ren a b .undef= .undef:=rfl
theorem F3e{a b i:Y}:AC.ren a b (.own i)= .own (bif i==a then b else i):=rfl
theorem F9n{a b i x y:Y}:AC.ren a b (.osub i x y)= .osub (bif i==a then b else i) x y:=rfl
theorem F6r{a b i x y:Y}:AC.ren a b (.pe i x y)= .pe (bif i==a then b else i) x y:=rfl
theorem F4i{a b i x:Y}:AC.ren a b (.pb i x)= .pb i x:=rfl
theorem E49{t:TypeId}{a b:D}:B2v t (.v (.ag [.dat a,.dat b]))=E (.v (.sc (.dat (.ifs t [a,b])))):=rfl
def FCq(P:Program)(f:FuncId)(ds:O DV)(rs:O R1):U D→Prop
 | none=>FC P f ds rs
 | some d=>FCp P f ds d
theorem FCq.none{P:Program}{f:FuncId}{ds:O DV}{rs:O R1}{pd:U D}(h:FCq P f ds rs pd)(hp:pd=G):FC P f ds rs:=by subst hp; exact h
theorem FCq.some{P:Program}{f:FuncId}{ds:O DV}{rs:O R1}{pd:U D}{d:D}(h:FCq P f ds rs pd)(hp:pd=E d):FCp P f ds d:=by subst hp; exact h
theorem E78{t:TypeId}{id:Y}:B2v t (.v (.sc (.pb id 0)))=E (.v (.sc (.ipb t id))):=rfl
theorem E9d{id i:Y}{t:TypeId}:AC.kill id (.ipb t i)= .ipb t i:=rfl
theorem F67{id i:Y}{t:TypeId}{es:O (O D)}:AC.frz id es (.ipb t i)= .ipb t i:=rfl
theorem E8z{g:W}{ks:O FK}{cs ds:O AC}:C2d g ks (.v (.ag cs)) (.v (.ag ds))=(A2a ks cs ds).map fun b=> .v (.sc (.dat (.bool (bif g then !b else b)))):=rfl
theorem F4w:A2a [] [] []=E T:=rfl
theorem F26{k:IntKind}{x y:V}{ks:O FK}{cs ds:O AC}:A2a (.i::ks) (.dat (.int k x)::cs) (.dat (.int k y)::ds)=(A2a ks cs ds).map fun b=>(x==y)&&b:=if_pos rfl
theorem F10{x y:W}{ks:O FK}{cs ds:O AC}:A2a (.b::ks) (.dat (.bool x)::cs) (.dat (.bool y)::ds)=(A2a ks cs ds).map fun b=>(x==y)&&b:=rfl
theorem F7s{x y:O UInt8}{ks:O FK}{cs ds:O AC}:A2a (.s::ks) (.dat (.str x)::cs) (.dat (.str y)::ds)=(A2a ks cs ds).map fun b=>(x==y)&&b:=rfl
def E73:=Z @F0i (Z @G1c (Z @E6l (Z @F0c (Z @E1p (Z @D64 (Z @D9y (Z @E6b (Z @E5i (Z @C3z (Z @C3x (Z @E56 (Z @E4h (Z @E1f (Z @E4n (Z @E6t (Z @E09 (Z @E8o (Z @F0g (Z @E8p (Z @E84 (Z @E87 (Z @E9n (Z @E8w (Z @F03 (Z @E9v (Z @E78 (Z @E9d (Z @F67 (Z @F8c (Z @F12 (Z @F6y (Z @F3e (Z @F9n (Z @F6r (Z @F4i (Z @E72 (Z @E8j (Z @C9x (Z @D4t (Z @E49 (Z @C79 (Z @F0h (Z @E8t (Z @F1j (Z @E4u (Z @E8z (Z @F4w (Z @F26 (Z @F10 @F7s)))))))))))))))))))))))))))))))))))))))))))))))))
end Go.Vi
