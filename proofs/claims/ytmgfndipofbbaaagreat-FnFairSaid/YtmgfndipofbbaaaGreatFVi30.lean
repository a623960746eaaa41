/-
The value level. No condition.
-/
import Derived.Test.YtmgfndipofbbaaaGreatFVi28
namespace Go.Vi
set_option linter.all false
open And renaming intro → Z
open List renaming map → A, mem_singleton → B, replicate → I
open Nat renaming one_pos → zA
open Bool renaming and_self → zB, true → T, false → F
open Option renaming some → E, none → G
open _root_ renaming List → O, Option → U, Int → V, Bool → W, Nat → Y
abbrev S(n:Y):Opd:= .t n
abbrev K(n:V):Opd:= .c (.v (.sc (.dat (.int .i64 n))))
abbrev K8(n:V):Opd:= .c (.v (.sc (.dat (.int .u8 n))))
abbrev KB(b:W):Opd:= .c (.v (.sc (.dat (.bool b))))
abbrev KS(s:O UInt8):Opd:= .c (.v (.sc (.dat (.str s))))
abbrev KN:Opd:= .c (.v (.sc .nil))
abbrev aI(n:V):AC:= .dat (.int .i64 n)
abbrev a8(n:V):AC:= .dat (.int .u8 n)
abbrev aB(b:W):AC:= .dat (.bool b)
abbrev aS(s:O UInt8):AC:= .dat (.str s)
abbrev aL(es:O (O D)):AC:= .dat (.sl es)
abbrev vc(c:AC):AV:= .v (.sc c)
abbrev va(cs:O AC):AV:= .v (.ag cs)
def rI(n:V):O D:= [.int .i64 n]
def r8(n:V):O D:= [.int .u8 n]
def rB(b:W):O D:= [.bool b]
def rS(s:O UInt8):O D:= [.str s]
def rL{α:Type}(row:α→O D)(xs:O α):O D:= [.sl (xs.map row)]
class Row {α:Type} (row:α→O D) (sz:Y):Prop where
 len:∀x,(row x).length=sz
 pos:0<sz
instance:Row rI 1:=⟨fun _=>rfl,zA⟩
instance:Row r8 1:=⟨fun _=>rfl,zA⟩
instance:Row rB 1:=⟨fun _=>rfl,zA⟩
instance:Row rS 1:=⟨fun _=>rfl,zA⟩
instance {α:Type} (row:α→O D):Row (rL row) 1:=⟨fun _=>rfl,zA⟩
theorem D7l(n:V):rI n= [.int .i64 n]:=rfl
def C4x(n:V):UInt8:=UInt8.ofNat n.toNat
theorem C0h:∀{xs:O V},A14 (A r8 xs)=E (A C4x xs)
 | []=>rfl
 | n::xs=>by
  show(A14 (A r8 xs)).map _=_
  rw[C0h]
  rfl
theorem E6o(n:V):r8 n= [.int .u8 n]:=rfl
theorem F12(b:W):rB b= [.bool b]:=rfl
theorem F0r(s:O UInt8):rS s= [.str s]:=rfl
theorem E8b{α:Type}(row:α→O D)(xs:O α):rL row xs= [.sl (xs.map row)]:=rfl
theorem C64{α:Type}{row:α→O D}{sz:Y}(h:∀x,(row x).length=sz)(xs:O α):(xs.map row).all (fun d=>d.length==sz)=T:=by
 simp[List.all_map,Function.comp_def,h]
@[irreducible] def bigN:Y:=1208925819614629174706176
def bnd(m h l:V)(n:Y):U (Y × Y):=if 0≤l∧l≤h∧h≤m∧m≤n then E (l.toNat,h.toNat) else G
def mkS(l c:V)(bytes:Y):U Y:=if 0≤l∧l≤c∧c*bytes≤140737488355328∧c≤4611686018427387904 then E l.toNat else G
def C9(n m bytes:Y):W:=decide ((n+m)*bytes≤140737488355328∧n+m≤4611686018427387904)
def B6e(n m:Y):W:=decide (n+m≤4611686018427387904)
theorem B8q{α β:Type}{f:α→β}{l:O α}{i:V}:ix (l.map f) i=(ix l i).map f:=by
 unfold ix
 split<;>simp
theorem M5{α:Type}{l:O α}{i:V}{x:α}(h:ix l i=E x):l[i.toNat]?=E x:=by
 unfold ix at h
 split at h
 ·exact h
 ·cases h
theorem ob{α β:Type}{o:U α}{f:α→U β}{r:β}(h:o.bind f=E r):∃a,o=E a∧f a=E r:=Option.bind_eq_some_iff.1 h
class FlatRow {α:Type} (row:α→O D):Prop where
 flat:∀x,∀d∈row x,d.flat=T
instance:FlatRow rI:=⟨fun _ d h=>by rw[B.1 h]; rfl⟩
instance:FlatRow r8:=⟨fun _ d h=>by rw[B.1 h]; rfl⟩
instance:FlatRow rB:=⟨fun _ d h=>by rw[B.1 h]; rfl⟩
instance:FlatRow rS:=⟨fun _ d h=>by rw[B.1 h]; rfl⟩
def D7m:O RC→Prop
 | []=>True
 | c::cs=>c.flat∧D7m cs
theorem A3f{rs:O R1}{cs:O RC}(h:rs.flatMap R1.cells=cs)(hf:D7m cs):A26 rs:=by
 subst h
 unfold A26
 generalize rs.flatMap R1.cells=l at hf
 induction l with
 | nil=>intro c hc; simp at hc
 | cons a l ih=>
  intro c hc
  rcases List.mem_cons.1 hc with rfl|hc
  ·exact hf.1
  ·exact ih hf.2 c hc
theorem A1r{α:Type}{row:α→O D} [FlatRow row]{sz:Y}{xs:O α}:RC.flat (.o sz (A row xs)):=by
 intro r hr
 obtain⟨x,_,rfl⟩:=List.mem_map.1 hr
 exact FlatRow.flat x
theorem A6v{α:Type}{row:α→O D}{z:α}{zs:O D}{n:Y}(h:row z=zs):I n zs=A row (I n z):=by rw[List.map_replicate,h]
theorem D7{α:Type}{b:W}{x:U α}{r:α}(h:(if b=T then x else G)=E r):b=T∧x=E r:=by
 cases b
 ·rw[if_neg Bool.false_ne_true] at h; cases h
 ·exact⟨rfl,by simpa using h⟩
theorem A0g{α:Type}{b:W}{x:U α}{r:α}(h:(if b=T then G else x)=E r):b=F∧x=E r:=by
 cases b
 ·exact⟨rfl,by simpa using h⟩
 ·rw[if_pos rfl] at h; cases h
theorem ic{α:Type}{b:W}{x y:U α}{r:α}(h:(if b=T then x else y)=E r):(b=T∧x=E r)∨(b=F∧y=E r):=by
 cases b with
 | true=>exact .inl ⟨rfl,h⟩
 | false=>exact .inr ⟨rfl,h⟩
section
variable {P : Program} {k : O Fr} {Q : Xm → St → Prop} {σ : St} {its : O AItem} {ds : O N6} {o : AOp} {d : Y}
theorem B8{c:X3}(h:go P (.code c:: .code (.loop c)::k) Q .normal (E σ)):go P (.code (.loop c)::k) Q .normal (E σ):=by
 intro X hX
 refine hX σ (C5h c (fun e σ' h=> ?_) h)
 cases e with
 | normal=>exact h X hX
 | exit id=>exact h
 | ret=>exact h
 | pan d=>exact h
theorem F2s(hm:P.follows .mixedOrders=T){f:FuncId}{c:X3}{ts:O RV}{nt:Y}{ds:O DV}{rs:O R1}{σ:St}(he:A6 P f=E (c.strip,ts,nt))(hl:Nat.ble ds.length nt=T)(hσ:St.init ds=σ)
  (h:go P [.code c] (Ret ts rs) .normal (E σ)):FC P f ds rs:=F0b hm he (Nat.le_of_ble_eq_true hl) fun _=>A9n (hσ▸h)
theorem C8(hm:P.follows .mixedOrders=T){f:FuncId}{c:X3}{ts:O RV}{nt:Y}{ds:O DV}{rs:O R1}(he:A6 P f=E (c.strip,ts,nt))(hl:Nat.ble ds.length nt=T)
  (h:go P [.code c] (Ret ts rs) .normal (E (St.init ds))):FC P f ds rs:=F2s hm he hl rfl h
theorem A9s{sz:Y}{es:O (O D)}(hf:σ.fresh d=T):σ.make (.row d sz es)=E {(σ.set d (.v (.sc (.own (d*64))))) with rows:=put σ.rows (d*64) (sz,es)}:=by simp[St.make,hf]
theorem A7k{cs:O AC}(hf:σ.fresh d=T)(hu:cs.all (fun c=> !c.uses d)=T):σ.make (.box d cs)=E {(σ.set d (.v (.sc (.pb d 0)))) with bx:=put σ.bx d cs}:=by simp only[St.make,hf,hu,zB,if_true]
theorem C1r{m:Mk}(ho:o.isMade=T)(hm:σ.made o=E m){σ':St}(hs:σ.make m=E σ')(H:go P (.ops its::k) Q .normal (E σ')):go P (.ops ((G,o)::its)::k) Q .normal (E σ):=by
 have hc:o.isCall=F:=by cases o<;>first | rfl | (simp[AOp.isMade] at ho; done)
 rw[N5 hc,E2h ho,hm]
 show go P (.ops its::k) Q .normal (σ.make m)
 rw[hs]
 exact H
theorem B3{X:Opd}{y:V1}(hX:σ.val X= .v y)(hf:σ.fresh d=T)(hu:y.cells.all (fun c=> !c.uses d)=T)(H:go P (.ops its::k) Q .normal (E {(σ.set d (.v (.sc (.pb d 0)))) with bx:=put σ.bx d y.cells })) :
  go P (.ops ((G,.box d X)::its)::k) Q .normal (E σ):=C1r rfl (by simp only[St.made,hX]) (A7k hf hu) H
theorem D1{cs:O AC}(hf:σ.fresh d=T)(hu:cs.all (fun c=> !c.uses d)=T)(H:go P (.ops its::k) Q .normal (E {(σ.set d (.v (.sc (.pb d 0)))) with bx:=put σ.bx d cs })) :
  go P (.ops ((G,.alloc d cs)::its)::k) Q .normal (E σ):=C1r rfl rfl (A7k hf hu) H
theorem D4{sz:Y}{zs:O D}{len:Y}{ps:O (Y × Opd)}{es:O (O D)}(hm:σ.made (.bslice d sz zs len ps)=E (.row d sz es))(hf:σ.fresh d=T)
  (H:go P (.ops its::k) Q .normal (E {(σ.set d (.v (.sc (.own (d*64))))) with rows:=put σ.rows (d*64) (sz,es) })):go P (.ops ((G,.bslice d sz zs len ps)::its)::k) Q .normal (E σ):=C1r rfl hm (A9s hf) H
theorem B6w{L C:Opd}{l c:V}{bytes n sz:Y}{zs:O D}{es:O (O D)}(hl:asI (σ.val L)=E l)(hc:asI (σ.val C)=E c)(hb:mkS l c bytes=E n)(hz:zs.length=sz)(he:I n zs=es) :
  σ.made (.mksl d sz bytes zs L C)=E (.row d sz es):=by
 unfold mkS at hb
 split at hb
 ·rename_i h
  cases hb
  subst he
  simp only[St.made,hl,hc]
  rw[if_pos ⟨h.1,h.2.1,h.2.2.1,h.2.2.2,hz⟩]
 ·cases hb
theorem B1f{L C:Opd}{l c:V}{bytes n sz:Y}{zs:O D}{es:O (O D)}(hl:asI (σ.val L)=E l)(hc:asI (σ.val C)=E c)(hb:mkS l c bytes=E n)(hz:zs.length=sz)(he:I n zs=es)(hf:σ.fresh d=T)
  (H:go P (.ops its::k) Q .normal (E {(σ.set d (.v (.sc (.own (d*64))))) with rows:=put σ.rows (d*64) (sz,es) })):go P (.ops ((G,.mksl d sz bytes zs L C)::its)::k) Q .normal (E σ):=
 C1r rfl (B6w hl hc hb hz he) (A9s hf) H
theorem B0a{n:Y}{N:O Y}{m:Mk}(hm:(σ.less (n::N)).made o=E m)(hv:E4g (n::N) m=T){σ':St}(hs:σ.make m=E σ')(H:go P (.dops ds::k) Q .normal (E σ')) :
  go P (.dops ((E (n::N),G,o)::ds)::k) Q .normal (E σ):=D68 hm hv hs H
theorem A37{α:Type}{env bx rows}{id sz i off n:Y}{xs:O α}{row:α→O D}{x y:α}{yv:V1}{dd:O D}(hd:yv.toDs=E dd)(hf:A3 rows id=E (sz,A row xs))
  (hx:xs[i]?=E x) (hn:dd.length=n) (ho:Nat.ble (off+n) (row x).length=T) (hy:B19 (row x) off dd=row y) (H:go P k Q .normal (E ⟨env,bx,put rows id (sz,A row (xs.set i y))⟩)) :
  go P k Q .normal (St.storeV ⟨env,bx,rows⟩ n (.v (.sc (.pe id i off))) (.v yv)):=by
 have e:St.storeV ⟨env,bx,rows⟩ n (.v (.sc (.pe id i off))) (.v yv)=E ⟨env,bx,put rows id (sz,A row (xs.set i y))⟩:=by
  simp only[St.storeV,hf,List.getElem?_map,hx,Option.map_some,hd]
  rw[if_pos ⟨hn,Nat.le_of_ble_eq_true ho⟩,hy,List.map_set]
 rw[e]
 exact H
end
def A6i{α:Type}:Y→O α→U (O α)
 | 0,l=>E l
 | _+1,[]=>G
 | n+1,_::l=>A6i n l
def A80{α:Type}:Y→O α→U (O α)
 | 0,_=>E []
 | _+1,[]=>G
 | n+1,c::l=>(A80 n l).map (c:: ·)
def A6g{α:Type}:O α→Y→W
 | [],0=>T
 | _::l,n+1=>A6g l n
 | _,_=>F
def A1f{α:Type}:O α→Y→W
 | _,0=>T
 | _::l,n+1=>A1f l n
 | [],_+1=>F
theorem A9l{α:Type}:∀(n:Y) (l:O α),A6i n l=if n≤l.length then E (l.drop n) else G
 | 0,l=>by simp[A6i]
 | n+1,[]=>by simp[A6i]
 | n+1,c::l=>by simp[A6i,A9l n l]
theorem C4d{α:Type}:∀(n:Y) (l:O α),A80 n l=if n≤l.length then E (l.take n) else G
 | 0,l=>by simp[A80]
 | n+1,[]=>by simp[A80]
 | n+1,c::l=>by simp only[A80,C4d n l]; split<;>simp_all
theorem B50{α:Type}:∀(l:O α) (n:Y),A6g l n=decide (l.length=n)
 | [],0=>by simp[A6g]
 | [],n+1=>by simp[A6g]
 | _::l,0=>by simp[A6g]
 | _::l,n+1=>by simp[A6g,B50 l n]
theorem A9x{α:Type}:∀(l:O α) (n:Y),A1f l n=decide (n≤l.length)
 | [],0=>by simp[A1f]
 | [],n+1=>by simp[A1f]
 | _::l,0=>by simp[A1f]
 | _::l,n+1=>by simp[A1f,A9x l n]
theorem D95{α:Type}{l:O α}:A6i 0 l=E l:=by cases l<;>rfl
theorem D8p{α:Type}{n:Y}{c:α}{l:O α}:A6i (n+1) (c::l)=A6i n l:=rfl
theorem E1j{α:Type}{l:O α}:A80 0 l=E []:=by cases l<;>rfl
theorem E0p{α:Type}{n:Y}{c:α}{l:O α}:A80 (n+1) (c::l)=(A80 n l).map (c:: ·):=rfl
theorem E09{α:Type}:A6g ([]:O α) 0=T:=rfl
theorem D8t{α:Type}{n:Y}{c:α}{l:O α}:A6g (c::l) (n+1)=A6g l n:=rfl
theorem D9o{α:Type}{l:O α}:A1f l 0=T:=by cases l<;>rfl
theorem D9q{α:Type}{n:Y}{c:α}{l:O α}:A1f (c::l) (n+1)=A1f l n:=rfl
theorem E2b{cs:O AC}{off n:Y}:A2e cs off T n=(A6i off cs).bind fun l=>(A80 n l).map fun l=> .v (.ag l):=by
 simp only[A2e,cond_true,A9l,C4d]
 by_cases h:off≤cs.length
 ·rw[if_pos h]
  by_cases h2:off+n≤cs.length
  ·rw[if_pos h2,Option.bind_some,if_pos (by simp; omega)]; rfl
  ·rw[if_neg h2,Option.bind_some,if_neg (by simp; omega)]; rfl
 ·rw[if_neg h,if_neg (by omega)]; rfl
theorem D6q{cs:O AC}:A2g cs 0 []=cs:=by simp[A2g]
theorem D20{c:AC}{cs ds:O AC}{n:Y}:A2g (c::cs) (n+1) ds=c::A2g cs n ds:=by
 simp only[A2g,List.take_succ_cons,List.cons_append]
 rw[show n+1+ds.length=(n+ds.length)+1 by omega,List.drop_succ_cons]
theorem D3h{c d:AC}{cs ds:O AC}:A2g (c::cs) 0 (d::ds)=d::A2g cs 0 ds:=by simp[A2g]
theorem A5z{α β:Type}{a:α}{f:α→U β}:(E a).bind f=f a:=rfl
theorem D0x{α β:Type}{f:α→U β}:(G:U α).bind f=G:=rfl
theorem get_map{α β:Type}{f:α→β}{l:O α}{i:Y}:(A f l)[i]?=(l[i]?).map f:=List.getElem?_map
theorem D56{α:Type}{a:α}{l:O α}:(a::l)[0]?=E a:=rfl
theorem D4d{α:Type}{a:α}{l:O α}{n:Y}:(a::l)[n+1]?=l[n]?:=by simp
theorem E2f:A AC.dat []= []:=rfl
theorem D5a{d:D}{l:O D}:A AC.dat (d::l)= .dat d::A AC.dat l:=rfl
section
variable {P : Program} {k : O Fr} {Q : Xm → St → Prop} {σ : St} {its : O AItem} {env : O (Y × AV)} {bx : O (Y × O AC)} {rows : Rows}
theorem D6i{α:Type}{rs:Rows}{sz:Y}{xs:O α}{row:α→O D} [Row row sz]{kd:IntKind}{i:V}:A24 rs sz (.v (.sc (.dat (.sl (A row xs))))) (.v (.sc (.dat (.int kd i))))=(ix xs i).map fun x=> .v (.sc (.dat (.pd (row x)))):=by
 simp only[A24,B8q]
 cases ix xs i with
 | none=>rfl
 | some x=>simp[Row.len (row:=row) (sz:=sz),Row.pos row]
theorem D13{rs:Rows}{sz id:Y}{kd:IntKind}{i:V}:A24 rs sz (.v (.sc (.own id))) (.v (.sc (.dat (.int kd i))))=(A3 rs id).bind fun p=>(ix p.2 i).bind fun _=>bif p.1==sz then E (.v (.sc (.pe id i.toNat 0))) else G:=by
 simp only[A24]
 cases A3 rs id with
 | none=>rfl
 | some p=>
  obtain⟨a,es⟩:=p
  simp only[A5z]
  cases ix es i with
  | none=>rfl
  | some x=>
   by_cases h:a=sz
   ·simp[h]
   ·have h':(a==sz)=F:=by simpa using h
    simp[h,h']
theorem E2g{g:W}{n id off:Y}:A3t ⟨env,bx,rows⟩ g n (.v (.sc (.pb id off)))=(A3 bx id).bind fun cs=>A2e cs off g n:=by
 show(match A3 bx id with | some cs=>_ | none=>G)=_
 cases A3 bx id<;>rfl
theorem D9d{g:W}{n id i off:Y}:A3t ⟨env,bx,rows⟩ g n (.v (.sc (.pe id i off)))=(A3 rows id).bind fun p=>(p.2[i]?).bind fun d=>A2e (A AC.dat d) off g n:=by
 simp only[A3t]
 cases A3 rows id with
 | none=>rfl
 | some p=>
  simp only[A5z]
  cases p.2[i]?<;>rfl
theorem E0u{g:W}{n:Y}{cs:O D}:A3t σ g n (.v (.sc (.dat (.pd cs))))=A2e (A AC.dat cs) 0 g n:=rfl
theorem E82{rs:Rows}{off id i o:Y}:A1c rs off (.v (.sc (.pe id i o)))=(A3 rs id).map fun _=> .v (.sc (.pe id i (o+off))):=by
 simp only[A1c]
 cases A3 rs id<;>rfl
theorem E7h{rs:Rows}{off:Y}{cs:O D}:A1c rs off (.v (.sc (.dat (.pd cs))))=(A6i off cs).map fun cs=> .v (.sc (.dat (.pd cs))):=by
 simp only[A1c,A9l]
 split<;>rfl
theorem D5p{l:O V1}{i:Y}:B4v i (.tup l)=(l[i]?).map .v:=rfl
theorem E17{id off:Y}:A8z (.v (.sc (.pb id off)))=E (.v (.sc (.pb id off))):=rfl
theorem D8n{cs:O D}:A8z (.v (.sc (.dat (.pd cs))))=E (.v (.sc (.dat (.pd cs)))):=rfl
theorem D3y:A (St.val σ) []= []:=rfl
theorem D3b{x:Opd}{l:O Opd}:A (St.val σ) (x::l)=σ.val x::A (St.val σ) l:=rfl
theorem E0r{f:FuncId}:A97 f []=E []:=rfl
theorem D33{f:FuncId}{id:Y}{r:O AV}:A97 f (.v (.sc (.pb id 0))::r)=(A97 f r).map (id:: ·):=rfl
def C8p(K:O AC→U (O AC))(off n:Y)(cs:O AC):AV→U (O AC)
 | .v x=>bif A6g x.cells n&&A1f cs (off+n) then K (A2g cs off x.cells) else G
 | _=>G
def B3g(σ:St):O (Y × Y × Opd)→O AC→U (O AC)
 | [],cs=>E cs
 | (off,n,x)::r,cs=>C8p (B3g σ r) off n cs (σ.val x)
theorem B84:∀(ps:O (Y × Y × Opd)) (cs:O AC),A5q cs (ps.map fun p=>(p.1,p.2.1,σ.val p.2.2))=B3g σ ps cs
 | [],cs=>rfl
 | (off,n,x)::r,cs=>by
  simp only[List.map_cons,B3g]
  generalize σ.val x=v
  cases v with
  | v y=>
   simp only[A5q,C8p,B50,A9x]
   by_cases h1:y.cells.length=n
   ·by_cases h2:off+n≤cs.length
    ·subst h1
     simp only[h2,and_self,if_true,decide_true,zB,cond_true]
     exact B84 r _
    ·simp[h1,h2]
   ·simp[h1]
  | _=>rfl
theorem E0j{cs:O AC}:B3g σ [] cs=E cs:=rfl
theorem D5b{off n:Y}{x:Opd}{r:O (Y × Y × Opd)}{cs:O AC}:B3g σ ((off,n,x)::r) cs=C8p (B3g σ r) off n cs (σ.val x):=rfl
theorem E58{K:O AC→U (O AC)}{off n:Y}{cs:O AC}{x:V1}:C8p K off n cs (.v x)=bif A6g x.cells n&&A1f cs (off+n) then K (A2g cs off x.cells) else G:=rfl
theorem E20{d zs ps}:go P (.ops ((G,.build d zs ps)::its)::k) Q .normal (E σ)=go P (.ops its::k) Q .normal (I4 σ d ((B3g σ ps zs).map fun cs=> .v (.ag cs))):=by rw[D5q,B84]
theorem E2u{d zs ps}:σ.step (.build d zs ps)=I4 σ d ((B3g σ ps zs).map fun cs=> .v (.ag cs)):=by rw[B7x,B84]
theorem D58{n id off:Y}{y:V1}:St.storeV ⟨env,bx,rows⟩ n (.v (.sc (.pb id off))) (.v y)=(A3 bx id).bind fun cs=>bif A6g y.cells n&&A1f cs (off+n) then E ⟨env,put bx id (A2g cs off y.cells),rows⟩ else G:=by
 simp only[St.storeV,B50,A9x]
 cases A3 bx id with
 | none=>rfl
 | some cs=>
  simp only[A5z]
  by_cases h1:y.cells.length=n
  ·by_cases h2:off+n≤cs.length
   ·simp[h1,h2]
   ·simp[h1,h2]
  ·simp[h1]
def B67(sz:Y)(es:O (O D)):W:=es.all fun r=>r.length==sz
theorem C75{α:Type}{sz:Y}{row:α→O D} [Row row sz]{xs:O α}:B67 sz (A row xs)=T:=C64 (Row.len (row:=row)) xs
theorem E12{d sz bytes id:Y}{y:AV}:St.appV ⟨env,bx,rows⟩ d sz bytes (.v (.sc (.own id))) y=bif id / 99999999999==0 then((A3 rows id).bind fun p=>(appSrc rows y).bind fun es'=>
  bif (p.1==sz)&&(B67 sz es'&&C9 p.2.length es'.length bytes) then E ⟨put (env.map fun p=>(p.1,p.2.map (AC.kill id))) d (.v (.sc (.own id))),bx.map fun p=>(p.1,p.2.map (AC.kill id)),put rows id (sz,p.2++es')⟩ else G) else G:=by
 simp only[St.appV]
 by_cases h0:id / 99999999999=0
 rotate_left
 ·rw[if_neg h0,show(id / 99999999999==0)=F by simpa using h0]
  rfl
 rw[if_pos h0,show(id / 99999999999==0)=T by simpa using h0,cond_true]
 cases A3 rows id with
 | none=>rfl
 | some p=>
  obtain⟨a,es⟩:=p
  simp only[A5z]
  cases appSrc rows y with
  | none=>rfl
  | some es'=>
   simp only[A5z]
   by_cases h1:a=sz
   ·by_cases h2:B67 sz es'=T
    ·by_cases h3:C9 es.length es'.length bytes=T
     ·have h3':=of_decide_eq_true h3
      rw[if_pos ⟨h1,h2,h3'.1,h3'.2⟩]
      simp only[h1,beq_self_eq_true,h2,h3,zB,cond_true]
      rfl
     ·have h3':C9 es.length es'.length bytes=F:=by simpa using h3
      rw[if_neg (fun h=>h3 (decide_eq_true ⟨h.2.2.1,h.2.2.2⟩))]
      simp[h3']
    ·have h2':B67 sz es'=F:=by simpa using h2
     rw[if_neg (fun h=>h2 h.2.1)]
     simp[h2']
   ·have h1':(a==sz)=F:=by simpa using h1
    rw[if_neg (fun h=>h1 h.1)]
    simp[h1']
theorem D9i{rs:Rows}{es:O (O D)}:appSrc rs (.v (.sc (.dat (.sl es))))=E es:=rfl
theorem E1x{rs:Rows}:appSrc rs (.v (.sc .nil))=E []:=rfl
theorem D9m{rs:Rows}{id:Y}:appSrc rs (.v (.sc (.own id)))=(A3 rs id).map fun p=>p.2:=by
 simp only[appSrc,toD0]
 cases A3 rs id<;>rfl
theorem D9g{α:Type}{f:α→O D}{a b:O α}:A f a++A f b=A f (a++b):=List.map_append.symm
def B1a(σ:St)(n:Y):U Opd→U V
 | none=>E n
 | some x=>asI (σ.val x)
def B6j(n:Y):U V→U V→U V→U (Y × Y)
 | some m,E h,E l=>bnd m h l n
 | _,_,_=>G
theorem B9v{lo hi mx:U Opd}{n:Y}:A9k σ lo hi mx n=B6j n (B1a σ n mx) (B1a σ n hi) (match lo with | none=>E 0 | some x=>asI (σ.val x)):=by
 cases mx<;>cases hi<;>cases lo<;>(simp only[A9k,B6j,B1a]; first | rfl | (split<;>simp_all[B6j,bnd]))
def C49(σ:St):U Opd→U V
 | none=>E 0
 | some x=>asI (σ.val x)
theorem E1e{α:Type}{sz:Y}{lo hi mx:U Opd}{xs:O α}{row:α→O D} [Row row sz]:A93 σ sz (.v (.sc (.dat (.sl (A row xs))))) lo hi mx=(B6j xs.length (B1a σ xs.length mx) (B1a σ xs.length hi) (C49 σ lo)).map fun p=> .v (.sc (.dat (.sl (A row ((xs.drop p.1).take (p.2 - p.1)))))):=by
 have h:(A row xs).all (fun d=>d.length==sz)=T:=C64 (Row.len (row:=row)) xs
 simp only[A93,h,Row.pos row (sz:=sz),decide_true,zB,if_true,List.length_map,B9v]
 cases lo<;>simp[C49,List.map_drop,List.map_take]
theorem D83{lo hi:U Opd}{s:O UInt8}:B0q σ (.v (.sc (.dat (.str s)))) lo hi=(B6j s.length (B1a σ s.length G) (B1a σ s.length hi) (C49 σ lo)).map fun p=> .v (.sc (.dat (.str ((s.drop p.1).take (p.2 - p.1))))):=by
 simp only[B0q,B9v]
 cases lo<;>rfl
theorem E51{n:Y}:B1a σ n G=E (n:V):=rfl
theorem E4t{n:Y}{x:Opd}:B1a σ n (E x)=asI (σ.val x):=rfl
theorem E2v:C49 σ G=E 0:=rfl
theorem E5t{x:Opd}:C49 σ (E x)=asI (σ.val x):=rfl
theorem E7i{kd:IntKind}{i:V}:asI (.v (.sc (.dat (.int kd i))))=E i:=rfl
theorem E3w{n:Y}{m h l:V}:B6j n (E m) (E h) (E l)=bnd m h l n:=rfl
theorem E1g{x y:O UInt8}:B36 .add x y=bif B6e x.length y.length then E (.str (x++y)) else G:=by
 simp only[B36,B6e]
 by_cases h:x.length+y.length≤4611686018427387904
 ·simp[h]
 ·simp[h]
theorem E0g{k:IntKind}{x y:V}:L6 .and k x y=E (.int k (J4 .and k x y)):=rfl
theorem E2z{k:IntKind}{x y:V}:L6 .or k x y=E (.int k (J4 .or k x y)):=rfl
theorem E1y{k:IntKind}{x y:V}:L6 .xor k x y=E (.int k (J4 .xor k x y)):=rfl
theorem E42:(T==T)=T:=rfl
theorem E5v:(T==F)=F:=rfl
theorem E3x:(F==T)=F:=rfl
theorem D9r:(F==F)=T:=rfl
theorem E46{b:W}:(F&&b)=F:=rfl
end
def D7o{α:Type}(k:Y):U α→O (Y × α)→O (Y × α)
 | some v,r=>(k,v)::r
 | none,r=>r
theorem D1q{α:Type}{l:O (Y × α)}:A2v l []= []:=rfl
theorem C7r{α:Type}{l:O (Y × α)}{k:Y}{ks:O Y}:A2v l (k::ks)=D7o k (A3 l k) (A2v l ks):=by
 show(match A3 l k with | some v=>_ | none=>_)=_
 cases A3 l k<;>rfl
theorem C8w{α:Type}{k:Y}{v:α}{r:O (Y × α)}:D7o k (E v) r=(k,v)::r:=rfl
theorem D8r{env bx rows ks bs rs}:(St.mk env bx rows).kept ks bs rs=⟨A2v env ks,A2v bx bs,A2v rows rs⟩:=rfl
theorem D8q{P:Program}{k:O Fr}{Q:Xm→St→Prop}{σ:St}{its:O AItem}{ks bs rs:O Y}:go P (.ops ((G,.keep ks bs rs)::its)::k) Q .normal (E σ)=go P (.ops its::k) Q .normal (E (σ.kept ks bs rs)):=N5 rfl
theorem E45{b:W}{x y:AV}:B47 (.v (.sc (.dat (.bool b)))) x y=E (bif b then x else y):=rfl
theorem E9q{g x y:W}:B8x g (.v (.sc (.dat (.bool x)))) (.v (.sc (.dat (.bool y))))=E (.v (.sc (.dat (.bool (bif g then !(x==y) else x==y))))):=rfl
theorem F4l{m:W}{k:IntKind}{x y:V}:mmV m (.v (.sc (.dat (.int k x)))) (.v (.sc (.dat (.int k y))))=E (.v (.sc (.dat (.int k (bif m then(if x<y then y else x) else(if y<x then y else x)))))):=by simp[mmV]
theorem E4w{k:IntKind}{x:V}:unV .neg (.v (.sc (.dat (.int k x))))=E (.v (.sc (.dat (.int k (k.wrap (0 - x)))))):=rfl
theorem F2j{rs:Rows}{off id o:Y}:A1c rs off (.v (.sc (.pb id o)))=E (.v (.sc (.pb id (o+off)))):=rfl
theorem E1r{rs:Rows}{id:Y}:A9t rs (.v (.sc (.own id)))=(A3 rs id).map fun p=> .v (.sc (.dat (.int .i64 p.2.length))):=by
 show(match A3 rs id with | some (_,es)=>_ | none=>_)=_
 cases A3 rs id<;>rfl
theorem D7f{k:Y}:A5x k []= []:=rfl
theorem D22{k:Y}{d:DV}{ds:O DV}:A5x k (d::ds)=(k,d.av)::A5x (k+1) ds:=rfl
theorem E1h{ds:O DV}:St.init ds=⟨A5x 0 ds,[],[]⟩:=rfl
theorem E8w{d:D}:DV.av (.sc d)= .v (.sc (.dat d)):=rfl
theorem E99{ds:O D}:DV.av (.ag ds)= .v (.ag (ds.map .dat)):=rfl
theorem E5q{f:AC→AC}:A (V1.map f) []= []:=rfl
theorem D80{f:AC→AC}{x:V1}{l:O V1}:A (V1.map f) (x::l)=x.map f::A (V1.map f) l:=rfl
theorem D6h{f:AC→AC}:A (fun p:Y × AV=>(p.1,p.2.map f)) []= []:=rfl
theorem D2g{f:AC→AC}{k:Y}{v:AV}{l:O (Y × AV)}:A (fun p:Y × AV=>(p.1,p.2.map f)) ((k,v)::l)=(k,v.map f)::A (fun p:Y × AV=>(p.1,p.2.map f)) l:=rfl
theorem D4k{f:AC→AC}:A (fun p:Y × O AC=>(p.1,p.2.map f)) []= []:=rfl
theorem D28{f:AC→AC}{k:Y}{v:O AC}{l:O (Y × O AC)}:A (fun p:Y × O AC=>(p.1,p.2.map f)) ((k,v)::l)=(k,v.map f)::A (fun p:Y × O AC=>(p.1,p.2.map f)) l:=rfl
theorem D6f{f:AC→AC}:A f ([]:O AC)= []:=rfl
theorem D3c{f:AC→AC}{c:AC}{l:O AC}:A f (c::l)=f c::A f l:=rfl
theorem D4c{α β:Type}{f:α→β}{l:O α}:(A f l).length=l.length:=List.length_map ..
theorem D1e{c:AC}:V1.cells (.sc c)= [c]:=rfl
theorem D21{cs:O AC}:V1.cells (.ag cs)=cs:=rfl
theorem E9c{f:AC→AC}{env bx rows}:(St.mk env bx rows).map f=⟨env.map fun p=>(p.1,p.2.map f),bx.map fun p=>(p.1,p.2.map f),rows⟩:=rfl
theorem D6m{f:AC→AC}{c:AC}:AV.map f (.v (.sc c))= .v (.sc (f c)):=rfl
theorem D6k{f:AC→AC}{cs:O AC}:AV.map f (.v (.ag cs))= .v (.ag (cs.map f)):=rfl
theorem E1m{f:AC→AC}:AV.map f .undef= .undef:=rfl
theorem E2a{f:AC→AC}:AV.map f .no= .no:=rfl
theorem E1n{f:AC→AC}{l:O V1}:AV.map f (.tup l)= .tup (l.map (V1.map f)):=rfl
theorem D6a{f:AC→AC}{c:AC}:V1.map f (.sc c)= .sc (f c):=rfl
theorem D65{f:AC→AC}{cs:O AC}:V1.map f (.ag cs)= .ag (cs.map f):=rfl
theorem E5f{id:Y}{d:D}:AC.kill id (.dat d)= .dat d:=rfl
theorem E2y{id:Y}:AC.kill id .nil= .nil:=rfl
theorem E53{id:Y}:AC.kill id .undef= .undef:=rfl
theorem E5l{id i:Y}:AC.kill id (.own i)=bif i==id then .undef else .own i:=rfl
theorem E3r{id i a b:Y}:AC.kill id (.osub i a b)=bif i==id then .undef else .osub i a b:=rfl
theorem E5i{id i a b:Y}:AC.kill id (.pe i a b)=bif i==id then .undef else .pe i a b:=rfl
theorem E3p{id i a:Y}:AC.kill id (.pb i a)= .pb i a:=rfl
theorem E3c{id f:Y}{is:O Y}:AC.kill id (.clo f is)= .clo f is:=rfl
theorem E7f{id:Y}{es:O (O D)}{d:D}:AC.frz id es (.dat d)= .dat d:=rfl
theorem E7l{id:Y}{es:O (O D)}:AC.frz id es .nil= .nil:=rfl
theorem E7c{id:Y}{es:O (O D)}:AC.frz id es .undef= .undef:=rfl
theorem F1j{id i:Y}{es:O (O D)}:AC.frz id es (.own i)=bif i==id then .dat (.sl es) else .own i:=rfl
theorem F1c{id i a b:Y}{es:O (O D)}:AC.frz id es (.osub i a b)=bif i==id then .undef else .osub i a b:=rfl
theorem E6r{id i a b:Y}{es:O (O D)}:AC.frz id es (.pe i a b)=bif i==id then .undef else .pe i a b:=rfl
theorem E8d{id i a:Y}{es:O (O D)}:AC.frz id es (.pb i a)= .pb i a:=rfl
theorem F2n{id f:Y}{es:O (O D)}{is:O Y}:AC.frz id es (.clo f is)= .clo f is:=rfl
theorem V0{P:Program}{k:O Fr}{Q:Xm→St→Prop}{σ:St}{its:O AItem}{id sz:Y}{es:O (O D)}(hf:A3 σ.rows id=E (sz,es))(H:go P (.ops its::k) Q .normal (E {(σ.map (AC.frz id es)) with rows:=erase σ.rows [id] }))(h0:(id / 99999999999==0)=T:=by rfl) :
  go P (.ops ((G,.frz id)::its)::k) Q .normal (E σ):=by
 rw[E56]
 simp only[St.step,hf,h0,Bool.not_true,Bool.false_eq_true,if_false]
 exact H
theorem A3s{P:Program}{k:O Fr}{Q:Xm→St→Prop}{σ:St}{its:O AItem}{b j id sz:Y}{cs cs':O AC}(h1:σ.has id=F)(h2:A3 σ.bx b=E cs)(h3:cs[j]?=E .nil)(h4:cs.set j (.own id)=cs')
  (H:go P (.ops its::k) Q .normal (E {σ with bx:=put σ.bx b cs',rows:=put σ.rows id (sz,[]) })) (h0:(id / 99999999999==0)=T:=by rfl):go P (.ops ((G,.ownb b j id sz)::its)::k) Q .normal (E σ):=by
 rw[D9k]
 subst h4
 simp only[St.step,h1,h2,h3,h0,Bool.not_true,Bool.or_self,Bool.false_eq_true,if_false]
 exact H
theorem D2l{α:Type}{ks:O Y}:erase ([]:O (Y × α)) ks= []:=rfl
theorem D1i{α:Type}{k n:Y}{v:α}{r:O (Y × α)}:erase ((k,v)::r) [n]=bif k==n then erase r [n] else(k,v)::erase r [n]:=by
 by_cases h:k=n
 ·simp[erase,h]
 ·have h':(k==n)=F:=by simpa using h
  simp[erase,h,h']
theorem E06{ts:O RV}{rs:O R1}{σ:St}:Ret ts rs .ret σ=(OutVs σ ts rs∧A6e (A16 σ ts rs)=T):=rfl
theorem D61{ts:O RV}{rs:O R1}{σ:St}:Ret ts rs .normal σ=(OutVs σ ts rs∧A6e (A16 σ ts rs)=T):=rfl
theorem C9c{σ:St}{t:RV}{ts:O RV}{r:R1}{rs:O R1}:OutVs σ (t::ts) (r::rs)=(C8n σ.rows (B1k σ t) r∧OutVs σ ts rs):=rfl
theorem C41{σ:St}{t:RV}{ts:O RV}{r:R1}{rs:O R1}:A16 σ (t::ts) (r::rs)=C35 (B1k σ t) r++A16 σ ts rs:=rfl
theorem D5c{σ:St}{a n:Y}{g:W}:B1k σ (.c a g n)=(A3t σ g n (σ.get a)).getD .undef:=rfl
def M1:=Z @E06 (Z @D61 (Z @C9c (Z @C41 @D5c)))
set_option maxRecDepth 4000 in
def E48:=Z @E03 (Z @E4o (Z @E1d (Z @E5d (Z @E3o (Z @F1y (Z @E3f (Z @D6c (Z @E07 (Z @E4n (Z @E1c (Z @D41 (Z @D6r (Z @C3r (Z @C50 (Z @E3y (Z @C82 (Z @C8o (Z @C6j (Z @C00 (Z @D3o (Z @D2w (Z @D2q (Z @D1r (Z @D3p (Z @D7i (Z @D3n (Z @D85 (Z @D5n (Z @F0z (Z @F1z (Z @E5m (Z @E5e (Z @getD_some (Z @D2b (Z @map_some (Z @map_none (Z @D6e (Z @E40 (Z @D45 (Z @D2o (Z @D94 (Z @D6t (Z @E01 (Z @E14 (Z @D86 (Z @D90 (Z @D8m (Z @D9t (Z @E0b (Z @D89 (Z @E05 (Z @D9c (Z @E0n (Z @E1q (Z @E15 (Z @E2k (Z @E1l (Z @E4f (Z @E1w (Z @E6b (Z @D5r (Z @E0a (Z @F0f (Z @E60 (Z @F03 (Z @D67 (Z @D8z (Z @D9n (Z @E3i (Z @E2r (Z @F05 (Z @D9l (Z @E3u (Z @D8w (Z @D6u (Z @D30 (Z @D42 (Z @E6a (Z @E11 (Z @E54 (Z @D6n (Z @E0o (Z @E6f (Z @E4x (Z @D5u (Z @E3b (Z @C6h (Z @E1s (Z @C6f (Z @C6i (Z @C4i (Z @C1a (Z @D4b (Z @D4t (Z @E36 (Z @E38 (Z @E0i (Z @E0y (Z @C1d (Z @B9b (Z @C59 (Z @C6d (Z @C5o (Z @D3t (Z @D5f (Z @C08 (Z @C5j (Z @C5v (Z @D0g (Z @C5q (Z @E0k (Z @D4z (Z @D6j (Z @D52 (Z @F04 (Z @E0f (Z @D34 (Z @E16 (Z @D9z (Z @E5k (Z @E4q (Z @F2r (Z @D8l (Z @E3v (Z @E10 (Z @D36 (Z @D62 (Z @D5k (Z @D4j (Z @E3d (Z @E04 (Z @E3a (Z @D5j (Z @E1o (Z @E9t (Z @E3j (Z @E55 (Z @D37 (Z @D29 (Z @D9j (Z @F1t (Z @E1t (Z @D3v (Z @D97 (Z @E1b (Z @E41 (Z @E4a (Z @E91 (Z @E02 (Z @E4c (Z @E0v (Z @D6v (Z @D4q (Z @D59 (Z @D5g (Z @E3z (Z @E0h (Z @E5y (Z @D5e (Z @E0e (Z @E7k (Z @E3s (Z @D3x (Z @D6d (Z @E7e (Z @F2k (Z @E7w (Z @E2l (Z @D5m (Z @D3q (Z @D50 (Z @E0q (Z @D92 (Z @D2t (Z @D3w (Z @E32 (Z @E2s (Z @E4v (Z @F21 (Z @E81 (Z @E22 (Z @E7o (Z @C7p (Z @D1g (Z @E4p (Z @E3q (Z @E4h (Z @E5r (Z @D4a (Z @D1u (Z @D6w (Z @D5s (Z @E08 (Z @E19 (Z @E6c (Z @D4y (Z @E0s (Z @D4m (Z @D25 (Z @D1c (Z @D18 (Z @D1h (Z @D9e (Z @D7a (Z @D8v (Z @D12 (Z @D47 (Z @E3l (Z @E1a (Z @E0t (Z @D3m (Z @C73 (Z @D5v (Z @D31 (Z @D2v (Z @C62 (Z @B95 (Z @C0b (Z @C0u (Z @C3l (Z @C4u (Z @C6o (Z @B90 (Z @C4a (Z @C0f (Z @B7p (Z @B8v (Z @B77 (Z @C4v (Z @C0s (Z @C4m (Z @B72 (Z @C0r (Z @C6z (Z @C3t (Z @D1q (Z @C7r (Z @C8w (Z @D8r (Z @D8q (Z @E45 (Z @E9q (Z @F4l (Z @E4w (Z @F2j (Z @E1r (Z @D7f (Z @D22 (Z @E1h (Z @E8w (Z @E99 (Z @D4c (Z @D1e (Z @D21 (Z @E9c (Z @D6m (Z @D6k (Z @E1m (Z @E1n (Z @D6a (Z @D65 (Z @E5f (Z @E2y (Z @E53 (Z @E5l (Z @E3r (Z @E5i (Z @E3p (Z @E3c (Z @E7f (Z @E7l (Z @E7c (Z @F1j (Z @F1c (Z @E6r (Z @E8d (Z @F2n (Z @D2l (Z @D1i (Z @D95 (Z @D8p (Z @E1j (Z @E0p (Z @E09 (Z @D8t (Z @D9o (Z @D9q (Z @E2b (Z @D6q (Z @D20 (Z @D3h (Z @A5z (Z @D0x (Z @get_map (Z @D56 (Z @D4d (Z @E2f (Z @D5a (Z @D6i (Z @D13 (Z @E2g (Z @D9d (Z @E0u (Z @E82 (Z @E7h (Z @D5p (Z @E17 (Z @D8n (Z @D3y (Z @D3b (Z @E0r (Z @D33 (Z @E0j (Z @D5b (Z @E58 (Z @E20 (Z @E2u (Z @D58 (Z @C75 (Z @E12 (Z @D9i (Z @E1x (Z @D9m (Z @D9g (Z @E1e (Z @D83 (Z @E51 (Z @E4t (Z @E2v (Z @E5t (Z @E7i (Z @E3w (Z @E1g (Z @E0g (Z @E2z (Z @E1y (Z @E42 (Z @E5v (Z @E3x (Z @D9r (Z @E46 (Z @B8q (Z @D7l (Z @C0h (Z @E6o (Z @F12 (Z @F0r (Z @E8b (Z @E5q (Z @D80 (Z @D6h (Z @D2g (Z @D4k (Z @D28 (Z @D6f (Z @D3c (Z @E6h (Z @D1l @E2a))))))))))))))))))))))))))))))))))))))))))))))))))))))))))))))))))))))))))))))))))))))))))))))))))))))))))))))))))))))))))))))))))))))))))))))))))))))))))))))))))))))))))))))))))))))))))))))))))))))))))))))))))))))))))))))))))))))))))))))))))))))))))))))))))))))))))))))))))))))))))))))))))))))))))))))))))))))))))))))))))))))))))))))))))))))))))))))))))))))
theorem D55{env:O (Y × AV)}{bx:O (Y × O AC)}{rows:Rows}{d:Y}{ids:O Y}{R1:H5}{r:D}:St.instX ⟨env,bx,rows⟩ d ids R1 r=⟨put env d (.v (.sc (.dat r))),bx,A53 rows ids R1⟩:=rfl
theorem D10{rs:Rows}{id:Y}{ids:O Y}{r:Y × O (O D)}{R:H5}:A53 rs (id::ids) (r::R)=A53 (put rs id r) ids R:=rfl
theorem D43{rs:Rows}:A53 rs [] []=rs:=rfl
theorem E4z{N:O Y}:AV.avoids N (.v (.sc .z))=T:=by simp[AV.avoids,AV.cells,V1.cells,AC.avoids,AC.uses]
theorem F3v{P:Program}{k:O Fr}{Q:Xm→St→Prop}{σ:St}{N:O Y}{d:Y}{its:O N6}:go P (.dops ((E N,G,.zsl d)::its)::k) Q .normal (E σ)=go P (.dops its::k) Q .normal (E (σ.set d (.v (.sc .z)))):=by
 rw[L1 rfl]
 show go P _ Q .normal (bif (((σ.less N).set d (.v (.sc .z))).get d).avoids N then E (σ.set d (((σ.less N).set d (.v (.sc .z))).get d)) else G)=_
 rw[St.get_set_same,E4z]
 rfl
theorem E0m{N:O Y}:AV.avoids N (.tup [])=T:=rfl
theorem E23{N:O Y}{x:V1}{l:O V1}:AV.avoids N (.tup (x::l))=((AV.v x).avoids N&&(AV.tup l).avoids N):=by simp[AV.avoids,AV.cells]
theorem E3t{t:TypeId}{d:D}:B0y t (.v (.sc (.dat d)))=E (.v (.sc (.dat (.ifc t d)))):=rfl
theorem E25{t u:TypeId}{zc:AC}{d:D}:B4y t zc (.v (.sc (.dat (.ifc u d))))=bif u==t then E (.tup [.sc (.dat d),.sc (.dat (.bool T))]) else E (.tup [.sc zc,.sc (.dat (.bool F))]):=rfl
theorem E4m{id:Y}{ds:O D}{d:D}:AC.frzb id ds (.dat d)= .dat d:=rfl
theorem E2w{id:Y}{ds:O D}:AC.frzb id ds .nil= .nil:=rfl
theorem E44{id:Y}{ds:O D}:AC.frzb id ds .undef= .undef:=rfl
theorem E47{id i:Y}{ds:O D}:AC.frzb id ds (.own i)= .own i:=rfl
theorem E26{id i a b:Y}{ds:O D}:AC.frzb id ds (.osub i a b)= .osub i a b:=rfl
theorem E28{id i a b:Y}{ds:O D}:AC.frzb id ds (.pe i a b)= .pe i a b:=rfl
theorem E50{id i a:Y}{ds:O D}:AC.frzb id ds (.pb i a)=bif i==id then .dat (.pd (ds.drop a)) else .pb i a:=rfl
theorem E9p{a b:Y}{d:D}:AC.ren a b (.dat d)= .dat d:=rfl
theorem E9g{a b:Y}:AC.ren a b .nil= .nil:=rfl
theorem F0x{a b:Y}:AC.ren a b .undef= .undef:=rfl
theorem F20{a b i:Y}:AC.ren a b (.own i)= .own (bif i==a then b else i):=rfl
theorem F2g{a b i x y:Y}:AC.ren a b (.osub i x y)= .osub (bif i==a then b else i) x y:=rfl
theorem F19{a b i x y:Y}:AC.ren a b (.pe i x y)= .pe (bif i==a then b else i) x y:=rfl
theorem F0p{a b i x:Y}:AC.ren a b (.pb i x)= .pb i x:=rfl
theorem E18{t:TypeId}{a b:D}:B0y t (.v (.ag [.dat a,.dat b]))=E (.v (.sc (.dat (.ifs t [a,b])))):=rfl
def FCq(P:Program)(f:FuncId)(ds:O DV)(rs:O R1):U D→Prop
 | none=>FC P f ds rs
 | some d=>FCp P f ds d
theorem FCq.none{P:Program}{f:FuncId}{ds:O DV}{rs:O R1}{pd:U D}(h:FCq P f ds rs pd)(hp:pd=G):FC P f ds rs:=by subst hp; exact h
theorem FCq.some{P:Program}{f:FuncId}{ds:O DV}{rs:O R1}{pd:U D}{d:D}(h:FCq P f ds rs pd)(hp:pd=E d):FCp P f ds d:=by subst hp; exact h
theorem E5b{t:TypeId}{id:Y}:B0y t (.v (.sc (.pb id 0)))=E (.v (.sc (.ipb t id))):=rfl
theorem E4r{id i:Y}{t:TypeId}:AC.kill id (.ipb t i)= .ipb t i:=rfl
theorem E7s{id i:Y}{t:TypeId}{es:O (O D)}:AC.frz id es (.ipb t i)= .ipb t i:=rfl
theorem E2m{g:W}{ks:O FK}{cs ds:O AC}:B9k g ks (.v (.ag cs)) (.v (.ag ds))=(A0r ks cs ds).map fun b=> .v (.sc (.dat (.bool (bif g then !b else b)))):=rfl
theorem E9i:A0r [] [] []=E T:=rfl
theorem E95{k:IntKind}{x y:V}{ks:O FK}{cs ds:O AC}:A0r (.i::ks) (.dat (.int k x)::cs) (.dat (.int k y)::ds)=(A0r ks cs ds).map fun b=>(x==y)&&b:=if_pos rfl
theorem F0a{x y:W}{ks:O FK}{cs ds:O AC}:A0r (.b::ks) (.dat (.bool x)::cs) (.dat (.bool y)::ds)=(A0r ks cs ds).map fun b=>(x==y)&&b:=rfl
theorem F2y{x y:O UInt8}{ks:O FK}{cs ds:O AC}:A0r (.s::ks) (.dat (.str x)::cs) (.dat (.str y)::ds)=(A0r ks cs ds).map fun b=>(x==y)&&b:=rfl
def E5h:=Z @E4z (Z @F3v (Z @E0m (Z @E23 (Z @D55 (Z @D10 (Z @D43 (Z @D9b (Z @E1z (Z @B92 (Z @C0c (Z @D8i (Z @E00 (Z @D60 (Z @E1v (Z @E2c (Z @D53 (Z @E3t (Z @E25 (Z @E4m (Z @E2w (Z @E44 (Z @E47 (Z @E26 (Z @E28 (Z @E50 (Z @E5b (Z @E4r (Z @E7s (Z @E9p (Z @E9g (Z @F0x (Z @F20 (Z @F2g (Z @F19 (Z @F0p (Z @E2o (Z @E3g (Z @C5u (Z @C84 (Z @E18 (Z @C3z (Z @E29 (Z @E2n (Z @E3k (Z @D9w (Z @E2m (Z @E9i (Z @E95 (Z @F0a @F2y)))))))))))))))))))))))))))))))))))))))))))))))))
end Go.Vi
