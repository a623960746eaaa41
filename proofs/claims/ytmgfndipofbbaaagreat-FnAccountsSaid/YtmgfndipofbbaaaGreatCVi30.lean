/-
The value level. No condition.
-/
import Derived.Test.YtmgfndipofbbaaaGreatCVi28
namespace Go.Vi
set_option linter.all false
open And renaming intro → Z
open List renaming map → A, mem_singleton → B, replicate → I
open Nat renaming one_pos → zA
open Bool renaming and_self → zB, true → T, false → F
open Option renaming some → E, none → G
open _root_ renaming List → O, Option → U, Int → V, Bool → W, Nat → Y
abbrev S(n:Y):Opd:= .t n
abbrev K(n:V):Opd:= .c (.v (.sc (.dat (.int .i64 n))))
abbrev K8(n:V):Opd:= .c (.v (.sc (.dat (.int .u8 n))))
abbrev KB(b:W):Opd:= .c (.v (.sc (.dat (.bool b))))
abbrev KS(s:O UInt8):Opd:= .c (.v (.sc (.dat (.str s))))
abbrev KN:Opd:= .c (.v (.sc .nil))
abbrev aI(n:V):AC:= .dat (.int .i64 n)
abbrev a8(n:V):AC:= .dat (.int .u8 n)
abbrev aB(b:W):AC:= .dat (.bool b)
abbrev aS(s:O UInt8):AC:= .dat (.str s)
abbrev aL(es:O (O D)):AC:= .dat (.sl es)
abbrev vc(c:AC):AV:= .v (.sc c)
abbrev va(cs:O AC):AV:= .v (.ag cs)
def rI(n:V):O D:= [.int .i64 n]
def r8(n:V):O D:= [.int .u8 n]
def rB(b:W):O D:= [.bool b]
def rS(s:O UInt8):O D:= [.str s]
def rL{α:Type}(row:α→O D)(xs:O α):O D:= [.sl (xs.map row)]
class Row {α:Type} (row:α→O D) (sz:Y):Prop where
 len:∀x,(row x).length=sz
 pos:0<sz
instance:Row rI 1:=⟨fun _=>rfl,zA⟩
instance:Row r8 1:=⟨fun _=>rfl,zA⟩
instance:Row rB 1:=⟨fun _=>rfl,zA⟩
instance:Row rS 1:=⟨fun _=>rfl,zA⟩
instance {α:Type} (row:α→O D):Row (rL row) 1:=⟨fun _=>rfl,zA⟩
theorem D9w(n:V):rI n= [.int .i64 n]:=rfl
def C4z(n:V):UInt8:=UInt8.ofNat n.toNat
theorem C09:∀{xs:O V},A2l (A r8 xs)=E (A C4z xs)
 | []=>rfl
 | n::xs=>by
  show(A2l (A r8 xs)).map _=_
  rw[C09]
  rfl
theorem E8z(n:V):r8 n= [.int .u8 n]:=rfl
theorem E9v(b:W):rB b= [.bool b]:=rfl
theorem F1e(s:O UInt8):rS s= [.str s]:=rfl
theorem F0i{α:Type}(row:α→O D)(xs:O α):rL row xs= [.sl (xs.map row)]:=rfl
theorem C78{α:Type}{row:α→O D}{sz:Y}(h:∀x,(row x).length=sz)(xs:O α):(xs.map row).all (fun d=>d.length==sz)=T:=by
 simp[List.all_map,Function.comp_def,h]
@[irreducible] def bigN:Y:=1208925819614629174706176
def bnd(m h l:V)(n:Y):U (Y × Y):=if 0≤l∧l≤h∧h≤m∧m≤n then E (l.toNat,h.toNat) else G
def mkS(l c:V)(bytes:Y):U Y:=if 0≤l∧l≤c∧c*bytes≤140737488355328∧c≤4611686018427387904 then E l.toNat else G
def C5(n m bytes:Y):W:=decide ((n+m)*bytes≤140737488355328∧n+m≤4611686018427387904)
def B68(n m:Y):W:=decide (n+m≤4611686018427387904)
theorem B70{α β:Type}{f:α→β}{l:O α}{i:V}:ix (l.map f) i=(ix l i).map f:=by
 unfold ix
 split<;>simp
theorem H5{α:Type}{l:O α}{i:V}{x:α}(h:ix l i=E x):l[i.toNat]?=E x:=by
 unfold ix at h
 split at h
 ·exact h
 ·cases h
theorem ob{α β:Type}{o:U α}{f:α→U β}{r:β}(h:o.bind f=E r):∃a,o=E a∧f a=E r:=Option.bind_eq_some_iff.1 h
class FlatRow {α:Type} (row:α→O D):Prop where
 flat:∀x,∀d∈row x,d.flat=T
instance:FlatRow rI:=⟨fun _ d h=>by rw[B.1 h]; rfl⟩
instance:FlatRow r8:=⟨fun _ d h=>by rw[B.1 h]; rfl⟩
instance:FlatRow rB:=⟨fun _ d h=>by rw[B.1 h]; rfl⟩
instance:FlatRow rS:=⟨fun _ d h=>by rw[B.1 h]; rfl⟩
def D9b:O RC→Prop
 | []=>True
 | c::cs=>c.flat∧D9b cs
theorem A5n{rs:O R1}{cs:O RC}(h:rs.flatMap R1.cells=cs)(hf:D9b cs):A3u rs:=by
 subst h
 unfold A3u
 generalize rs.flatMap R1.cells=l at hf
 induction l with
 | nil=>intro c hc; simp at hc
 | cons a l ih=>
  intro c hc
  rcases List.mem_cons.1 hc with rfl|hc
  ·exact hf.1
  ·exact ih hf.2 c hc
theorem A39{α:Type}{row:α→O D} [FlatRow row]{sz:Y}{xs:O α}:RC.flat (.o sz (A row xs)):=by
 intro r hr
 obtain⟨x,_,rfl⟩:=List.mem_map.1 hr
 exact FlatRow.flat x
theorem A69{α:Type}{row:α→O D}{z:α}{zs:O D}{n:Y}(h:row z=zs):I n zs=A row (I n z):=by rw[List.map_replicate,h]
theorem D4{α:Type}{b:W}{x:U α}{r:α}(h:(if b=T then x else G)=E r):b=T∧x=E r:=by
 cases b
 ·rw[if_neg Bool.false_ne_true] at h; cases h
 ·exact⟨rfl,by simpa using h⟩
theorem Y6{α:Type}{b:W}{x:U α}{r:α}(h:(if b=T then G else x)=E r):b=F∧x=E r:=by
 cases b
 ·exact⟨rfl,by simpa using h⟩
 ·rw[if_pos rfl] at h; cases h
theorem ic{α:Type}{b:W}{x y:U α}{r:α}(h:(if b=T then x else y)=E r):(b=T∧x=E r)∨(b=F∧y=E r):=by
 cases b with
 | true=>exact .inl ⟨rfl,h⟩
 | false=>exact .inr ⟨rfl,h⟩
section
variable {P : Program} {k : O Fr} {Q : Xn → St → Prop} {σ : St} {its : O AItem} {ds : O O0} {o : AOp} {d : Y}
theorem B5{c:X3}(h:go P (.code c:: .code (.loop c)::k) Q .normal (E σ)):go P (.code (.loop c)::k) Q .normal (E σ):=by
 intro X hX
 refine hX σ (C5l c (fun e σ' h=> ?_) h)
 cases e with
 | normal=>exact h X hX
 | exit id=>exact h
 | ret=>exact h
 | pan d=>exact h
theorem E96(hm:P.follows .mixedOrders=T){f:FuncId}{c:X3}{ts:O RV}{nt:Y}{ds:O DV}{rs:O R1}{σ:St}(he:A6 P f=E (c.strip,ts,nt))(hl:Nat.ble ds.length nt=T)(hσ:St.init ds=σ)
  (h:go P [.code c] (Ret ts rs) .normal (E σ)):FC P f ds rs:=F3v hm he (Nat.le_of_ble_eq_true hl) fun _=>B0f (hσ▸h)
theorem C9(hm:P.follows .mixedOrders=T){f:FuncId}{c:X3}{ts:O RV}{nt:Y}{ds:O DV}{rs:O R1}(he:A6 P f=E (c.strip,ts,nt))(hl:Nat.ble ds.length nt=T)
  (h:go P [.code c] (Ret ts rs) .normal (E (St.init ds))):FC P f ds rs:=E96 hm he hl rfl h
theorem B0x{sz:Y}{es:O (O D)}(hf:σ.fresh d=T):σ.make (.row d sz es)=E {(σ.set d (.v (.sc (.own (d*64))))) with rows:=put σ.rows (d*64) (sz,es)}:=by simp[St.make,hf]
theorem A76{cs:O AC}(hf:σ.fresh d=T)(hu:cs.all (fun c=> !c.uses d)=T):σ.make (.box d cs)=E {(σ.set d (.v (.sc (.pb d 0)))) with bx:=put σ.bx d cs}:=by simp only[St.make,hf,hu,zB,if_true]
theorem C2x{m:Mk}(ho:o.isMade=T)(hm:σ.made o=E m){σ':St}(hs:σ.make m=E σ')(H:go P (.ops its::k) Q .normal (E σ')):go P (.ops ((G,o)::its)::k) Q .normal (E σ):=by
 have hc:o.isCall=F:=by cases o<;>first | rfl | (simp[AOp.isMade] at ho; done)
 rw[N9 hc,E2g ho,hm]
 show go P (.ops its::k) Q .normal (σ.make m)
 rw[hs]
 exact H
theorem B3{X:Opd}{y:V1}(hX:σ.val X= .v y)(hf:σ.fresh d=T)(hu:y.cells.all (fun c=> !c.uses d)=T)(H:go P (.ops its::k) Q .normal (E {(σ.set d (.v (.sc (.pb d 0)))) with bx:=put σ.bx d y.cells })) :
  go P (.ops ((G,.box d X)::its)::k) Q .normal (E σ):=C2x rfl (by simp only[St.made,hX]) (A76 hf hu) H
theorem D1{cs:O AC}(hf:σ.fresh d=T)(hu:cs.all (fun c=> !c.uses d)=T)(H:go P (.ops its::k) Q .normal (E {(σ.set d (.v (.sc (.pb d 0)))) with bx:=put σ.bx d cs })) :
  go P (.ops ((G,.alloc d cs)::its)::k) Q .normal (E σ):=C2x rfl rfl (A76 hf hu) H
theorem D3{sz:Y}{zs:O D}{len:Y}{ps:O (Y × Opd)}{es:O (O D)}(hm:σ.made (.bslice d sz zs len ps)=E (.row d sz es))(hf:σ.fresh d=T)
  (H:go P (.ops its::k) Q .normal (E {(σ.set d (.v (.sc (.own (d*64))))) with rows:=put σ.rows (d*64) (sz,es) })):go P (.ops ((G,.bslice d sz zs len ps)::its)::k) Q .normal (E σ):=C2x rfl hm (B0x hf) H
theorem B6m{L C:Opd}{l c:V}{bytes n sz:Y}{zs:O D}{es:O (O D)}(hl:asI (σ.val L)=E l)(hc:asI (σ.val C)=E c)(hb:mkS l c bytes=E n)(hz:zs.length=sz)(he:I n zs=es) :
  σ.made (.mksl d sz bytes zs L C)=E (.row d sz es):=by
 unfold mkS at hb
 split at hb
 ·rename_i h
  cases hb
  subst he
  simp only[St.made,hl,hc]
  rw[if_pos ⟨h.1,h.2.1,h.2.2.1,h.2.2.2,hz⟩]
 ·cases hb
theorem B13{L C:Opd}{l c:V}{bytes n sz:Y}{zs:O D}{es:O (O D)}(hl:asI (σ.val L)=E l)(hc:asI (σ.val C)=E c)(hb:mkS l c bytes=E n)(hz:zs.length=sz)(he:I n zs=es)(hf:σ.fresh d=T)
  (H:go P (.ops its::k) Q .normal (E {(σ.set d (.v (.sc (.own (d*64))))) with rows:=put σ.rows (d*64) (sz,es) })):go P (.ops ((G,.mksl d sz bytes zs L C)::its)::k) Q .normal (E σ):=
 C2x rfl (B6m hl hc hb hz he) (B0x hf) H
theorem B0p{n:Y}{N:O Y}{m:Mk}(hm:(σ.less (n::N)).made o=E m)(hv:E6q (n::N) m=T){σ':St}(hs:σ.make m=E σ')(H:go P (.dops ds::k) Q .normal (E σ')) :
  go P (.dops ((E (n::N),G,o)::ds)::k) Q .normal (E σ):=D5j hm hv hs H
theorem A3e{α:Type}{env bx rows}{id sz i off n:Y}{xs:O α}{row:α→O D}{x y:α}{yv:V1}{dd:O D}(hd:yv.toDs=E dd)(hf:A4 rows id=E (sz,A row xs))
  (hx:xs[i]?=E x) (hn:dd.length=n) (ho:Nat.ble (off+n) (row x).length=T) (hy:B24 (row x) off dd=row y) (H:go P k Q .normal (E ⟨env,bx,put rows id (sz,A row (xs.set i y))⟩)) :
  go P k Q .normal (St.storeV ⟨env,bx,rows⟩ n (.v (.sc (.pe id i off))) (.v yv)):=by
 have e:St.storeV ⟨env,bx,rows⟩ n (.v (.sc (.pe id i off))) (.v yv)=E ⟨env,bx,put rows id (sz,A row (xs.set i y))⟩:=by
  simp only[St.storeV,hf,List.getElem?_map,hx,Option.map_some,hd]
  rw[if_pos ⟨hn,Nat.le_of_ble_eq_true ho⟩,hy,List.map_set]
 rw[e]
 exact H
end
def A63{α:Type}:Y→O α→U (O α)
 | 0,l=>E l
 | _+1,[]=>G
 | n+1,_::l=>A63 n l
def A9s{α:Type}:Y→O α→U (O α)
 | 0,_=>E []
 | _+1,[]=>G
 | n+1,c::l=>(A9s n l).map (c:: ·)
def A64{α:Type}:O α→Y→W
 | [],0=>T
 | _::l,n+1=>A64 l n
 | _,_=>F
def A1u{α:Type}:O α→Y→W
 | _,0=>T
 | _::l,n+1=>A1u l n
 | [],_+1=>F
theorem B0s{α:Type}:∀(n:Y) (l:O α),A63 n l=if n≤l.length then E (l.drop n) else G
 | 0,l=>by simp[A63]
 | n+1,[]=>by simp[A63]
 | n+1,c::l=>by simp[A63,B0s n l]
theorem C5y{α:Type}:∀(n:Y) (l:O α),A9s n l=if n≤l.length then E (l.take n) else G
 | 0,l=>by simp[A9s]
 | n+1,[]=>by simp[A9s]
 | n+1,c::l=>by simp only[A9s,C5y n l]; split<;>simp_all
theorem B6p{α:Type}:∀(l:O α) (n:Y),A64 l n=decide (l.length=n)
 | [],0=>by simp[A64]
 | [],n+1=>by simp[A64]
 | _::l,0=>by simp[A64]
 | _::l,n+1=>by simp[A64,B6p l n]
theorem A91{α:Type}:∀(l:O α) (n:Y),A1u l n=decide (n≤l.length)
 | [],0=>by simp[A1u]
 | [],n+1=>by simp[A1u]
 | _::l,0=>by simp[A1u]
 | _::l,n+1=>by simp[A1u,A91 l n]
theorem E0e{α:Type}{l:O α}:A63 0 l=E l:=by cases l<;>rfl
theorem E2u{α:Type}{n:Y}{c:α}{l:O α}:A63 (n+1) (c::l)=A63 n l:=rfl
theorem E36{α:Type}{l:O α}:A9s 0 l=E []:=by cases l<;>rfl
theorem D93{α:Type}{n:Y}{c:α}{l:O α}:A9s (n+1) (c::l)=(A9s n l).map (c:: ·):=rfl
theorem E2q{α:Type}:A64 ([]:O α) 0=T:=rfl
theorem E2o{α:Type}{n:Y}{c:α}{l:O α}:A64 (c::l) (n+1)=A64 l n:=rfl
theorem E0s{α:Type}{l:O α}:A1u l 0=T:=by cases l<;>rfl
theorem E27{α:Type}{n:Y}{c:α}{l:O α}:A1u (c::l) (n+1)=A1u l n:=rfl
theorem E26{cs:O AC}{off n:Y}:A27 cs off T n=(A63 off cs).bind fun l=>(A9s n l).map fun l=> .v (.ag l):=by
 simp only[A27,cond_true,B0s,C5y]
 by_cases h:off≤cs.length
 ·rw[if_pos h]
  by_cases h2:off+n≤cs.length
  ·rw[if_pos h2,Option.bind_some,if_pos (by simp; omega)]; rfl
  ·rw[if_neg h2,Option.bind_some,if_neg (by simp; omega)]; rfl
 ·rw[if_neg h,if_neg (by omega)]; rfl
theorem D77{cs:O AC}:A22 cs 0 []=cs:=by simp[A22]
theorem D28{c:AC}{cs ds:O AC}{n:Y}:A22 (c::cs) (n+1) ds=c::A22 cs n ds:=by
 simp only[A22,List.take_succ_cons,List.cons_append]
 rw[show n+1+ds.length=(n+ds.length)+1 by omega,List.drop_succ_cons]
theorem D3n{c d:AC}{cs ds:O AC}:A22 (c::cs) 0 (d::ds)=d::A22 cs 0 ds:=by simp[A22]
theorem A6j{α β:Type}{a:α}{f:α→U β}:(E a).bind f=f a:=rfl
theorem D2d{α β:Type}{f:α→U β}:(G:U α).bind f=G:=rfl
theorem get_map{α β:Type}{f:α→β}{l:O α}{i:Y}:(A f l)[i]?=(l[i]?).map f:=List.getElem?_map
theorem D6h{α:Type}{a:α}{l:O α}:(a::l)[0]?=E a:=rfl
theorem D7p{α:Type}{a:α}{l:O α}{n:Y}:(a::l)[n+1]?=l[n]?:=by simp
theorem E1z:A AC.dat []= []:=rfl
theorem D5s{d:D}{l:O D}:A AC.dat (d::l)= .dat d::A AC.dat l:=rfl
section
variable {P : Program} {k : O Fr} {Q : Xn → St → Prop} {σ : St} {its : O AItem} {env : O (Y × AV)} {bx : O (Y × O AC)} {rows : Rows}
theorem D6q{α:Type}{rs:Rows}{sz:Y}{xs:O α}{row:α→O D} [Row row sz]{kd:IntKind}{i:V}:A3z rs sz (.v (.sc (.dat (.sl (A row xs))))) (.v (.sc (.dat (.int kd i))))=(ix xs i).map fun x=> .v (.sc (.dat (.pd (row x)))):=by
 simp only[A3z,B70]
 cases ix xs i with
 | none=>rfl
 | some x=>simp[Row.len (row:=row) (sz:=sz),Row.pos row]
theorem D4a{rs:Rows}{sz id:Y}{kd:IntKind}{i:V}:A3z rs sz (.v (.sc (.own id))) (.v (.sc (.dat (.int kd i))))=(A4 rs id).bind fun p=>(ix p.2 i).bind fun _=>bif p.1==sz then E (.v (.sc (.pe id i.toNat 0))) else G:=by
 simp only[A3z]
 cases A4 rs id with
 | none=>rfl
 | some p=>
  obtain⟨a,es⟩:=p
  simp only[A6j]
  cases ix es i with
  | none=>rfl
  | some x=>
   by_cases h:a=sz
   ·simp[h]
   ·have h':(a==sz)=F:=by simpa using h
    simp[h,h']
theorem E3u{g:W}{n id off:Y}:A4j ⟨env,bx,rows⟩ g n (.v (.sc (.pb id off)))=(A4 bx id).bind fun cs=>A27 cs off g n:=by
 show(match A4 bx id with | some cs=>_ | none=>G)=_
 cases A4 bx id<;>rfl
theorem E23{g:W}{n id i off:Y}:A4j ⟨env,bx,rows⟩ g n (.v (.sc (.pe id i off)))=(A4 rows id).bind fun p=>(p.2[i]?).bind fun d=>A27 (A AC.dat d) off g n:=by
 simp only[A4j]
 cases A4 rows id with
 | none=>rfl
 | some p=>
  simp only[A6j]
  cases p.2[i]?<;>rfl
theorem E32{g:W}{n:Y}{cs:O D}:A4j σ g n (.v (.sc (.dat (.pd cs))))=A27 (A AC.dat cs) 0 g n:=rfl
theorem F4p{rs:Rows}{off id i o:Y}:A1l rs off (.v (.sc (.pe id i o)))=(A4 rs id).map fun _=> .v (.sc (.pe id i (o+off))):=by
 simp only[A1l]
 cases A4 rs id<;>rfl
theorem F0l{rs:Rows}{off:Y}{cs:O D}:A1l rs off (.v (.sc (.dat (.pd cs))))=(A63 off cs).map fun cs=> .v (.sc (.dat (.pd cs))):=by
 simp only[A1l,B0s]
 split<;>rfl
theorem D5x{l:O V1}{i:Y}:B5s i (.tup l)=(l[i]?).map .v:=rfl
theorem E3e{id off:Y}:A9l (.v (.sc (.pb id off)))=E (.v (.sc (.pb id off))):=rfl
theorem E2l{cs:O D}:A9l (.v (.sc (.dat (.pd cs))))=E (.v (.sc (.dat (.pd cs)))):=rfl
theorem D5a:A (St.val σ) []= []:=rfl
theorem D25{x:Opd}{l:O Opd}:A (St.val σ) (x::l)=σ.val x::A (St.val σ) l:=rfl
theorem E22{f:FuncId}:B0k f []=E []:=rfl
theorem D8c{f:FuncId}{id:Y}{r:O AV}:B0k f (.v (.sc (.pb id 0))::r)=(B0k f r).map (id:: ·):=rfl
def D08(K:O AC→U (O AC))(off n:Y)(cs:O AC):AV→U (O AC)
 | .v x=>bif A64 x.cells n&&A1u cs (off+n) then K (A22 cs off x.cells) else G
 | _=>G
def B4a(σ:St):O (Y × Y × Opd)→O AC→U (O AC)
 | [],cs=>E cs
 | (off,n,x)::r,cs=>D08 (B4a σ r) off n cs (σ.val x)
theorem B9z:∀(ps:O (Y × Y × Opd)) (cs:O AC),A59 cs (ps.map fun p=>(p.1,p.2.1,σ.val p.2.2))=B4a σ ps cs
 | [],cs=>rfl
 | (off,n,x)::r,cs=>by
  simp only[List.map_cons,B4a]
  generalize σ.val x=v
  cases v with
  | v y=>
   simp only[A59,D08,B6p,A91]
   by_cases h1:y.cells.length=n
   ·by_cases h2:off+n≤cs.length
    ·subst h1
     simp only[h2,and_self,if_true,decide_true,zB,cond_true]
     exact B9z r _
    ·simp[h1,h2]
   ·simp[h1]
  | _=>rfl
theorem E2p{cs:O AC}:B4a σ [] cs=E cs:=rfl
theorem D7k{off n:Y}{x:Opd}{r:O (Y × Y × Opd)}{cs:O AC}:B4a σ ((off,n,x)::r) cs=D08 (B4a σ r) off n cs (σ.val x):=rfl
theorem E4w{K:O AC→U (O AC)}{off n:Y}{cs:O AC}{x:V1}:D08 K off n cs (.v x)=bif A64 x.cells n&&A1u cs (off+n) then K (A22 cs off x.cells) else G:=rfl
theorem E7v{d zs ps}:go P (.ops ((G,.build d zs ps)::its)::k) Q .normal (E σ)=go P (.ops its::k) Q .normal (I7 σ d ((B4a σ ps zs).map fun cs=> .v (.ag cs))):=by rw[D6g,B9z]
theorem E6n{d zs ps}:σ.step (.build d zs ps)=I7 σ d ((B4a σ ps zs).map fun cs=> .v (.ag cs)):=by rw[B9a,B9z]
theorem D55{n id off:Y}{y:V1}:St.storeV ⟨env,bx,rows⟩ n (.v (.sc (.pb id off))) (.v y)=(A4 bx id).bind fun cs=>bif A64 y.cells n&&A1u cs (off+n) then E ⟨env,put bx id (A22 cs off y.cells),rows⟩ else G:=by
 simp only[St.storeV,B6p,A91]
 cases A4 bx id with
 | none=>rfl
 | some cs=>
  simp only[A6j]
  by_cases h1:y.cells.length=n
  ·by_cases h2:off+n≤cs.length
   ·simp[h1,h2]
   ·simp[h1,h2]
  ·simp[h1]
def B75(sz:Y)(es:O (O D)):W:=es.all fun r=>r.length==sz
theorem C84{α:Type}{sz:Y}{row:α→O D} [Row row sz]{xs:O α}:B75 sz (A row xs)=T:=C78 (Row.len (row:=row)) xs
theorem E1u{d sz bytes id:Y}{y:AV}:St.appV ⟨env,bx,rows⟩ d sz bytes (.v (.sc (.own id))) y=bif id / 99999999999==0 then((A4 rows id).bind fun p=>(appSrc rows y).bind fun es'=>
  bif (p.1==sz)&&(B75 sz es'&&C5 p.2.length es'.length bytes) then E ⟨put (env.map fun p=>(p.1,p.2.map (AC.kill id))) d (.v (.sc (.own id))),bx.map fun p=>(p.1,p.2.map (AC.kill id)),put rows id (sz,p.2++es')⟩ else G) else G:=by
 simp only[St.appV]
 by_cases h0:id / 99999999999=0
 rotate_left
 ·rw[if_neg h0,show(id / 99999999999==0)=F by simpa using h0]
  rfl
 rw[if_pos h0,show(id / 99999999999==0)=T by simpa using h0,cond_true]
 cases A4 rows id with
 | none=>rfl
 | some p=>
  obtain⟨a,es⟩:=p
  simp only[A6j]
  cases appSrc rows y with
  | none=>rfl
  | some es'=>
   simp only[A6j]
   by_cases h1:a=sz
   ·by_cases h2:B75 sz es'=T
    ·by_cases h3:C5 es.length es'.length bytes=T
     ·have h3':=of_decide_eq_true h3
      rw[if_pos ⟨h1,h2,h3'.1,h3'.2⟩]
      simp only[h1,beq_self_eq_true,h2,h3,zB,cond_true]
      rfl
     ·have h3':C5 es.length es'.length bytes=F:=by simpa using h3
      rw[if_neg (fun h=>h3 (decide_eq_true ⟨h.2.2.1,h.2.2.2⟩))]
      simp[h3']
    ·have h2':B75 sz es'=F:=by simpa using h2
     rw[if_neg (fun h=>h2 h.2.1)]
     simp[h2']
   ·have h1':(a==sz)=F:=by simpa using h1
    rw[if_neg (fun h=>h1 h.1)]
    simp[h1']
theorem E2m{rs:Rows}{es:O (O D)}:appSrc rs (.v (.sc (.dat (.sl es))))=E es:=rfl
theorem E1v{rs:Rows}:appSrc rs (.v (.sc .nil))=E []:=rfl
theorem E1p{rs:Rows}{id:Y}:appSrc rs (.v (.sc (.own id)))=(A4 rs id).map fun p=>p.2:=by
 simp only[appSrc,toD0]
 cases A4 rs id<;>rfl
theorem E14{α:Type}{f:α→O D}{a b:O α}:A f a++A f b=A f (a++b):=List.map_append.symm
def B1q(σ:St)(n:Y):U Opd→U V
 | none=>E n
 | some x=>asI (σ.val x)
def B6o(n:Y):U V→U V→U V→U (Y × Y)
 | some m,E h,E l=>bnd m h l n
 | _,_,_=>G
theorem C0h{lo hi mx:U Opd}{n:Y}:A97 σ lo hi mx n=B6o n (B1q σ n mx) (B1q σ n hi) (match lo with | none=>E 0 | some x=>asI (σ.val x)):=by
 cases mx<;>cases hi<;>cases lo<;>(simp only[A97,B6o,B1q]; first | rfl | (split<;>simp_all[B6o,bnd]))
def C5a(σ:St):U Opd→U V
 | none=>E 0
 | some x=>asI (σ.val x)
theorem E03{α:Type}{sz:Y}{lo hi mx:U Opd}{xs:O α}{row:α→O D} [Row row sz]:A98 σ sz (.v (.sc (.dat (.sl (A row xs))))) lo hi mx=(B6o xs.length (B1q σ xs.length mx) (B1q σ xs.length hi) (C5a σ lo)).map fun p=> .v (.sc (.dat (.sl (A row ((xs.drop p.1).take (p.2 - p.1)))))):=by
 have h:(A row xs).all (fun d=>d.length==sz)=T:=C78 (Row.len (row:=row)) xs
 simp only[A98,h,Row.pos row (sz:=sz),decide_true,zB,if_true,List.length_map,C0h]
 cases lo<;>simp[C5a,List.map_drop,List.map_take]
theorem E08{lo hi:U Opd}{s:O UInt8}:B02 σ (.v (.sc (.dat (.str s)))) lo hi=(B6o s.length (B1q σ s.length G) (B1q σ s.length hi) (C5a σ lo)).map fun p=> .v (.sc (.dat (.str ((s.drop p.1).take (p.2 - p.1))))):=by
 simp only[B02,C0h]
 cases lo<;>rfl
theorem E7l{n:Y}:B1q σ n G=E (n:V):=rfl
theorem E5a{n:Y}{x:Opd}:B1q σ n (E x)=asI (σ.val x):=rfl
theorem E64:C5a σ G=E 0:=rfl
theorem E5t{x:Opd}:C5a σ (E x)=asI (σ.val x):=rfl
theorem E9a{kd:IntKind}{i:V}:asI (.v (.sc (.dat (.int kd i))))=E i:=rfl
theorem E7o{n:Y}{m h l:V}:B6o n (E m) (E h) (E l)=bnd m h l n:=rfl
theorem E0t{x y:O UInt8}:B30 .add x y=bif B68 x.length y.length then E (.str (x++y)) else G:=by
 simp only[B30,B68]
 by_cases h:x.length+y.length≤4611686018427387904
 ·simp[h]
 ·simp[h]
theorem E2k{k:IntKind}{x y:V}:M0 .and k x y=E (.int k (J7 .and k x y)):=rfl
theorem E50{k:IntKind}{x y:V}:M0 .or k x y=E (.int k (J7 .or k x y)):=rfl
theorem E17{k:IntKind}{x y:V}:M0 .xor k x y=E (.int k (J7 .xor k x y)):=rfl
theorem E4l:(T==T)=T:=rfl
theorem E4d:(T==F)=F:=rfl
theorem E5z:(F==T)=F:=rfl
theorem E18:(F==F)=T:=rfl
theorem E59{b:W}:(F&&b)=F:=rfl
end
def D9n{α:Type}(k:Y):U α→O (Y × α)→O (Y × α)
 | some v,r=>(k,v)::r
 | none,r=>r
theorem D30{α:Type}{l:O (Y × α)}:A3i l []= []:=rfl
theorem D01{α:Type}{l:O (Y × α)}{k:Y}{ks:O Y}:A3i l (k::ks)=D9n k (A4 l k) (A3i l ks):=by
 show(match A4 l k with | some v=>_ | none=>_)=_
 cases A4 l k<;>rfl
theorem D1n{α:Type}{k:Y}{v:α}{r:O (Y × α)}:D9n k (E v) r=(k,v)::r:=rfl
theorem E10{env bx rows ks bs rs}:(St.mk env bx rows).kept ks bs rs=⟨A3i env ks,A3i bx bs,A3i rows rs⟩:=rfl
theorem E0q{P:Program}{k:O Fr}{Q:Xn→St→Prop}{σ:St}{its:O AItem}{ks bs rs:O Y}:go P (.ops ((G,.keep ks bs rs)::its)::k) Q .normal (E σ)=go P (.ops its::k) Q .normal (E (σ.kept ks bs rs)):=N9 rfl
theorem E6m{b:W}{x y:AV}:B5k (.v (.sc (.dat (.bool b)))) x y=E (bif b then x else y):=rfl
theorem F3s{g x y:W}:B9x g (.v (.sc (.dat (.bool x)))) (.v (.sc (.dat (.bool y))))=E (.v (.sc (.dat (.bool (bif g then !(x==y) else x==y))))):=rfl
theorem F60{m:W}{k:IntKind}{x y:V}:mmV m (.v (.sc (.dat (.int k x)))) (.v (.sc (.dat (.int k y))))=E (.v (.sc (.dat (.int k (bif m then(if x<y then y else x) else(if y<x then y else x)))))):=by simp[mmV]
theorem E40{k:IntKind}{x:V}:unV .neg (.v (.sc (.dat (.int k x))))=E (.v (.sc (.dat (.int k (k.wrap (0 - x)))))):=rfl
theorem F11{rs:Rows}{off id o:Y}:A1l rs off (.v (.sc (.pb id o)))=E (.v (.sc (.pb id (o+off)))):=rfl
theorem E0i{rs:Rows}{id:Y}:B0g rs (.v (.sc (.own id)))=(A4 rs id).map fun p=> .v (.sc (.dat (.int .i64 p.2.length))):=by
 show(match A4 rs id with | some (_,es)=>_ | none=>_)=_
 cases A4 rs id<;>rfl
theorem D7v{k:Y}:A6n k []= []:=rfl
theorem D2t{k:Y}{d:DV}{ds:O DV}:A6n k (d::ds)=(k,d.av)::A6n (k+1) ds:=rfl
theorem E1s{ds:O DV}:St.init ds=⟨A6n 0 ds,[],[]⟩:=rfl
theorem F4a{d:D}:DV.av (.sc d)= .v (.sc (.dat d)):=rfl
theorem F4q{ds:O D}:DV.av (.ag ds)= .v (.ag (ds.map .dat)):=rfl
theorem E6v{f:AC→AC}:A (V1.map f) []= []:=rfl
theorem E2s{f:AC→AC}{x:V1}{l:O V1}:A (V1.map f) (x::l)=x.map f::A (V1.map f) l:=rfl
theorem D5l{f:AC→AC}:A (fun p:Y × AV=>(p.1,p.2.map f)) []= []:=rfl
theorem D2q{f:AC→AC}{k:Y}{v:AV}{l:O (Y × AV)}:A (fun p:Y × AV=>(p.1,p.2.map f)) ((k,v)::l)=(k,v.map f)::A (fun p:Y × AV=>(p.1,p.2.map f)) l:=rfl
theorem D8l{f:AC→AC}:A (fun p:Y × O AC=>(p.1,p.2.map f)) []= []:=rfl
theorem D2x{f:AC→AC}{k:Y}{v:O AC}{l:O (Y × O AC)}:A (fun p:Y × O AC=>(p.1,p.2.map f)) ((k,v)::l)=(k,v.map f)::A (fun p:Y × O AC=>(p.1,p.2.map f)) l:=rfl
theorem D58{f:AC→AC}:A f ([]:O AC)= []:=rfl
theorem D4f{f:AC→AC}{c:AC}{l:O AC}:A f (c::l)=f c::A f l:=rfl
theorem D7j{α β:Type}{f:α→β}{l:O α}:(A f l).length=l.length:=List.length_map ..
theorem D32{c:AC}:V1.cells (.sc c)= [c]:=rfl
theorem D29{cs:O AC}:V1.cells (.ag cs)=cs:=rfl
theorem E8y{f:AC→AC}{env bx rows}:(St.mk env bx rows).map f=⟨env.map fun p=>(p.1,p.2.map f),bx.map fun p=>(p.1,p.2.map f),rows⟩:=rfl
theorem D79{f:AC→AC}{c:AC}:AV.map f (.v (.sc c))= .v (.sc (f c)):=rfl
theorem D6m{f:AC→AC}{cs:O AC}:AV.map f (.v (.ag cs))= .v (.ag (cs.map f)):=rfl
theorem E09{f:AC→AC}:AV.map f .undef= .undef:=rfl
theorem E1j{f:AC→AC}:AV.map f .no= .no:=rfl
theorem E2f{f:AC→AC}{l:O V1}:AV.map f (.tup l)= .tup (l.map (V1.map f)):=rfl
theorem D83{f:AC→AC}{c:AC}:V1.map f (.sc c)= .sc (f c):=rfl
theorem D8b{f:AC→AC}{cs:O AC}:V1.map f (.ag cs)= .ag (cs.map f):=rfl
theorem E47{id:Y}{d:D}:AC.kill id (.dat d)= .dat d:=rfl
theorem E7e{id:Y}:AC.kill id .nil= .nil:=rfl
theorem E4f{id:Y}:AC.kill id .undef= .undef:=rfl
theorem E7q{id i:Y}:AC.kill id (.own i)=bif i==id then .undef else .own i:=rfl
theorem E6p{id i a b:Y}:AC.kill id (.osub i a b)=bif i==id then .undef else .osub i a b:=rfl
theorem E5o{id i a b:Y}:AC.kill id (.pe i a b)=bif i==id then .undef else .pe i a b:=rfl
theorem E4a{id i a:Y}:AC.kill id (.pb i a)= .pb i a:=rfl
theorem E4u{id f:Y}{is:O Y}:AC.kill id (.clo f is)= .clo f is:=rfl
theorem F4l{id:Y}{es:O (O D)}{d:D}:AC.frz id es (.dat d)= .dat d:=rfl
theorem F4y{id:Y}{es:O (O D)}:AC.frz id es .nil= .nil:=rfl
theorem F42{id:Y}{es:O (O D)}:AC.frz id es .undef= .undef:=rfl
theorem F1d{id i:Y}{es:O (O D)}:AC.frz id es (.own i)=bif i==id then .dat (.sl es) else .own i:=rfl
theorem E7y{id i a b:Y}{es:O (O D)}:AC.frz id es (.osub i a b)=bif i==id then .undef else .osub i a b:=rfl
theorem F2n{id i a b:Y}{es:O (O D)}:AC.frz id es (.pe i a b)=bif i==id then .undef else .pe i a b:=rfl
theorem F0m{id i a:Y}{es:O (O D)}:AC.frz id es (.pb i a)= .pb i a:=rfl
theorem F3o{id f:Y}{es:O (O D)}{is:O Y}:AC.frz id es (.clo f is)= .clo f is:=rfl
theorem Y7{P:Program}{k:O Fr}{Q:Xn→St→Prop}{σ:St}{its:O AItem}{id sz:Y}{es:O (O D)}(hf:A4 σ.rows id=E (sz,es))(H:go P (.ops its::k) Q .normal (E {(σ.map (AC.frz id es)) with rows:=erase σ.rows [id] }))(h0:(id / 99999999999==0)=T:=by rfl) :
  go P (.ops ((G,.frz id)::its)::k) Q .normal (E σ):=by
 rw[E7f]
 simp only[St.step,hf,h0,Bool.not_true,Bool.false_eq_true,if_false]
 exact H
theorem A12{P:Program}{k:O Fr}{Q:Xn→St→Prop}{σ:St}{its:O AItem}{b j id sz:Y}{cs cs':O AC}(h1:σ.has id=F)(h2:A4 σ.bx b=E cs)(h3:cs[j]?=E .nil)(h4:cs.set j (.own id)=cs')
  (H:go P (.ops its::k) Q .normal (E {σ with bx:=put σ.bx b cs',rows:=put σ.rows id (sz,[]) })) (h0:(id / 99999999999==0)=T:=by rfl):go P (.ops ((G,.ownb b j id sz)::its)::k) Q .normal (E σ):=by
 rw[E3i]
 subst h4
 simp only[St.step,h1,h2,h3,h0,Bool.not_true,Bool.or_self,Bool.false_eq_true,if_false]
 exact H
theorem D4t{α:Type}{ks:O Y}:erase ([]:O (Y × α)) ks= []:=rfl
theorem D36{α:Type}{k n:Y}{v:α}{r:O (Y × α)}:erase ((k,v)::r) [n]=bif k==n then erase r [n] else(k,v)::erase r [n]:=by
 by_cases h:k=n
 ·simp[erase,h]
 ·have h':(k==n)=F:=by simpa using h
  simp[erase,h,h']
theorem E3w{ts:O RV}{rs:O R1}{σ:St}:Ret ts rs .ret σ=(OutVs σ ts rs∧A6r (A2j σ ts rs)=T):=rfl
theorem D6s{ts:O RV}{rs:O R1}{σ:St}:Ret ts rs .normal σ=(OutVs σ ts rs∧A6r (A2j σ ts rs)=T):=rfl
theorem C9k{σ:St}{t:RV}{ts:O RV}{r:R1}{rs:O R1}:OutVs σ (t::ts) (r::rs)=(D1k σ.rows (B10 σ t) r∧OutVs σ ts rs):=rfl
theorem C44{σ:St}{t:RV}{ts:O RV}{r:R1}{rs:O R1}:A2j σ (t::ts) (r::rs)=C5q (B10 σ t) r++A2j σ ts rs:=rfl
theorem D5g{σ:St}{a n:Y}{g:W}:B10 σ (.c a g n)=(A4j σ g n (σ.get a)).getD .undef:=rfl
def K3:=Z @E3w (Z @D6s (Z @C9k (Z @C44 @D5g)))
set_option maxRecDepth 4000 in
def E6f:=Z @E3y (Z @E41 (Z @E1m (Z @E6w (Z @E7r (Z @F1i (Z @E52 (Z @D52 (Z @E3a (Z @E5e (Z @E3f (Z @D7i (Z @D7o (Z @C6k (Z @C7h (Z @E66 (Z @D16 (Z @D2f (Z @C7a (Z @C1p (Z @D22 (Z @D3x (Z @D26 (Z @D39 (Z @D3b (Z @D5v (Z @D4m (Z @D96 (Z @D5n (Z @F35 (Z @E8h (Z @E7s (Z @E5v (Z @getD_some (Z @D48 (Z @map_some (Z @map_none (Z @D6n (Z @E5u (Z @D8r (Z @D3y (Z @E15 (Z @D8a (Z @E3m (Z @E1i (Z @E33 (Z @E1n (Z @D94 (Z @E05 (Z @E04 (Z @E2a (Z @E2z (Z @E3s (Z @E28 (Z @E30 (Z @E3p (Z @E0d (Z @E31 (Z @E4i (Z @E1b (Z @E5r (Z @D73 (Z @E34 (Z @F3b (Z @F48 (Z @F32 (Z @D5o (Z @E0j (Z @E37 (Z @E6u (Z @E6i (Z @F40 (Z @E1l (Z @E6h (Z @E12 (Z @D5t (Z @D5u (Z @D8g (Z @E42 (Z @E3v (Z @E5p (Z @D7e (Z @E2n (Z @F2r (Z @E65 (Z @D8e (Z @E4q (Z @C7f (Z @E3d (Z @C7l (Z @C64 (Z @C51 (Z @C12 (Z @D7u (Z @D7x (Z @E57 (Z @E63 (Z @E3n (Z @E2v (Z @C2l (Z @C0e (Z @C7b (Z @C6s (Z @C6y (Z @D63 (Z @D6e (Z @C16 (Z @C65 (Z @C6x (Z @C9h (Z @C68 (Z @E0x (Z @D8u (Z @D70 (Z @D5d (Z @F12 (Z @E2t (Z @D74 (Z @E0y (Z @E3g (Z @E5w (Z @E6e (Z @F2q (Z @E24 (Z @E7h (Z @E1g (Z @D68 (Z @D6w (Z @D8w (Z @D71 (Z @E4n (Z @E0c (Z @E5b (Z @D84 (Z @E1d (Z @F4c (Z @E4c (Z @E6r (Z @D8k (Z @D4s (Z @E0m (Z @E90 (Z @E2j (Z @D5m (Z @E3z (Z @E19 (Z @E4t (Z @E54 (Z @E79 (Z @E38 (Z @E45 (Z @E0a (Z @D5c (Z @D5r (Z @D7m (Z @D6t (Z @E4m (Z @E2x (Z @E6d (Z @D7l (Z @E0b (Z @F0f (Z @E7j (Z @D6b (Z @D64 (Z @E9r (Z @F22 (Z @E9z (Z @E1a (Z @D6c (Z @D46 (Z @D5w (Z @E0w (Z @E0h (Z @D4x (Z @D8z (Z @E4b (Z @E49 (Z @E7b (Z @F0u (Z @F06 (Z @E7m (Z @F2y (Z @D1w (Z @D43 (Z @E4v (Z @E5f (Z @E4o (Z @E60 (Z @D6u (Z @D44 (Z @D61 (Z @D7y (Z @E20 (Z @E35 (Z @E53 (Z @D59 (Z @E2r (Z @D8q (Z @D2p (Z @D3s (Z @D4q (Z @D4g (Z @E29 (Z @D6a (Z @E2b (Z @D2w (Z @D7d (Z @E7k (Z @E2i (Z @E3q (Z @D4c (Z @C9c (Z @D8s (Z @D6d (Z @D3h (Z @C72 (Z @C1n (Z @C1u (Z @C04 (Z @C4m (Z @C47 (Z @C7w (Z @C0x (Z @C6m (Z @C05 (Z @B83 (Z @B9m (Z @B8h (Z @C5s (Z @C0s (Z @C4y (Z @B86 (Z @C00 (Z @C7q (Z @C41 (Z @D30 (Z @D01 (Z @D1n (Z @E10 (Z @E0q (Z @E6m (Z @F3s (Z @F60 (Z @E40 (Z @F11 (Z @E0i (Z @D7v (Z @D2t (Z @E1s (Z @F4a (Z @F4q (Z @D7j (Z @D32 (Z @D29 (Z @E8y (Z @D79 (Z @D6m (Z @E09 (Z @E2f (Z @D83 (Z @D8b (Z @E47 (Z @E7e (Z @E4f (Z @E7q (Z @E6p (Z @E5o (Z @E4a (Z @E4u (Z @F4l (Z @F4y (Z @F42 (Z @F1d (Z @E7y (Z @F2n (Z @F0m (Z @F3o (Z @D4t (Z @D36 (Z @E0e (Z @E2u (Z @E36 (Z @D93 (Z @E2q (Z @E2o (Z @E0s (Z @E27 (Z @E26 (Z @D77 (Z @D28 (Z @D3n (Z @A6j (Z @D2d (Z @get_map (Z @D6h (Z @D7p (Z @E1z (Z @D5s (Z @D6q (Z @D4a (Z @E3u (Z @E23 (Z @E32 (Z @F4p (Z @F0l (Z @D5x (Z @E3e (Z @E2l (Z @D5a (Z @D25 (Z @E22 (Z @D8c (Z @E2p (Z @D7k (Z @E4w (Z @E7v (Z @E6n (Z @D55 (Z @C84 (Z @E1u (Z @E2m (Z @E1v (Z @E1p (Z @E14 (Z @E03 (Z @E08 (Z @E7l (Z @E5a (Z @E64 (Z @E5t (Z @E9a (Z @E7o (Z @E0t (Z @E2k (Z @E50 (Z @E17 (Z @E4l (Z @E4d (Z @E5z (Z @E18 (Z @E59 (Z @B70 (Z @D9w (Z @C09 (Z @E8z (Z @E9v (Z @F1e (Z @F0i (Z @E6v (Z @E2s (Z @D5l (Z @D2q (Z @D8l (Z @D2x (Z @D58 (Z @D4f (Z @F2b (Z @D3o @E1j))))))))))))))))))))))))))))))))))))))))))))))))))))))))))))))))))))))))))))))))))))))))))))))))))))))))))))))))))))))))))))))))))))))))))))))))))))))))))))))))))))))))))))))))))))))))))))))))))))))))))))))))))))))))))))))))))))))))))))))))))))))))))))))))))))))))))))))))))))))))))))))))))))))))))))))))))))))))))))))))))))))))))))))))))))))))))))))))))))))
theorem D6k{env:O (Y × AV)}{bx:O (Y × O AC)}{rows:Rows}{d:Y}{ids:O Y}{R1:H9}{r:D}:St.instX ⟨env,bx,rows⟩ d ids R1 r=⟨put env d (.v (.sc (.dat r))),bx,A6o rows ids R1⟩:=rfl
theorem D2v{rs:Rows}{id:Y}{ids:O Y}{r:Y × O (O D)}{R:H9}:A6o rs (id::ids) (r::R)=A6o (put rs id r) ids R:=rfl
theorem D56{rs:Rows}:A6o rs [] []=rs:=rfl
theorem E5g{N:O Y}:AV.avoids N (.v (.sc .z))=T:=by simp[AV.avoids,AV.cells,V1.cells,AC.avoids,AC.uses]
theorem F5i{P:Program}{k:O Fr}{Q:Xn→St→Prop}{σ:St}{N:O Y}{d:Y}{its:O O0}:go P (.dops ((E N,G,.zsl d)::its)::k) Q .normal (E σ)=go P (.dops its::k) Q .normal (E (σ.set d (.v (.sc .z)))):=by
 rw[L5 rfl]
 show go P _ Q .normal (bif (((σ.less N).set d (.v (.sc .z))).get d).avoids N then E (σ.set d (((σ.less N).set d (.v (.sc .z))).get d)) else G)=_
 rw[St.get_set_same,E5g]
 rfl
theorem E3h{N:O Y}:AV.avoids N (.tup [])=T:=rfl
theorem E6l{N:O Y}{x:V1}{l:O V1}:AV.avoids N (.tup (x::l))=((AV.v x).avoids N&&(AV.tup l).avoids N):=by simp[AV.avoids,AV.cells]
theorem E5n{t:TypeId}{d:D}:B1g t (.v (.sc (.dat d)))=E (.v (.sc (.dat (.ifc t d)))):=rfl
theorem E62{t u:TypeId}{zc:AC}{d:D}:B5c t zc (.v (.sc (.dat (.ifc u d))))=bif u==t then E (.tup [.sc (.dat d),.sc (.dat (.bool T))]) else E (.tup [.sc zc,.sc (.dat (.bool F))]):=rfl
theorem E5i{id:Y}{ds:O D}{d:D}:AC.frzb id ds (.dat d)= .dat d:=rfl
theorem E7u{id:Y}{ds:O D}:AC.frzb id ds .nil= .nil:=rfl
theorem E6b{id:Y}{ds:O D}:AC.frzb id ds .undef= .undef:=rfl
theorem E5c{id i:Y}{ds:O D}:AC.frzb id ds (.own i)= .own i:=rfl
theorem E4x{id i a b:Y}{ds:O D}:AC.frzb id ds (.osub i a b)= .osub i a b:=rfl
theorem E7p{id i a b:Y}{ds:O D}:AC.frzb id ds (.pe i a b)= .pe i a b:=rfl
theorem E51{id i a:Y}{ds:O D}:AC.frzb id ds (.pb i a)=bif i==id then .dat (.pd (ds.drop a)) else .pb i a:=rfl
theorem F0z{a b:Y}{d:D}:AC.ren a b (.dat d)= .dat d:=rfl
theorem F39{a b:Y}:AC.ren a b .nil= .nil:=rfl
theorem F1u{a b:Y}:AC.ren a b .undef= .undef:=rfl
theorem F00{a b i:Y}:AC.ren a b (.own i)= .own (bif i==a then b else i):=rfl
theorem F5c{a b i x y:Y}:AC.ren a b (.osub i x y)= .osub (bif i==a then b else i) x y:=rfl
theorem E7z{a b i x y:Y}:AC.ren a b (.pe i x y)= .pe (bif i==a then b else i) x y:=rfl
theorem E9j{a b i x:Y}:AC.ren a b (.pb i x)= .pb i x:=rfl
theorem E11{t:TypeId}{a b:D}:B1g t (.v (.ag [.dat a,.dat b]))=E (.v (.sc (.dat (.ifs t [a,b])))):=rfl
def FCq(P:Program)(f:FuncId)(ds:O DV)(rs:O R1):U D→Prop
 | none=>FC P f ds rs
 | some d=>FCp P f ds d
theorem FCq.none{P:Program}{f:FuncId}{ds:O DV}{rs:O R1}{pd:U D}(h:FCq P f ds rs pd)(hp:pd=G):FC P f ds rs:=by subst hp; exact h
theorem FCq.some{P:Program}{f:FuncId}{ds:O DV}{rs:O R1}{pd:U D}{d:D}(h:FCq P f ds rs pd)(hp:pd=E d):FCp P f ds d:=by subst hp; exact h
theorem E5d{t:TypeId}{id:Y}:B1g t (.v (.sc (.pb id 0)))=E (.v (.sc (.ipb t id))):=rfl
theorem E7i{id i:Y}{t:TypeId}:AC.kill id (.ipb t i)= .ipb t i:=rfl
theorem E92{id i:Y}{t:TypeId}{es:O (O D)}:AC.frz id es (.ipb t i)= .ipb t i:=rfl
theorem E7w{g:W}{ks:O FK}{cs ds:O AC}:B98 g ks (.v (.ag cs)) (.v (.ag ds))=(A1g ks cs ds).map fun b=> .v (.sc (.dat (.bool (bif g then !b else b)))):=rfl
theorem F4v:A1g [] [] []=E T:=rfl
theorem F10{k:IntKind}{x y:V}{ks:O FK}{cs ds:O AC}:A1g (.i::ks) (.dat (.int k x)::cs) (.dat (.int k y)::ds)=(A1g ks cs ds).map fun b=>(x==y)&&b:=if_pos rfl
theorem E8m{x y:W}{ks:O FK}{cs ds:O AC}:A1g (.b::ks) (.dat (.bool x)::cs) (.dat (.bool y)::ds)=(A1g ks cs ds).map fun b=>(x==y)&&b:=rfl
theorem E86{x y:O UInt8}{ks:O FK}{cs ds:O AC}:A1g (.s::ks) (.dat (.str x)::cs) (.dat (.str y)::ds)=(A1g ks cs ds).map fun b=>(x==y)&&b:=rfl
def E4p:=Z @E5g (Z @F5i (Z @E3h (Z @E6l (Z @D6k (Z @D2v (Z @D56 (Z @E13 (Z @E1y (Z @C07 (Z @C02 (Z @E1f (Z @E2e (Z @D5z (Z @E1o (Z @E01 (Z @D7t (Z @E5n (Z @E62 (Z @E5i (Z @E7u (Z @E6b (Z @E5c (Z @E4x (Z @E7p (Z @E51 (Z @E5d (Z @E7i (Z @E92 (Z @F0z (Z @F39 (Z @F1u (Z @F00 (Z @F5c (Z @E7z (Z @E9j (Z @E4k (Z @E5x (Z @C6v (Z @D0g (Z @E11 (Z @C6l (Z @E6a (Z @E46 (Z @E39 (Z @E0p (Z @E7w (Z @F4v (Z @F10 (Z @E8m @E86)))))))))))))))))))))))))))))))))))))))))))))))))
end Go.Vi
