/-
The value level. No condition.
-/
import Derived.Test.YtmgfndipofbbaaaGreatKVi28
namespace Go.Vi
set_option linter.all false
open And renaming intro → Z
open List renaming map → A, mem_singleton → B, replicate → I
open Nat renaming one_pos → zA
open Bool renaming false_eq_true → zB, and_self → zC, not_true → zD, true → T, false → F
open Option renaming some → E, none → G
open _root_ renaming List → O, Option → U, Int → V, Bool → W, Nat → Y
abbrev S(n:Y):Opd:= .t n
abbrev K(n:V):Opd:= .c (.v (.sc (.dat (.int .i64 n))))
abbrev K8(n:V):Opd:= .c (.v (.sc (.dat (.int .u8 n))))
abbrev KB(b:W):Opd:= .c (.v (.sc (.dat (.bool b))))
abbrev KS(s:O UInt8):Opd:= .c (.v (.sc (.dat (.str s))))
abbrev KN:Opd:= .c (.v (.sc .nil))
abbrev aI(n:V):AC:= .dat (.int .i64 n)
abbrev a8(n:V):AC:= .dat (.int .u8 n)
abbrev aB(b:W):AC:= .dat (.bool b)
abbrev aS(s:O UInt8):AC:= .dat (.str s)
abbrev aL(es:O (O D)):AC:= .dat (.sl es)
abbrev vc(c:AC):AV:= .v (.sc c)
abbrev va(cs:O AC):AV:= .v (.ag cs)
def rI(n:V):O D:= [.int .i64 n]
def r8(n:V):O D:= [.int .u8 n]
def rB(b:W):O D:= [.bool b]
def rS(s:O UInt8):O D:= [.str s]
def rL{α:Type}(row:α→O D)(xs:O α):O D:= [.sl (xs.map row)]
class Row {α:Type} (row:α→O D) (sz:Y):Prop where
 len:∀x,(row x).length=sz
 pos:0<sz
instance:Row rI 1:=⟨fun _=>rfl,zA⟩
instance:Row r8 1:=⟨fun _=>rfl,zA⟩
instance:Row rB 1:=⟨fun _=>rfl,zA⟩
instance:Row rS 1:=⟨fun _=>rfl,zA⟩
instance {α:Type} (row:α→O D):Row (rL row) 1:=⟨fun _=>rfl,zA⟩
theorem E28(n:V):rI n= [.int .i64 n]:=rfl
def C8j(n:V):UInt8:=UInt8.ofNat n.toNat
theorem C3l:∀{xs:O V},A3d (A r8 xs)=E (A C8j xs)
 | []=>rfl
 | n::xs=>by
  show(A3d (A r8 xs)).map _=_
  rw[C3l]
  rfl
theorem F7y(n:V):r8 n= [.int .u8 n]:=rfl
theorem F31(b:W):rB b= [.bool b]:=rfl
theorem F8r(s:O UInt8):rS s= [.str s]:=rfl
theorem F55{α:Type}(row:α→O D)(xs:O α):rL row xs= [.sl (xs.map row)]:=rfl
theorem D0z{α:Type}{row:α→O D}{sz:Y}(h:∀x,(row x).length=sz)(xs:O α):(xs.map row).all (fun d=>d.length==sz)=T:=by
 simp[List.all_map,Function.comp_def,h]
@[irreducible] def bigN:Y:=1208925819614629174706176
def bnd(m h l:V)(n:Y):U (Y × Y):=if 0≤l∧l≤h∧h≤m∧m≤n then E (l.toNat,h.toNat) else G
def mkS(l c:V)(bytes:Y):U Y:=if 0≤l∧l≤c∧c*bytes≤140737488355328∧c≤4611686018427387904 then E l.toNat else G
def D1(n m bytes:Y):W:=decide ((n+m)*bytes≤140737488355328∧n+m≤4611686018427387904)
def B9y(n m:Y):W:=decide (n+m≤4611686018427387904)
theorem C0p{α β:Type}{f:α→β}{l:O α}{i:V}:ix (l.map f) i=(ix l i).map f:=by
 unfold ix
 split<;>simp
theorem N4{α:Type}{l:O α}{i:V}{x:α}(h:ix l i=E x):l[i.toNat]?=E x:=by
 unfold ix at h
 split at h
 ·exact h
 ·cases h
theorem ob{α β:Type}{o:U α}{f:α→U β}{r:β}(h:o.bind f=E r):∃a,o=E a∧f a=E r:=Option.bind_eq_some_iff.1 h
class FlatRow {α:Type} (row:α→O D):Prop where
 flat:∀x,∀d∈row x,d.flat=T
instance:FlatRow rI:=⟨fun _ d h=>by rw[B.1 h]; rfl⟩
instance:FlatRow r8:=⟨fun _ d h=>by rw[B.1 h]; rfl⟩
instance:FlatRow rB:=⟨fun _ d h=>by rw[B.1 h]; rfl⟩
instance:FlatRow rS:=⟨fun _ d h=>by rw[B.1 h]; rfl⟩
def E2z:O RC→Prop
 | []=>True
 | c::cs=>c.flat∧E2z cs
theorem A7z{rs:O R1}{cs:O RC}(h:rs.flatMap R1.cells=cs)(hf:E2z cs):A4s rs:=by
 subst h
 unfold A4s
 generalize rs.flatMap R1.cells=l at hf
 induction l with
 | nil=>intro c hc; simp at hc
 | cons a l ih=>
  intro c hc
  rcases List.mem_cons.1 hc with rfl|hc
  ·exact hf.1
  ·exact ih hf.2 c hc
theorem A7y{α:Type}{row:α→O D} [FlatRow row]{sz:Y}{xs:O α}:RC.flat (.o sz (A row xs)):=by
 intro r hr
 obtain⟨x,_,rfl⟩:=List.mem_map.1 hr
 exact FlatRow.flat x
theorem B1g{α:Type}{row:α→O D}{z:α}{zs:O D}{n:Y}(h:row z=zs):I n zs=A row (I n z):=by rw[List.map_replicate,h]
theorem D3{α:Type}{b:W}{x:U α}{r:α}(h:(if b=T then x else G)=E r):b=T∧x=E r:=by
 cases b
 ·rw[if_neg Bool.false_ne_true] at h; cases h
 ·exact⟨rfl,by simpa using h⟩
theorem A1h{α:Type}{b:W}{x:U α}{r:α}(h:(if b=T then G else x)=E r):b=F∧x=E r:=by
 cases b
 ·exact⟨rfl,by simpa using h⟩
 ·rw[if_pos rfl] at h; cases h
theorem ic{α:Type}{b:W}{x y:U α}{r:α}(h:(if b=T then x else y)=E r):(b=T∧x=E r)∨(b=F∧y=E r):=by
 cases b with
 | true=>exact .inl ⟨rfl,h⟩
 | false=>exact .inr ⟨rfl,h⟩
section
variable {P : Program} {k : O Fr} {Q : Xm → St → Prop} {σ : St} {its : O AItem} {ds : O P2} {o : AOp} {d : Y}
theorem B0{c:X2}(h:go P (.code c:: .code (.loop c)::k) Q .normal (E σ)):go P (.code (.loop c)::k) Q .normal (E σ):=by
 intro X hX
 refine hX σ (C7f c (fun e σ' h=> ?_) h)
 cases e with
 | normal=>exact h X hX
 | exit id=>exact h
 | ret=>exact h
 | pan d=>exact h
theorem F5i(hm:P.follows .mixedOrders=T){f:FuncId}{c:X2}{ts:O RV}{nt:Y}{ds:O DV}{rs:O R1}{σ:St}(he:A5 P f=E (c.strip,ts,nt))(hl:Nat.ble ds.length nt=T)(hσ:St.init ds=σ)
  (h:go P [.code c] (Ret ts rs) .normal (E σ)):FC P f ds rs:=F67 hm he (Nat.le_of_ble_eq_true hl) fun _=>A9g (hσ▸h)
theorem C4(hm:P.follows .mixedOrders=T){f:FuncId}{c:X2}{ts:O RV}{nt:Y}{ds:O DV}{rs:O R1}(he:A5 P f=E (c.strip,ts,nt))(hl:Nat.ble ds.length nt=T)
  (h:go P [.code c] (Ret ts rs) .normal (E (St.init ds))):FC P f ds rs:=F5i hm he hl rfl h
theorem B86{sz:Y}{es:O (O D)}(hf:σ.fresh d=T):σ.make (.row d sz es)=E {(σ.set d (.v (.sc (.own (d*64))))) with rows:=put σ.rows (d*64) (sz,es)}:=by simp[St.make,hf]
theorem B4p{cs:O AC}(hf:σ.fresh d=T)(hu:cs.all (fun c=> !c.uses d)=T):σ.make (.box d cs)=E {(σ.set d (.v (.sc (.pb d 0)))) with bx:=put σ.bx d cs}:=by simp only[St.make,hf,hu,zC,if_true]
theorem C61{m:Mk}(ho:o.isMade=T)(hm:σ.made o=E m){σ':St}(hs:σ.make m=E σ')(H:go P (.ops its::k) Q .normal (E σ')):go P (.ops ((G,o)::its)::k) Q .normal (E σ):=by
 have hc:o.isCall=F:=by cases o<;>first | rfl | (simp[AOp.isMade] at ho; done)
 rw[N9 hc,E5l ho,hm]
 show go P (.ops its::k) Q .normal (σ.make m)
 rw[hs]
 exact H
theorem B2{X:Opd}{y:V1}(hX:σ.val X= .v y)(hf:σ.fresh d=T)(hu:y.cells.all (fun c=> !c.uses d)=T)(H:go P (.ops its::k) Q .normal (E {(σ.set d (.v (.sc (.pb d 0)))) with bx:=put σ.bx d y.cells })) :
  go P (.ops ((G,.box d X)::its)::k) Q .normal (E σ):=C61 rfl (by simp only[St.made,hX]) (B4p hf hu) H
theorem D7{cs:O AC}(hf:σ.fresh d=T)(hu:cs.all (fun c=> !c.uses d)=T)(H:go P (.ops its::k) Q .normal (E {(σ.set d (.v (.sc (.pb d 0)))) with bx:=put σ.bx d cs })) :
  go P (.ops ((G,.alloc d cs)::its)::k) Q .normal (E σ):=C61 rfl rfl (B4p hf hu) H
theorem C7{sz:Y}{zs:O D}{len:Y}{ps:O (Y × Opd)}{es:O (O D)}(hm:σ.made (.bslice d sz zs len ps)=E (.row d sz es))(hf:σ.fresh d=T)
  (H:go P (.ops its::k) Q .normal (E {(σ.set d (.v (.sc (.own (d*64))))) with rows:=put σ.rows (d*64) (sz,es) })):go P (.ops ((G,.bslice d sz zs len ps)::its)::k) Q .normal (E σ):=C61 rfl hm (B86 hf) H
theorem E1o{L C:Opd}{l c:V}{bytes n sz:Y}{zs:O D}{es:O (O D)}(hl:asI (σ.val L)=E l)(hc:asI (σ.val C)=E c)(hb:mkS l c bytes=E n)(hz:zs.length=sz)(he:I n zs=es) :
  σ.made (.mksl d sz bytes zs L C)=E (.row d sz es):=by
 unfold mkS at hb
 split at hb
 ·rename_i h
  cases hb
  subst he
  simp only[St.made,hl,hc]
  rw[if_pos ⟨h.1,h.2.1,h.2.2.1,h.2.2.2,hz⟩]
 ·cases hb
theorem B3r{L C:Opd}{l c:V}{bytes n sz:Y}{zs:O D}{es:O (O D)}(hl:asI (σ.val L)=E l)(hc:asI (σ.val C)=E c)(hb:mkS l c bytes=E n)(hz:zs.length=sz)(he:I n zs=es)(hf:σ.fresh d=T)
  (H:go P (.ops its::k) Q .normal (E {(σ.set d (.v (.sc (.own (d*64))))) with rows:=put σ.rows (d*64) (sz,es) })):go P (.ops ((G,.mksl d sz bytes zs L C)::its)::k) Q .normal (E σ):=
 C61 rfl (E1o hl hc hb hz he) (B86 hf) H
theorem C8s{n:Y}{N:O Y}{m:Mk}(hm:(σ.less (n::N)).made o=E m)(hv:E8h (n::N) m=T){σ':St}(hs:σ.make m=E σ')(H:go P (.dops ds::k) Q .normal (E σ')) :
  go P (.dops ((E (n::N),G,o)::ds)::k) Q .normal (E σ):=D9c hm hv hs H
theorem A6c{α:Type}{env bx rows}{id sz i off n:Y}{xs:O α}{row:α→O D}{x y:α}{yv:V1}{dd:O D}(hd:yv.toDs=E dd)(hf:A3 rows id=E (sz,A row xs))
  (hx:xs[i]?=E x) (hn:dd.length=n) (ho:Nat.ble (off+n) (row x).length=T) (hy:B63 (row x) off dd=row y) (H:go P k Q .normal (E ⟨env,bx,put rows id (sz,A row (xs.set i y))⟩)) :
  go P k Q .normal (St.storeV ⟨env,bx,rows⟩ n (.v (.sc (.pe id i off))) (.v yv)):=by
 have e:St.storeV ⟨env,bx,rows⟩ n (.v (.sc (.pe id i off))) (.v yv)=E ⟨env,bx,put rows id (sz,A row (xs.set i y))⟩:=by
  simp only[St.storeV,hf,List.getElem?_map,hx,Option.map_some,hd]
  rw[if_pos ⟨hn,Nat.le_of_ble_eq_true ho⟩,hy,List.map_set]
 rw[e]
 exact H
end
def A73{α:Type}:Y→O α→U (O α)
 | 0,l=>E l
 | _+1,[]=>G
 | n+1,_::l=>A73 n l
def B09{α:Type}:Y→O α→U (O α)
 | 0,_=>E []
 | _+1,[]=>G
 | n+1,c::l=>(B09 n l).map (c:: ·)
def A75{α:Type}:O α→Y→W
 | [],0=>T
 | _::l,n+1=>A75 l n
 | _,_=>F
def A2n{α:Type}:O α→Y→W
 | _,0=>T
 | _::l,n+1=>A2n l n
 | [],_+1=>F
theorem B15{α:Type}:∀(n:Y) (l:O α),A73 n l=if n≤l.length then E (l.drop n) else G
 | 0,l=>by simp[A73]
 | n+1,[]=>by simp[A73]
 | n+1,c::l=>by simp[A73,B15 n l]
theorem C8q{α:Type}:∀(n:Y) (l:O α),B09 n l=if n≤l.length then E (l.take n) else G
 | 0,l=>by simp[B09]
 | n+1,[]=>by simp[B09]
 | n+1,c::l=>by simp only[B09,C8q n l]; split<;>simp_all
theorem B9x{α:Type}:∀(l:O α) (n:Y),A75 l n=decide (l.length=n)
 | [],0=>by simp[A75]
 | [],n+1=>by simp[A75]
 | _::l,0=>by simp[A75]
 | _::l,n+1=>by simp[A75,B9x l n]
theorem B1h{α:Type}:∀(l:O α) (n:Y),A2n l n=decide (n≤l.length)
 | [],0=>by simp[A2n]
 | [],n+1=>by simp[A2n]
 | _::l,0=>by simp[A2n]
 | _::l,n+1=>by simp[A2n,B1h l n]
theorem E3p{α:Type}{l:O α}:A73 0 l=E l:=by cases l<;>rfl
theorem E4d{α:Type}{n:Y}{c:α}{l:O α}:A73 (n+1) (c::l)=A73 n l:=rfl
theorem E3h{α:Type}{l:O α}:B09 0 l=E []:=by cases l<;>rfl
theorem E5q{α:Type}{n:Y}{c:α}{l:O α}:B09 (n+1) (c::l)=(B09 n l).map (c:: ·):=rfl
theorem E4x{α:Type}:A75 ([]:O α) 0=T:=rfl
theorem E6t{α:Type}{n:Y}{c:α}{l:O α}:A75 (c::l) (n+1)=A75 l n:=rfl
theorem E7c{α:Type}{l:O α}:A2n l 0=T:=by cases l<;>rfl
theorem E7h{α:Type}{n:Y}{c:α}{l:O α}:A2n (c::l) (n+1)=A2n l n:=rfl
theorem E7j{cs:O AC}{off n:Y}:A3p cs off T n=(A73 off cs).bind fun l=>(B09 n l).map fun l=> .v (.ag l):=by
 simp only[A3p,cond_true,B15,C8q]
 by_cases h:off≤cs.length
 ·rw[if_pos h]
  by_cases h2:off+n≤cs.length
  ·rw[if_pos h2,Option.bind_some,if_pos (by simp; omega)]; rfl
  ·rw[if_neg h2,Option.bind_some,if_neg (by simp; omega)]; rfl
 ·rw[if_neg h,if_neg (by omega)]; rfl
theorem E12{cs:O AC}:A3o cs 0 []=cs:=by simp[A3o]
theorem D69{c:AC}{cs ds:O AC}{n:Y}:A3o (c::cs) (n+1) ds=c::A3o cs n ds:=by
 simp only[A3o,List.take_succ_cons,List.cons_append]
 rw[show n+1+ds.length=(n+ds.length)+1 by omega,List.drop_succ_cons]
theorem D71{c d:AC}{cs ds:O AC}:A3o (c::cs) 0 (d::ds)=d::A3o cs 0 ds:=by simp[A3o]
theorem A68{α β:Type}{a:α}{f:α→U β}:(E a).bind f=f a:=rfl
theorem D30{α β:Type}{f:α→U β}:(G:U α).bind f=G:=rfl
theorem get_map{α β:Type}{f:α→β}{l:O α}{i:Y}:(A f l)[i]?=(l[i]?).map f:=List.getElem?_map
theorem E02{α:Type}{a:α}{l:O α}:(a::l)[0]?=E a:=rfl
theorem D85{α:Type}{a:α}{l:O α}{n:Y}:(a::l)[n+1]?=l[n]?:=by simp
theorem E3v:A AC.dat []= []:=rfl
theorem D83{d:D}{l:O D}:A AC.dat (d::l)= .dat d::A AC.dat l:=rfl
section
variable {P : Program} {k : O Fr} {Q : Xm → St → Prop} {σ : St} {its : O AItem} {env : O (Y × AV)} {bx : O (Y × O AC)} {rows : Rows}
theorem D8v{α:Type}{rs:Rows}{sz:Y}{xs:O α}{row:α→O D} [Row row sz]{kd:IntKind}{i:V}:A45 rs sz (.v (.sc (.dat (.sl (A row xs))))) (.v (.sc (.dat (.int kd i))))=(ix xs i).map fun x=> .v (.sc (.dat (.pd (row x)))):=by
 simp only[A45,C0p]
 cases ix xs i with
 | none=>rfl
 | some x=>simp[Row.len (row:=row) (sz:=sz),Row.pos row]
theorem D79{rs:Rows}{sz id:Y}{kd:IntKind}{i:V}:A45 rs sz (.v (.sc (.own id))) (.v (.sc (.dat (.int kd i))))=(A3 rs id).bind fun p=>(ix p.2 i).bind fun _=>bif p.1==sz then E (.v (.sc (.pe id i.toNat 0))) else G:=by
 simp only[A45]
 cases A3 rs id with
 | none=>rfl
 | some p=>
  obtain⟨a,es⟩:=p
  simp only[A68]
  cases ix es i with
  | none=>rfl
  | some x=>
   by_cases h:a=sz
   ·simp[h]
   ·have h':(a==sz)=F:=by simpa using h
    simp[h,h']
theorem E46{g:W}{n id off:Y}:A5i ⟨env,bx,rows⟩ g n (.v (.sc (.pb id off)))=(A3 bx id).bind fun cs=>A3p cs off g n:=by
 show(match A3 bx id with | some cs=>_ | none=>G)=_
 cases A3 bx id<;>rfl
theorem E5n{g:W}{n id i off:Y}:A5i ⟨env,bx,rows⟩ g n (.v (.sc (.pe id i off)))=(A3 rows id).bind fun p=>(p.2[i]?).bind fun d=>A3p (A AC.dat d) off g n:=by
 simp only[A5i]
 cases A3 rows id with
 | none=>rfl
 | some p=>
  simp only[A68]
  cases p.2[i]?<;>rfl
theorem E3l{g:W}{n:Y}{cs:O D}:A5i σ g n (.v (.sc (.dat (.pd cs))))=A3p (A AC.dat cs) 0 g n:=rfl
theorem F8o{rs:Rows}{off id i o:Y}:A2d rs off (.v (.sc (.pe id i o)))=(A3 rs id).map fun _=> .v (.sc (.pe id i (o+off))):=by
 simp only[A2d]
 cases A3 rs id<;>rfl
theorem F19{rs:Rows}{off:Y}{cs:O D}:A2d rs off (.v (.sc (.dat (.pd cs))))=(A73 off cs).map fun cs=> .v (.sc (.dat (.pd cs))):=by
 simp only[A2d,B15]
 split<;>rfl
theorem D9w{l:O V1}{i:Y}:B7g i (.tup l)=(l[i]?).map .v:=rfl
theorem E6q{id off:Y}:B06 (.v (.sc (.pb id off)))=E (.v (.sc (.pb id off))):=rfl
theorem E66{cs:O D}:B06 (.v (.sc (.dat (.pd cs))))=E (.v (.sc (.dat (.pd cs)))):=rfl
theorem E1c:A (St.val σ) []= []:=rfl
theorem D6q{x:Opd}{l:O Opd}:A (St.val σ) (x::l)=σ.val x::A (St.val σ) l:=rfl
theorem E62{f:FuncId}:B4a f []=E []:=rfl
theorem E16{f:FuncId}:B4n f []=E (.clo f []):=rfl
theorem E8p{f:FuncId}{id:Y}{r:O AV}:B4n f (.v (.sc (.pb id 0))::r)=(B4a f (.v (.sc (.pb id 0))::r)).map (.clo f):=rfl
theorem F0f{f:FuncId}{d:D}{r:O AV}:B4n f (.v (.sc (.dat d))::r)=(B42 (.v (.sc (.dat d))::r)).map fun q=> .dat (.clo f q):=rfl
theorem D9i:B42 []=E []:=rfl
theorem D52{ds:O D}{r:O AV}:B42 (.v (.sc (.dat (.pd ds)))::r)=(B42 r).map (.pd ds:: ·):=rfl
theorem D8h{f:FuncId}{id:Y}{r:O AV}:B4a f (.v (.sc (.pb id 0))::r)=(B4a f r).map (id:: ·):=rfl
def D4a(K:O AC→U (O AC))(off n:Y)(cs:O AC):AV→U (O AC)
 | .v x=>bif A75 x.cells n&&A2n cs (off+n) then K (A3o cs off x.cells) else G
 | _=>G
def B6j(σ:St):O (Y × Y × Opd)→O AC→U (O AC)
 | [],cs=>E cs
 | (off,n,x)::r,cs=>D4a (B6j σ r) off n cs (σ.val x)
theorem C2c:∀(ps:O (Y × Y × Opd)) (cs:O AC),A7c cs (ps.map fun p=>(p.1,p.2.1,σ.val p.2.2))=B6j σ ps cs
 | [],cs=>rfl
 | (off,n,x)::r,cs=>by
  simp only[List.map_cons,B6j]
  generalize σ.val x=v
  cases v with
  | v y=>
   simp only[A7c,D4a,B9x,B1h]
   by_cases h1:y.cells.length=n
   ·by_cases h2:off+n≤cs.length
    ·subst h1
     simp only[h2,and_self,if_true,decide_true,zC,cond_true]
     exact C2c r _
    ·simp[h1,h2]
   ·simp[h1]
  | _=>rfl
theorem E3x{cs:O AC}:B6j σ [] cs=E cs:=rfl
theorem E1f{off n:Y}{x:Opd}{r:O (Y × Y × Opd)}{cs:O AC}:B6j σ ((off,n,x)::r) cs=D4a (B6j σ r) off n cs (σ.val x):=rfl
theorem F01{K:O AC→U (O AC)}{off n:Y}{cs:O AC}{x:V1}:D4a K off n cs (.v x)=bif A75 x.cells n&&A2n cs (off+n) then K (A3o cs off x.cells) else G:=rfl
theorem F1b{d zs ps}:go P (.ops ((G,.build d zs ps)::its)::k) Q .normal (E σ)=go P (.ops its::k) Q .normal (I8 σ d ((B6j σ ps zs).map fun cs=> .v (.ag cs))):=by rw[D8z,C2c]
theorem E83{d zs ps}:σ.step (.build d zs ps)=I8 σ d ((B6j σ ps zs).map fun cs=> .v (.ag cs)):=by rw[B96,C2c]
theorem E0b{n id off:Y}{y:V1}:St.storeV ⟨env,bx,rows⟩ n (.v (.sc (.pb id off))) (.v y)=(A3 bx id).bind fun cs=>bif A75 y.cells n&&A2n cs (off+n) then E ⟨env,put bx id (A3o cs off y.cells),rows⟩ else G:=by
 simp only[St.storeV,B9x,B1h]
 cases A3 bx id with
 | none=>rfl
 | some cs=>
  simp only[A68]
  by_cases h1:y.cells.length=n
  ·by_cases h2:off+n≤cs.length
   ·simp[h1,h2]
   ·simp[h1,h2]
  ·simp[h1]
def C1y(sz:Y)(es:O (O D)):W:=es.all fun r=>r.length==sz
theorem D21{α:Type}{sz:Y}{row:α→O D} [Row row sz]{xs:O α}:C1y sz (A row xs)=T:=D0z (Row.len (row:=row)) xs
theorem E5d{d sz bytes id:Y}{y:AV}:St.appV ⟨env,bx,rows⟩ d sz bytes (.v (.sc (.own id))) y=bif id / 99999999999==0 then((A3 rows id).bind fun p=>(appSrc rows y).bind fun es'=>
  bif (p.1==sz)&&(C1y sz es'&&D1 p.2.length es'.length bytes) then E ⟨put (env.map fun p=>(p.1,p.2.map (AC.kill id))) d (.v (.sc (.own id))),bx.map fun p=>(p.1,p.2.map (AC.kill id)),put rows id (sz,p.2++es')⟩ else G) else G:=by
 simp only[St.appV]
 by_cases h0:id / 99999999999=0
 rotate_left
 ·rw[if_neg h0,show(id / 99999999999==0)=F by simpa using h0]
  rfl
 rw[if_pos h0,show(id / 99999999999==0)=T by simpa using h0,cond_true]
 cases A3 rows id with
 | none=>rfl
 | some p=>
  obtain⟨a,es⟩:=p
  simp only[A68]
  cases appSrc rows y with
  | none=>rfl
  | some es'=>
   simp only[A68]
   by_cases h1:a=sz
   ·by_cases h2:C1y sz es'=T
    ·by_cases h3:D1 es.length es'.length bytes=T
     ·have h3':=of_decide_eq_true h3
      rw[if_pos ⟨h1,h2,h3'.1,h3'.2⟩]
      simp only[h1,beq_self_eq_true,h2,h3,zC,cond_true]
      rfl
     ·have h3':D1 es.length es'.length bytes=F:=by simpa using h3
      rw[if_neg (fun h=>h3 (decide_eq_true ⟨h.2.2.1,h.2.2.2⟩))]
      simp[h3']
    ·have h2':C1y sz es'=F:=by simpa using h2
     rw[if_neg (fun h=>h2 h.2.1)]
     simp[h2']
   ·have h1':(a==sz)=F:=by simpa using h1
    rw[if_neg (fun h=>h1 h.1)]
    simp[h1']
theorem E38{rs:Rows}{es:O (O D)}:appSrc rs (.v (.sc (.dat (.sl es))))=E es:=rfl
theorem E3d{rs:Rows}:appSrc rs (.v (.sc .nil))=E []:=rfl
theorem E4e{rs:Rows}{id:Y}:appSrc rs (.v (.sc (.own id)))=(A3 rs id).map fun p=>p.2:=by
 simp only[appSrc,toD0]
 cases A3 rs id<;>rfl
theorem E3y{α:Type}{f:α→O D}{a b:O α}:A f a++A f b=A f (a++b):=List.map_append.symm
def B1n(σ:St)(n:Y):U Opd→U V
 | none=>E n
 | some x=>asI (σ.val x)
def B5z(n:Y):U V→U V→U V→U (Y × Y)
 | some m,E h,E l=>bnd m h l n
 | _,_,_=>G
theorem B76{lo hi mx:U Opd}{n:Y}:B1z σ lo hi mx n=B5z n (B1n σ n mx) (B1n σ n hi) (match lo with | none=>E 0 | some x=>asI (σ.val x)):=by
 cases mx<;>cases hi<;>cases lo<;>(simp only[B1z,B5z,B1n]; first | rfl | (split<;>simp_all[B5z,bnd]))
def C9a(σ:St):U Opd→U V
 | none=>E 0
 | some x=>asI (σ.val x)
theorem E48{α:Type}{sz:Y}{lo hi mx:U Opd}{xs:O α}{row:α→O D} [Row row sz]:A8s σ sz (.v (.sc (.dat (.sl (A row xs))))) lo hi mx=(B5z xs.length (B1n σ xs.length mx) (B1n σ xs.length hi) (C9a σ lo)).map fun p=> .v (.sc (.dat (.sl (A row ((xs.drop p.1).take (p.2 - p.1)))))):=by
 have h:(A row xs).all (fun d=>d.length==sz)=T:=D0z (Row.len (row:=row)) xs
 simp only[A8s,h,Row.pos row (sz:=sz),decide_true,zC,if_true,List.length_map,B76]
 cases lo<;>simp[C9a,List.map_drop,List.map_take]
theorem E3f{lo hi:U Opd}{s:O UInt8}:B2h σ (.v (.sc (.dat (.str s)))) lo hi=(B5z s.length (B1n σ s.length G) (B1n σ s.length hi) (C9a σ lo)).map fun p=> .v (.sc (.dat (.str ((s.drop p.1).take (p.2 - p.1))))):=by
 simp only[B2h,B76]
 cases lo<;>rfl
theorem E97{n:Y}:B1n σ n G=E (n:V):=rfl
theorem E8z{n:Y}{x:Opd}:B1n σ n (E x)=asI (σ.val x):=rfl
theorem E99:C9a σ G=E 0:=rfl
theorem E92{x:Opd}:C9a σ (E x)=asI (σ.val x):=rfl
theorem F21{kd:IntKind}{i:V}:asI (.v (.sc (.dat (.int kd i))))=E i:=rfl
theorem E9y{n:Y}{m h l:V}:B5z n (E m) (E h) (E l)=bnd m h l n:=rfl
theorem E4f{x y:O UInt8}:B66 .add x y=bif B9y x.length y.length then E (.str (x++y)) else G:=by
 simp only[B66,B9y]
 by_cases h:x.length+y.length≤4611686018427387904
 ·simp[h]
 ·simp[h]
theorem E4i{k:IntKind}{x y:V}:N2 .and k x y=E (.int k (K5 .and k x y)):=rfl
theorem E9m{k:IntKind}{x y:V}:N2 .or k x y=E (.int k (K5 .or k x y)):=rfl
theorem E4v{k:IntKind}{x y:V}:N2 .xor k x y=E (.int k (K5 .xor k x y)):=rfl
theorem E8v:(T==T)=T:=rfl
theorem F08:(T==F)=F:=rfl
theorem E8w:(F==T)=F:=rfl
theorem E4m:(F==F)=T:=rfl
theorem E76{b:W}:(F&&b)=F:=rfl
end
def E2o{α:Type}(k:Y):U α→O (Y × α)→O (Y × α)
 | some v,r=>(k,v)::r
 | none,r=>r
theorem D7a{α:Type}{l:O (Y × α)}:A4c l []= []:=rfl
theorem D4w{α:Type}{l:O (Y × α)}{k:Y}{ks:O Y}:A4c l (k::ks)=E2o k (A3 l k) (A4c l ks):=by
 show(match A3 l k with | some v=>_ | none=>_)=_
 cases A3 l k<;>rfl
theorem D1k{α:Type}{k:Y}{v:α}{r:O (Y × α)}:E2o k (E v) r=(k,v)::r:=rfl
theorem E4n{env bx rows ks bs rs}:(St.mk env bx rows).kept ks bs rs=⟨A4c env ks,A4c bx bs,A4c rows rs⟩:=rfl
theorem E6x{P:Program}{k:O Fr}{Q:Xm→St→Prop}{σ:St}{its:O AItem}{ks bs rs:O Y}:go P (.ops ((G,.keep ks bs rs)::its)::k) Q .normal (E σ)=go P (.ops its::k) Q .normal (E (σ.kept ks bs rs)):=N9 rfl
theorem E7w{b:W}{x y:AV}:B7u (.v (.sc (.dat (.bool b)))) x y=E (bif b then x else y):=rfl
theorem F3k{g x y:W}:C2g g (.v (.sc (.dat (.bool x)))) (.v (.sc (.dat (.bool y))))=E (.v (.sc (.dat (.bool (bif g then !(x==y) else x==y))))):=rfl
theorem G0b{m:W}{k:IntKind}{x y:V}:mmV m (.v (.sc (.dat (.int k x)))) (.v (.sc (.dat (.int k y))))=E (.v (.sc (.dat (.int k (bif m then(if x<y then y else x) else(if y<x then y else x)))))):=by simp[mmV]
theorem E88{k:IntKind}{x:V}:unV .neg (.v (.sc (.dat (.int k x))))=E (.v (.sc (.dat (.int k (k.wrap (0 - x)))))):=rfl
theorem F5s{rs:Rows}{off id o:Y}:A2d rs off (.v (.sc (.pb id o)))=E (.v (.sc (.pb id (o+off)))):=rfl
theorem E3t{rs:Rows}{id:Y}:B19 rs (.v (.sc (.own id)))=(A3 rs id).map fun p=> .v (.sc (.dat (.int .i64 p.2.length))):=by
 show(match A3 rs id with | some (_,es)=>_ | none=>_)=_
 cases A3 rs id<;>rfl
theorem E01{k:Y}:A7l k []= []:=rfl
theorem D7d{k:Y}{d:DV}{ds:O DV}:A7l k (d::ds)=(k,d.av)::A7l (k+1) ds:=rfl
theorem E33{ds:O DV}:St.init ds=⟨A7l 0 ds,[],[]⟩:=rfl
theorem F6i{d:D}:DV.av (.sc d)= .v (.sc (.dat d)):=rfl
theorem F50{ds:O D}:DV.av (.ag ds)= .v (.ag (ds.map .dat)):=rfl
theorem E8l{f:AC→AC}:A (V1.map f) []= []:=rfl
theorem E61{f:AC→AC}{x:V1}{l:O V1}:A (V1.map f) (x::l)=x.map f::A (V1.map f) l:=rfl
theorem E1d{f:AC→AC}:A (fun p:Y × AV=>(p.1,p.2.map f)) []= []:=rfl
theorem D5r{f:AC→AC}{k:Y}{v:AV}{l:O (Y × AV)}:A (fun p:Y × AV=>(p.1,p.2.map f)) ((k,v)::l)=(k,v.map f)::A (fun p:Y × AV=>(p.1,p.2.map f)) l:=rfl
theorem E1v{f:AC→AC}:A (fun p:Y × O AC=>(p.1,p.2.map f)) []= []:=rfl
theorem D5x{f:AC→AC}{k:Y}{v:O AC}{l:O (Y × O AC)}:A (fun p:Y × O AC=>(p.1,p.2.map f)) ((k,v)::l)=(k,v.map f)::A (fun p:Y × O AC=>(p.1,p.2.map f)) l:=rfl
theorem E0z{f:AC→AC}:A f ([]:O AC)= []:=rfl
theorem D7p{f:AC→AC}{c:AC}{l:O AC}:A f (c::l)=f c::A f l:=rfl
theorem D8x{α β:Type}{f:α→β}{l:O α}:(A f l).length=l.length:=List.length_map ..
theorem D7b{c:AC}:V1.cells (.sc c)= [c]:=rfl
theorem D7u{cs:O AC}:V1.cells (.ag cs)=cs:=rfl
theorem F7l{f:AC→AC}{env bx rows}:(St.mk env bx rows).map f=⟨env.map fun p=>(p.1,p.2.map f),bx.map fun p=>(p.1,p.2.map f),rows⟩:=rfl
theorem E15{f:AC→AC}{c:AC}:AV.map f (.v (.sc c))= .v (.sc (f c)):=rfl
theorem E0x{f:AC→AC}{cs:O AC}:AV.map f (.v (.ag cs))= .v (.ag (cs.map f)):=rfl
theorem E4k{f:AC→AC}:AV.map f .undef= .undef:=rfl
theorem E3g{f:AC→AC}:AV.map f .no= .no:=rfl
theorem E3w{f:AC→AC}{l:O V1}:AV.map f (.tup l)= .tup (l.map (V1.map f)):=rfl
theorem E0g{f:AC→AC}{c:AC}:V1.map f (.sc c)= .sc (f c):=rfl
theorem D94{f:AC→AC}{cs:O AC}:V1.map f (.ag cs)= .ag (cs.map f):=rfl
theorem F03{id:Y}{d:D}:AC.kill id (.dat d)= .dat d:=rfl
theorem F0b{id:Y}:AC.kill id .nil= .nil:=rfl
theorem E96{id:Y}:AC.kill id .undef= .undef:=rfl
theorem F05{id i:Y}:AC.kill id (.own i)=bif i==id then .undef else .own i:=rfl
theorem F0w{id i a b:Y}:AC.kill id (.osub i a b)=bif i==id then .undef else .osub i a b:=rfl
theorem F0j{id i a b:Y}:AC.kill id (.pe i a b)=bif i==id then .undef else .pe i a b:=rfl
theorem E9e{id i a:Y}:AC.kill id (.pb i a)= .pb i a:=rfl
theorem E9v{id f:Y}{is:O Y}:AC.kill id (.clo f is)= .clo f is:=rfl
theorem F5o{id:Y}{es:O (O D)}{d:D}:AC.frz id es (.dat d)= .dat d:=rfl
theorem F79{id:Y}{es:O (O D)}:AC.frz id es .nil= .nil:=rfl
theorem F8i{id:Y}{es:O (O D)}:AC.frz id es .undef= .undef:=rfl
theorem F5d{id i:Y}{es:O (O D)}:AC.frz id es (.own i)=bif i==id then .dat (.sl es) else .own i:=rfl
theorem F1w{id i a b:Y}{es:O (O D)}:AC.frz id es (.osub i a b)=bif i==id then .undef else .osub i a b:=rfl
theorem F1t{id i a b:Y}{es:O (O D)}:AC.frz id es (.pe i a b)=bif i==id then .undef else .pe i a b:=rfl
theorem F7s{id i a:Y}{es:O (O D)}:AC.frz id es (.pb i a)= .pb i a:=rfl
theorem F6k{id f:Y}{es:O (O D)}{is:O Y}:AC.frz id es (.clo f is)= .clo f is:=rfl
theorem O5{P:Program}{k:O Fr}{Q:Xm→St→Prop}{σ:St}{its:O AItem}{id sz:Y}{es:O (O D)}(hf:A3 σ.rows id=E (sz,es))(H:go P (.ops its::k) Q .normal (E {(σ.map (AC.frz id es)) with rows:=erase σ.rows [id] }))(h0:(id / 99999999999==0)=T:=by rfl) :
  go P (.ops ((G,.frz id)::its)::k) Q .normal (E σ):=by
 rw[E9t]
 simp only[St.step,hf,h0,zD,zB,if_false]
 exact H
theorem A47{P:Program}{k:O Fr}{Q:Xm→St→Prop}{σ:St}{its:O AItem}{b j id sz:Y}{cs cs':O AC}(h1:σ.has id=F)(h2:A3 σ.bx b=E cs)(h3:cs[j]?=E .nil)(h4:cs.set j (.own id)=cs')
  (H:go P (.ops its::k) Q .normal (E {σ with bx:=put σ.bx b cs',rows:=put σ.rows id (sz,[]) })) (h0:(id / 99999999999==0)=T:=by rfl):go P (.ops ((G,.ownb b j id sz)::its)::k) Q .normal (E σ):=by
 rw[E3n]
 subst h4
 simp only[St.step,h1,h2,h3,h0,zD,Bool.or_self,zB,if_false]
 exact H
theorem D5z{α:Type}{ks:O Y}:erase ([]:O (Y × α)) ks= []:=rfl
theorem D7w{α:Type}{k n:Y}{v:α}{r:O (Y × α)}:erase ((k,v)::r) [n]=bif k==n then erase r [n] else(k,v)::erase r [n]:=by
 by_cases h:k=n
 ·simp[erase,h]
 ·have h':(k==n)=F:=by simpa using h
  simp[erase,h,h']
theorem E6s{ts:O RV}{rs:O R1}{σ:St}:Ret ts rs .ret σ=(OutVs σ ts rs∧A71 (A2q σ ts rs)=T):=rfl
theorem D97{ts:O RV}{rs:O R1}{σ:St}:Ret ts rs .normal σ=(OutVs σ ts rs∧A71 (A2q σ ts rs)=T):=rfl
theorem D38{σ:St}{t:RV}{ts:O RV}{r:R1}{rs:O R1}:OutVs σ (t::ts) (r::rs)=(D2i σ.rows (B3h σ t) r∧OutVs σ ts rs):=rfl
theorem C8o{σ:St}{t:RV}{ts:O RV}{r:R1}{rs:O R1}:A2q σ (t::ts) (r::rs)=C79 (B3h σ t) r++A2q σ ts rs:=rfl
theorem E0m{σ:St}{a n:Y}{g:W}:B3h σ (.c a g n)=(A5i σ g n (σ.get a)).getD .undef:=rfl
def Q8:=Z @E6s (Z @D97 (Z @D38 (Z @C8o @E0m)))
set_option maxRecDepth 4000 in
def E9a:=Z @E68 (Z @E7x (Z @E3z (Z @E9x (Z @E8q (Z @F6v (Z @F0n (Z @D9s (Z @E4l (Z @E7t (Z @E37 (Z @D8n (Z @D8r (Z @C8l (Z @C9y (Z @E8e (Z @D1w (Z @D3z (Z @C97 (Z @B6g (Z @D54 (Z @D78 (Z @D6w (Z @D77 (Z @D6f (Z @D8o (Z @D75 (Z @E56 (Z @D8j (Z @F2s (Z @F5m (Z @E74 (Z @E7k (Z @getD_some (Z @D7m (Z @map_some (Z @map_none (Z @E11 (Z @E8i (Z @E1s (Z @D5t (Z @E4r (Z @E0n (Z @E55 (Z @E4t (Z @E42 (Z @E3e (Z @E5w (Z @E63 (Z @E5c (Z @E6j (Z @E69 (Z @E4z (Z @E7d (Z @E6d (Z @E53 (Z @E5k (Z @E3j (Z @E9j (Z @E4p (Z @F0m (Z @E1a (Z @E6w (Z @F52 (Z @F2m (Z @F6c (Z @E1p (Z @E4o (Z @E58 (Z @F0s (Z @E7o (Z @F8v (Z @E6c (Z @E9s (Z @E47 (Z @D9b (Z @E1y (Z @E0k (Z @E77 (Z @E5e (Z @E7q (Z @D99 (Z @E6l (Z @F60 (Z @F0g (Z @E1n (Z @E71 (Z @C91 (Z @E39 (Z @C9j (Z @C94 (Z @C74 (Z @C4p (Z @D9u (Z @D9e (Z @F1c (Z @E8j (Z @E6e (Z @E6z (Z @C4s (Z @C2v (Z @C9q (Z @C9l (Z @C99 (Z @E0i (Z @D8i (Z @C4n (Z @C9x (Z @C9m (Z @D24 (Z @C9e (Z @E50 (Z @D9g (Z @E0u (Z @E2a (Z @F3p (Z @E60 (Z @D9l (Z @E4h (Z @E6r (Z @E7v (Z @F0e (Z @F74 (Z @E54 (Z @E9p (Z @E4b (Z @D8l (Z @E1u (Z @E1r (Z @E0p (Z @E8r (Z @E4w (Z @E8n (Z @E05 (Z @E6y (Z @F2i (Z @E7y (Z @E73 (Z @E0f (Z @D57 (Z @E40 (Z @F8n (Z @E4j (Z @E0v (Z @E5u (Z @E7g (Z @E9k (Z @E9n (Z @F4s (Z @E3i (Z @E7p (Z @E5p (Z @D9n (Z @D84 (Z @E07 (Z @E0c (Z @E9z (Z @E7i (Z @E8u (Z @E1z (Z @E41 (Z @F1g (Z @E81 (Z @D88 (Z @E2b (Z @F8h (Z @F6d (Z @F6f (Z @E6a (Z @E0s (Z @D8c (Z @D96 (Z @E5i (Z @E5y (Z @D7f (Z @D9a (Z @E8t (Z @F1a (Z @E80 (Z @F10 (Z @F3o (Z @F0t (Z @F6t (Z @D3q (Z @D7q (Z @E89 (Z @E70 (Z @E85 (Z @E9r (Z @E18 (Z @D72 (Z @D9j (Z @E1q (Z @E5b (Z @E3s (Z @E84 (Z @E0y (Z @E5f (Z @E19 (Z @D8a (Z @D6x (Z @D6a (Z @D6h (Z @E43 (Z @E1x (Z @E30 (Z @D7z (Z @D9o (Z @E8k (Z @E64 (Z @E5x (Z @D7o (Z @D2s (Z @D8p (Z @D8t (Z @D7e (Z @D0e (Z @C33 (Z @C3w (Z @C35 (Z @C7i (Z @C87 (Z @D0d (Z @C29 (Z @C8e (Z @C3h (Z @C1d (Z @C0h (Z @C0w (Z @C7s (Z @C3i (Z @C8g (Z @C0y (Z @C4c (Z @D0p (Z @C65 (Z @D7a (Z @D4w (Z @D1k (Z @E4n (Z @E6x (Z @E7w (Z @F3k (Z @G0b (Z @E88 (Z @F5s (Z @E3t (Z @E01 (Z @D7d (Z @E33 (Z @F6i (Z @F50 (Z @D8x (Z @D7b (Z @D7u (Z @F7l (Z @E15 (Z @E0x (Z @E4k (Z @E3w (Z @E0g (Z @D94 (Z @F03 (Z @F0b (Z @E96 (Z @F05 (Z @F0w (Z @F0j (Z @E9e (Z @E9v (Z @F5o (Z @F79 (Z @F8i (Z @F5d (Z @F1w (Z @F1t (Z @F7s (Z @F6k (Z @D5z (Z @D7w (Z @E3p (Z @E4d (Z @E3h (Z @E5q (Z @E4x (Z @E6t (Z @E7c (Z @E7h (Z @E7j (Z @E12 (Z @D69 (Z @D71 (Z @A68 (Z @D30 (Z @get_map (Z @E02 (Z @D85 (Z @E3v (Z @D83 (Z @D8v (Z @D79 (Z @E46 (Z @E5n (Z @E3l (Z @F8o (Z @F19 (Z @D9w (Z @E6q (Z @E66 (Z @E1c (Z @D6q (Z (Z @E62 (Z @E16 (Z @E8p (Z @F0f (Z @D9i @D52))))) (Z @D8h (Z @E3x (Z @E1f (Z @F01 (Z @F1b (Z @E83 (Z @E0b (Z @D21 (Z @E5d (Z @E38 (Z @E3d (Z @E4e (Z @E3y (Z @E48 (Z @E3f (Z @E97 (Z @E8z (Z @E99 (Z @E92 (Z @F21 (Z @E9y (Z @E4f (Z @E4i (Z @E9m (Z @E4v (Z @E8v (Z @F08 (Z @E8w (Z @E4m (Z @E76 (Z @C0p (Z @E28 (Z @C3l (Z @F7y (Z @F31 (Z @F8r (Z @F55 (Z @E8l (Z @E61 (Z @E1d (Z @D5r (Z @E1v (Z @D5x (Z @E0z (Z @D7p (Z @F8g (Z @D7h @E3g))))))))))))))))))))))))))))))))))))))))))))))))))))))))))))))))))))))))))))))))))))))))))))))))))))))))))))))))))))))))))))))))))))))))))))))))))))))))))))))))))))))))))))))))))))))))))))))))))))))))))))))))))))))))))))))))))))))))))))))))))))))))))))))))))))))))))))))))))))))))))))))))))))))))))))))))))))))))))))))))))))))))))))))))))))))))))))))))))))))
theorem D80{env:O (Y × AV)}{bx:O (Y × O AC)}{rows:Rows}{d:Y}{ids:O Y}{R1:H9}{r:D}:St.instX ⟨env,bx,rows⟩ d ids R1 r=⟨put env d (.v (.sc (.dat r))),bx,A7o rows ids R1⟩:=rfl
theorem D53{rs:Rows}{id:Y}{ids:O Y}{r:Y × O (O D)}{R:H9}:A7o rs (id::ids) (r::R)=A7o (put rs id r) ids R:=rfl
theorem D9q{rs:Rows}:A7o rs [] []=rs:=rfl
theorem E87{N:O Y}:AV.avoids N (.v (.sc .z))=T:=by simp[AV.avoids,AV.cells,V1.cells,AC.avoids,AC.uses]
theorem F94{P:Program}{k:O Fr}{Q:Xm→St→Prop}{σ:St}{N:O Y}{d:Y}{its:O P2}:go P (.dops ((E N,G,.zsl d)::its)::k) Q .normal (E σ)=go P (.dops its::k) Q .normal (E (σ.set d (.v (.sc .z)))):=by
 rw[M8 rfl]
 show go P _ Q .normal (bif (((σ.less N).set d (.v (.sc .z))).get d).avoids N then E (σ.set d (((σ.less N).set d (.v (.sc .z))).get d)) else G)=_
 rw[St.get_set_same,E87]
 rfl
theorem E5z{N:O Y}:AV.avoids N (.tup [])=T:=rfl
theorem E79{N:O Y}{x:V1}{l:O V1}:AV.avoids N (.tup (x::l))=((AV.v x).avoids N&&(AV.tup l).avoids N):=by simp[AV.avoids,AV.cells]
theorem E98{t:TypeId}{d:D}:B2t t (.v (.sc (.dat d)))=E (.v (.sc (.dat (.ifc t d)))):=rfl
theorem F0o{t u:TypeId}{zc:AC}{d:D}:B7i t zc (.v (.sc (.dat (.ifc u d))))=bif u==t then E (.tup [.sc (.dat d),.sc (.dat (.bool T))]) else E (.tup [.sc zc,.sc (.dat (.bool F))]):=rfl
theorem F0a{id:Y}{ds:O D}{d:D}:AC.frzb id ds (.dat d)= .dat d:=rfl
theorem E95{id:Y}{ds:O D}:AC.frzb id ds .nil= .nil:=rfl
theorem E75{id:Y}{ds:O D}:AC.frzb id ds .undef= .undef:=rfl
theorem E9i{id i:Y}{ds:O D}:AC.frzb id ds (.own i)= .own i:=rfl
theorem E9f{id i a b:Y}{ds:O D}:AC.frzb id ds (.osub i a b)= .osub i a b:=rfl
theorem E8o{id i a b:Y}{ds:O D}:AC.frzb id ds (.pe i a b)= .pe i a b:=rfl
theorem E82{id i a:Y}{ds:O D}:AC.frzb id ds (.pb i a)=bif i==id then .dat (.pd (ds.drop a)) else .pb i a:=rfl
theorem F71{a b:Y}{d:D}:AC.ren a b (.dat d)= .dat d:=rfl
theorem F2e{a b:Y}:AC.ren a b .nil= .nil:=rfl
theorem F1e{a b:Y}:AC.ren a b .undef= .undef:=rfl
theorem F8s{a b i:Y}:AC.ren a b (.own i)= .own (bif i==a then b else i):=rfl
theorem F2n{a b i x y:Y}:AC.ren a b (.osub i x y)= .osub (bif i==a then b else i) x y:=rfl
theorem F7e{a b i x y:Y}:AC.ren a b (.pe i x y)= .pe (bif i==a then b else i) x y:=rfl
theorem F6a{a b i x:Y}:AC.ren a b (.pb i x)= .pb i x:=rfl
theorem E32{t:TypeId}{a b:D}:B2t t (.v (.ag [.dat a,.dat b]))=E (.v (.sc (.dat (.ifs t [a,b])))):=rfl
def FCq(P:Program)(f:FuncId)(ds:O DV)(rs:O R1):U D→Prop
 | none=>FC P f ds rs
 | some d=>FCp P f ds d
theorem FCq.none{P:Program}{f:FuncId}{ds:O DV}{rs:O R1}{pd:U D}(h:FCq P f ds rs pd)(hp:pd=G):FC P f ds rs:=by subst hp; exact h
theorem FCq.some{P:Program}{f:FuncId}{ds:O DV}{rs:O R1}{pd:U D}{d:D}(h:FCq P f ds rs pd)(hp:pd=E d):FCp P f ds d:=by subst hp; exact h
theorem E90{t:TypeId}{id:Y}:B2t t (.v (.sc (.pb id 0)))=E (.v (.sc (.ipb t id))):=rfl
theorem E9w{id i:Y}{t:TypeId}:AC.kill id (.ipb t i)= .ipb t i:=rfl
theorem F1i{id i:Y}{t:TypeId}{es:O (O D)}:AC.frz id es (.ipb t i)= .ipb t i:=rfl
theorem B37{P:Program}{k:O Fr}{Q:Xm→St→Prop}{σ:St}{its:O AItem}{id:Y}{cs:O AC}{ds:O D}(hf:A3 σ.bx id=E cs)(hd:A7n cs=E ds)(H:go P (.ops its::k) Q .normal (E (({σ with bx:=erase σ.bx [id]}:St).map (AC.frzb id ds))))(h0:(id / 99999999999==0)=T:=by rfl) :
  go P (.ops ((G,.frzb id)::its)::k) Q .normal (E σ):=by
 rw[E4u]
 simp only[St.step,hf,hd,h0,zD,zB,if_false]
 exact H
theorem E8d{g:W}{ks:O FK}{cs ds:O AC}:C2l g ks (.v (.ag cs)) (.v (.ag ds))=(A12 ks cs ds).map fun b=> .v (.sc (.dat (.bool (bif g then !b else b)))):=rfl
theorem F5j:A12 [] [] []=E T:=rfl
theorem F8w{k:IntKind}{x y:V}{ks:O FK}{cs ds:O AC}:A12 (.i::ks) (.dat (.int k x)::cs) (.dat (.int k y)::ds)=(A12 ks cs ds).map fun b=>(x==y)&&b:=if_pos rfl
theorem F3n{x y:W}{ks:O FK}{cs ds:O AC}:A12 (.b::ks) (.dat (.bool x)::cs) (.dat (.bool y)::ds)=(A12 ks cs ds).map fun b=>(x==y)&&b:=rfl
theorem F1n{x y:O UInt8}{ks:O FK}{cs ds:O AC}:A12 (.s::ks) (.dat (.str x)::cs) (.dat (.str y)::ds)=(A12 ks cs ds).map fun b=>(x==y)&&b:=rfl
def F02:=Z @E87 (Z @F94 (Z @E5z (Z @E79 (Z @D80 (Z @D53 (Z @D9q (Z @E6g (Z @E4g (Z @C3x (Z @C3q (Z @E49 (Z @E35 (Z @E1j (Z @E5g (Z @E6o (Z @D87 (Z @E98 (Z @F0o (Z @F0a (Z @E95 (Z @E75 (Z @E9i (Z @E9f (Z @E8o (Z @E82 (Z @E90 (Z @E9w (Z @F1i (Z @F71 (Z @F2e (Z @F1e (Z @F8s (Z @F2n (Z @F7e (Z @F6a (Z @F0x (Z @E7r (Z @C98 (Z @D4d (Z @E32 (Z @C8y (Z @F0d (Z @E9o (Z @E9d (Z @E34 (Z @E8d (Z @F5j (Z @F8w (Z @F3n @F1n)))))))))))))))))))))))))))))))))))))))))))))))))
end Go.Vi
