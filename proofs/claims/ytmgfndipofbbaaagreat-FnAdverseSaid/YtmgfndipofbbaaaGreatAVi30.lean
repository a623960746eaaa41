/-
The value level. No condition.
-/
import Derived.Test.YtmgfndipofbbaaaGreatAVi28
namespace Go.Vi
set_option linter.all false
open And renaming intro → O
open List renaming map → U, mem_singleton → W, replicate → Y
open Nat renaming le_of_ble_eq_true → V, one_pos → Z
open Bool renaming false_eq_true → A, and_self → B, not_true → I, true → T, false → F
open Option renaming some → E, none → G
abbrev S(n:Nat):Opd:= .t n
abbrev K(n:Int):Opd:= .c (.v (.sc (.dat (.int .i64 n))))
abbrev K8(n:Int):Opd:= .c (.v (.sc (.dat (.int .u8 n))))
abbrev KB(b:Bool):Opd:= .c (.v (.sc (.dat (.bool b))))
abbrev KS(s:List UInt8):Opd:= .c (.v (.sc (.dat (.str s))))
abbrev KN:Opd:= .c (.v (.sc .nil))
abbrev aI(n:Int):AC:= .dat (.int .i64 n)
abbrev a8(n:Int):AC:= .dat (.int .u8 n)
abbrev aB(b:Bool):AC:= .dat (.bool b)
abbrev aS(s:List UInt8):AC:= .dat (.str s)
abbrev aL(es:List (List D)):AC:= .dat (.sl es)
abbrev vc(c:AC):AV:= .v (.sc c)
abbrev va(cs:List AC):AV:= .v (.ag cs)
def rI(n:Int):List D:= [.int .i64 n]
def r8(n:Int):List D:= [.int .u8 n]
def rB(b:Bool):List D:= [.bool b]
def rS(s:List UInt8):List D:= [.str s]
def rL{α:Type}(row:α→List D)(xs:List α):List D:= [.sl (xs.map row)]
class Row {α:Type} (row:α→List D) (sz:Nat):Prop where
 len:∀x,(row x).length=sz
 pos:0<sz
instance:Row rI 1:=⟨fun _=>rfl,Z⟩
instance:Row r8 1:=⟨fun _=>rfl,Z⟩
instance:Row rB 1:=⟨fun _=>rfl,Z⟩
instance:Row rS 1:=⟨fun _=>rfl,Z⟩
instance {α:Type} (row:α→List D):Row (rL row) 1:=⟨fun _=>rfl,Z⟩
theorem D9l(n:Int):rI n= [.int .i64 n]:=rfl
def C4m(n:Int):UInt8:=UInt8.ofNat n.toNat
theorem C1g:∀{xs:List Int},A2i (U r8 xs)=E (U C4m xs)
 | []=>rfl
 | n::xs=>by
  show(A2i (U r8 xs)).map _=_
  rw[C1g]
  rfl
theorem F1k(n:Int):r8 n= [.int .u8 n]:=rfl
theorem F05(b:Bool):rB b= [.bool b]:=rfl
theorem E8t(s:List UInt8):rS s= [.str s]:=rfl
theorem F2j{α:Type}(row:α→List D)(xs:List α):rL row xs= [.sl (xs.map row)]:=rfl
theorem C8e{α:Type}{row:α→List D}{sz:Nat}(h:∀x,(row x).length=sz)(xs:List α):(xs.map row).all (fun d=>d.length==sz)=T:=by
 simp[List.all_map,Function.comp_def,h]
@[irreducible] def bigN:Nat:=1208925819614629174706176
def bnd(m h l:Int)(n:Nat):Option (Nat × Nat):=if 0≤l∧l≤h∧h≤m∧m≤n then E (l.toNat,h.toNat) else G
def mkS(l c:Int)(bytes:Nat):Option Nat:=if 0≤l∧l≤c∧c*bytes≤140737488355328∧c≤4611686018427387904 then E l.toNat else G
def D4(n m bytes:Nat):Bool:=decide ((n+m)*bytes≤140737488355328∧n+m≤4611686018427387904)
def B61(n m:Nat):Bool:=decide (n+m≤4611686018427387904)
theorem B8p{α β:Type}{f:α→β}{l:List α}{i:Int}:ix (l.map f) i=(ix l i).map f:=by
 unfold ix
 split<;>simp
theorem P7{α:Type}{l:List α}{i:Int}{x:α}(h:ix l i=E x):l[i.toNat]?=E x:=by
 unfold ix at h
 split at h
 ·exact h
 ·cases h
theorem ob{α β:Type}{o:Option α}{f:α→Option β}{r:β}(h:o.bind f=E r):∃a,o=E a∧f a=E r:=Option.bind_eq_some_iff.1 h
class FlatRow {α:Type} (row:α→List D):Prop where
 flat:∀x,∀d∈row x,d.flat=T
instance:FlatRow rI:=⟨fun _ d h=>by rw[W.1 h]; rfl⟩
instance:FlatRow r8:=⟨fun _ d h=>by rw[W.1 h]; rfl⟩
instance:FlatRow rB:=⟨fun _ d h=>by rw[W.1 h]; rfl⟩
instance:FlatRow rS:=⟨fun _ d h=>by rw[W.1 h]; rfl⟩
def D9o:List RC→Prop
 | []=>True
 | c::cs=>c.flat∧D9o cs
theorem A82{rs:List R1}{cs:List RC}(h:rs.flatMap R1.cells=cs)(hf:D9o cs):A3m rs:=by
 subst h
 unfold A3m
 generalize rs.flatMap R1.cells=l at hf
 induction l with
 | nil=>intro c hc; simp at hc
 | cons a l ih=>
  intro c hc
  rcases List.mem_cons.1 hc with rfl|hc
  ·exact hf.1
  ·exact ih hf.2 c hc
theorem A8v{α:Type}{row:α→List D} [FlatRow row]{sz:Nat}{xs:List α}:RC.flat (.o sz (U row xs)):=by
 intro r hr
 obtain⟨x,_,rfl⟩:=List.mem_map.1 hr
 exact FlatRow.flat x
theorem A90{α:Type}{row:α→List D}{z:α}{zs:List D}{n:Nat}(h:row z=zs):Y n zs=U row (Y n z):=by rw[List.map_replicate,h]
theorem E2{α:Type}{b:Bool}{x:Option α}{r:α}(h:(if b=T then x else G)=E r):b=T∧x=E r:=by
 cases b
 ·rw[if_neg Bool.false_ne_true] at h; cases h
 ·exact⟨rfl,by simpa using h⟩
theorem A0u{α:Type}{b:Bool}{x:Option α}{r:α}(h:(if b=T then G else x)=E r):b=F∧x=E r:=by
 cases b
 ·exact⟨rfl,by simpa using h⟩
 ·rw[if_pos rfl] at h; cases h
theorem ic{α:Type}{b:Bool}{x y:Option α}{r:α}(h:(if b=T then x else y)=E r):(b=T∧x=E r)∨(b=F∧y=E r):=by
 cases b with
 | true=>exact .inl ⟨rfl,h⟩
 | false=>exact .inr ⟨rfl,h⟩
section
variable {P : Program} {k : List Fr} {Q : AExit → St → Prop} {σ : St} {its : List AItem} {ds : List O4} {o : AOp} {d : Nat}
theorem B8{c:ACode}(h:go P (.code c:: .code (.loop c)::k) Q .normal (E σ)):go P (.code (.loop c)::k) Q .normal (E σ):=by
 intro X hX
 refine hX σ (B27 c (fun e σ' h=> ?_) h)
 cases e with
 | normal=>exact h X hX
 | exit id=>exact h
 | ret=>exact h
 | pan d=>exact h
theorem F4k(hm:P.follows .mixedOrders=T){f:FuncId}{c:ACode}{ts:List RV}{nt:Nat}{ds:List DV}{rs:List R1}{σ:St}(he:B0 P f=E (c.strip,ts,nt))(hl:Nat.ble ds.length nt=T)(hσ:St.init ds=σ)
  (h:go P [.code c] (Ret ts rs) .normal (E σ)):FC P f ds rs:=F23 hm he (V hl) fun _=>A4t (hσ▸h)
theorem D3(hm:P.follows .mixedOrders=T){f:FuncId}{c:ACode}{ts:List RV}{nt:Nat}{ds:List DV}{rs:List R1}(he:B0 P f=E (c.strip,ts,nt))(hl:Nat.ble ds.length nt=T)
  (h:go P [.code c] (Ret ts rs) .normal (E (St.init ds))):FC P f ds rs:=F4k hm he hl rfl h
theorem B69{sz:Nat}{es:List (List D)}(hf:σ.fresh d=T):σ.make (.row d sz es)=E {(σ.set d (.v (.sc (.own (d*64))))) with rows:=put σ.rows (d*64) (sz,es)}:=by simp[St.make,hf]
theorem B2x{cs:List AC}(hf:σ.fresh d=T)(hu:cs.all (fun c=> !c.uses d)=T):σ.make (.box d cs)=E {(σ.set d (.v (.sc (.pb d 0)))) with bx:=put σ.bx d cs}:=by simp only[St.make,hf,hu,B,if_true]
theorem C3a{m:Mk}(ho:o.isMade=T)(hm:σ.made o=E m){σ':St}(hs:σ.make m=E σ')(H:go P (.ops its::k) Q .normal (E σ')):go P (.ops ((G,o)::its)::k) Q .normal (E σ):=by
 have hc:o.isCall=F:=by cases o<;>first | rfl | (simp[AOp.isMade] at ho; done)
 rw[N4 hc,E0x ho,hm]
 show go P (.ops its::k) Q .normal (σ.make m)
 rw[hs]
 exact H
theorem B7{X:Opd}{y:V1}(hX:σ.val X= .v y)(hf:σ.fresh d=T)(hu:y.cells.all (fun c=> !c.uses d)=T)(H:go P (.ops its::k) Q .normal (E {(σ.set d (.v (.sc (.pb d 0)))) with bx:=put σ.bx d y.cells })) :
  go P (.ops ((G,.box d X)::its)::k) Q .normal (E σ):=C3a rfl (by simp only[St.made,hX]) (B2x hf hu) H
theorem E0{cs:List AC}(hf:σ.fresh d=T)(hu:cs.all (fun c=> !c.uses d)=T)(H:go P (.ops its::k) Q .normal (E {(σ.set d (.v (.sc (.pb d 0)))) with bx:=put σ.bx d cs })) :
  go P (.ops ((G,.alloc d cs)::its)::k) Q .normal (E σ):=C3a rfl rfl (B2x hf hu) H
theorem D8{sz:Nat}{zs:List D}{len:Nat}{ps:List (Nat × Opd)}{es:List (List D)}(hm:σ.made (.bslice d sz zs len ps)=E (.row d sz es))(hf:σ.fresh d=T)
  (H:go P (.ops its::k) Q .normal (E {(σ.set d (.v (.sc (.own (d*64))))) with rows:=put σ.rows (d*64) (sz,es) })):go P (.ops ((G,.bslice d sz zs len ps)::its)::k) Q .normal (E σ):=C3a rfl hm (B69 hf) H
theorem D42{L C:Opd}{l c:Int}{bytes n sz:Nat}{zs:List D}{es:List (List D)}(hl:asI (σ.val L)=E l)(hc:asI (σ.val C)=E c)(hb:mkS l c bytes=E n)(hz:zs.length=sz)(he:Y n zs=es) :
  σ.made (.mksl d sz bytes zs L C)=E (.row d sz es):=by
 unfold mkS at hb
 split at hb
 ·rename_i h
  cases hb
  subst he
  simp only[St.made,hl,hc]
  rw[if_pos ⟨h.1,h.2.1,h.2.2.1,h.2.2.2,hz⟩]
 ·cases hb
theorem B17{L C:Opd}{l c:Int}{bytes n sz:Nat}{zs:List D}{es:List (List D)}(hl:asI (σ.val L)=E l)(hc:asI (σ.val C)=E c)(hb:mkS l c bytes=E n)(hz:zs.length=sz)(he:Y n zs=es)(hf:σ.fresh d=T)
  (H:go P (.ops its::k) Q .normal (E {(σ.set d (.v (.sc (.own (d*64))))) with rows:=put σ.rows (d*64) (sz,es) })):go P (.ops ((G,.mksl d sz bytes zs L C)::its)::k) Q .normal (E σ):=
 C3a rfl (D42 hl hc hb hz he) (B69 hf) H
theorem C6m{n:Nat}{N:List Nat}{m:Mk}(hm:(σ.less (n::N)).made o=E m)(hv:E6e (n::N) m=T){σ':St}(hs:σ.make m=E σ')(H:go P (.dops ds::k) Q .normal (E σ')) :
  go P (.dops ((E (n::N),G,o)::ds)::k) Q .normal (E σ):=D7o hm hv hs H
theorem A5y{α:Type}{env bx rows}{id sz i off n:Nat}{xs:List α}{row:α→List D}{x y:α}{yv:V1}{dd:List D}(hd:yv.toDs=E dd)(hf:A6 rows id=E (sz,U row xs))
  (hx:xs[i]?=E x) (hn:dd.length=n) (ho:Nat.ble (off+n) (row x).length=T) (hy:B2v (row x) off dd=row y) (H:go P k Q .normal (E ⟨env,bx,put rows id (sz,U row (xs.set i y))⟩)) :
  go P k Q .normal (St.storeV ⟨env,bx,rows⟩ n (.v (.sc (.pe id i off))) (.v yv)):=by
 have e:St.storeV ⟨env,bx,rows⟩ n (.v (.sc (.pe id i off))) (.v yv)=E ⟨env,bx,put rows id (sz,U row (xs.set i y))⟩:=by
  simp only[St.storeV,hf,List.getElem?_map,hx,Option.map_some,hd]
  rw[if_pos ⟨hn,V ho⟩,hy,List.map_set]
 rw[e]
 exact H
end
def A63{α:Type}:Nat→List α→Option (List α)
 | 0,l=>E l
 | _+1,[]=>G
 | n+1,_::l=>A63 n l
def A9j{α:Type}:Nat→List α→Option (List α)
 | 0,_=>E []
 | _+1,[]=>G
 | n+1,c::l=>(A9j n l).map (c:: ·)
def A61{α:Type}:List α→Nat→Bool
 | [],0=>T
 | _::l,n+1=>A61 l n
 | _,_=>F
def A1p{α:Type}:List α→Nat→Bool
 | _,0=>T
 | _::l,n+1=>A1p l n
 | [],_+1=>F
theorem B0k{α:Type}:∀(n:Nat) (l:List α),A63 n l=if n≤l.length then E (l.drop n) else G
 | 0,l=>by simp[A63]
 | n+1,[]=>by simp[A63]
 | n+1,c::l=>by simp[A63,B0k n l]
theorem C4v{α:Type}:∀(n:Nat) (l:List α),A9j n l=if n≤l.length then E (l.take n) else G
 | 0,l=>by simp[A9j]
 | n+1,[]=>by simp[A9j]
 | n+1,c::l=>by simp only[A9j,C4v n l]; split<;>simp_all
theorem B7q{α:Type}:∀(l:List α) (n:Nat),A61 l n=decide (l.length=n)
 | [],0=>by simp[A61]
 | [],n+1=>by simp[A61]
 | _::l,0=>by simp[A61]
 | _::l,n+1=>by simp[A61,B7q l n]
theorem B0h{α:Type}:∀(l:List α) (n:Nat),A1p l n=decide (n≤l.length)
 | [],0=>by simp[A1p]
 | [],n+1=>by simp[A1p]
 | _::l,0=>by simp[A1p]
 | _::l,n+1=>by simp[A1p,B0h l n]
theorem D94{α:Type}{l:List α}:A63 0 l=E l:=by cases l<;>rfl
theorem E18{α:Type}{n:Nat}{c:α}{l:List α}:A63 (n+1) (c::l)=A63 n l:=rfl
theorem E3s{α:Type}{l:List α}:A9j 0 l=E []:=by cases l<;>rfl
theorem E1z{α:Type}{n:Nat}{c:α}{l:List α}:A9j (n+1) (c::l)=(A9j n l).map (c:: ·):=rfl
theorem E3c{α:Type}:A61 ([]:List α) 0=T:=rfl
theorem D93{α:Type}{n:Nat}{c:α}{l:List α}:A61 (c::l) (n+1)=A61 l n:=rfl
theorem E17{α:Type}{l:List α}:A1p l 0=T:=by cases l<;>rfl
theorem E2h{α:Type}{n:Nat}{c:α}{l:List α}:A1p (c::l) (n+1)=A1p l n:=rfl
theorem E2k{cs:List AC}{off n:Nat}:A1k cs off T n=(A63 off cs).bind fun l=>(A9j n l).map fun l=> .v (.ag l):=by
 simp only[A1k,cond_true,B0k,C4v]
 by_cases h:off≤cs.length
 ·rw[if_pos h]
  by_cases h2:off+n≤cs.length
  ·rw[if_pos h2,Option.bind_some,if_pos (by simp; omega)]; rfl
  ·rw[if_neg h2,Option.bind_some,if_neg (by simp; omega)]; rfl
 ·rw[if_neg h,if_neg (by omega)]; rfl
theorem D7z{cs:List AC}:A2c cs 0 []=cs:=by simp[A2c]
theorem D4x{c:AC}{cs ds:List AC}{n:Nat}:A2c (c::cs) (n+1) ds=c::A2c cs n ds:=by
 simp only[A2c,List.take_succ_cons,List.cons_append]
 rw[show n+1+ds.length=(n+ds.length)+1 by omega,List.drop_succ_cons]
theorem D26{c d:AC}{cs ds:List AC}:A2c (c::cs) 0 (d::ds)=d::A2c cs 0 ds:=by simp[A2c]
theorem A6a{α β:Type}{a:α}{f:α→Option β}:(E a).bind f=f a:=rfl
theorem D07{α β:Type}{f:α→Option β}:(G:Option α).bind f=G:=rfl
theorem get_map{α β:Type}{f:α→β}{l:List α}{i:Nat}:(U f l)[i]?=(l[i]?).map f:=List.getElem?_map
theorem D7c{α:Type}{a:α}{l:List α}:(a::l)[0]?=E a:=rfl
theorem D8a{α:Type}{a:α}{l:List α}{n:Nat}:(a::l)[n+1]?=l[n]?:=by simp
theorem E3m:U AC.dat []= []:=rfl
theorem D7w{d:D}{l:List D}:U AC.dat (d::l)= .dat d::U AC.dat l:=rfl
section
variable {P : Program} {k : List Fr} {Q : AExit → St → Prop} {σ : St} {its : List AItem} {env : List (Nat × AV)} {bx : List (Nat × List AC)} {rows : Rows}
theorem D8c{α:Type}{rs:Rows}{sz:Nat}{xs:List α}{row:α→List D} [Row row sz]{kd:IntKind}{i:Int}:A3s rs sz (.v (.sc (.dat (.sl (U row xs))))) (.v (.sc (.dat (.int kd i))))=(ix xs i).map fun x=> .v (.sc (.dat (.pd (row x)))):=by
 simp only[A3s,B8p]
 cases ix xs i with
 | none=>rfl
 | some x=>simp[Row.len (row:=row) (sz:=sz),Row.pos row]
theorem D31{rs:Rows}{sz id:Nat}{kd:IntKind}{i:Int}:A3s rs sz (.v (.sc (.own id))) (.v (.sc (.dat (.int kd i))))=(A6 rs id).bind fun p=>(ix p.2 i).bind fun _=>bif p.1==sz then E (.v (.sc (.pe id i.toNat 0))) else G:=by
 simp only[A3s]
 cases A6 rs id with
 | none=>rfl
 | some p=>
  obtain⟨a,es⟩:=p
  simp only[A6a]
  cases ix es i with
  | none=>rfl
  | some x=>
   by_cases h:a=sz
   ·simp[h]
   ·have h':(a==sz)=F:=by simpa using h
    simp[h,h']
theorem E1x{g:Bool}{n id off:Nat}:A1s ⟨env,bx,rows⟩ g n (.v (.sc (.pb id off)))=(A6 bx id).bind fun cs=>A1k cs off g n:=by
 show(match A6 bx id with | some cs=>_ | none=>G)=_
 cases A6 bx id<;>rfl
theorem E10{g:Bool}{n id i off:Nat}:A1s ⟨env,bx,rows⟩ g n (.v (.sc (.pe id i off)))=(A6 rows id).bind fun p=>(p.2[i]?).bind fun d=>A1k (U AC.dat d) off g n:=by
 simp only[A1s]
 cases A6 rows id with
 | none=>rfl
 | some p=>
  simp only[A6a]
  cases p.2[i]?<;>rfl
theorem E3h{g:Bool}{n:Nat}{cs:List D}:A1s σ g n (.v (.sc (.dat (.pd cs))))=A1k (U AC.dat cs) 0 g n:=rfl
theorem E7o{rs:Rows}{off id i o:Nat}:A1i rs off (.v (.sc (.pe id i o)))=(A6 rs id).map fun _=> .v (.sc (.pe id i (o+off))):=by
 simp only[A1i]
 cases A6 rs id<;>rfl
theorem F4o{rs:Rows}{off:Nat}{cs:List D}:A1i rs off (.v (.sc (.dat (.pd cs))))=(A63 off cs).map fun cs=> .v (.sc (.dat (.pd cs))):=by
 simp only[A1i,B0k]
 split<;>rfl
theorem D6d{l:List V1}{i:Nat}:B5d i (.tup l)=(l[i]?).map .v:=rfl
theorem E1t{id off:Nat}:A9l (.v (.sc (.pb id off)))=E (.v (.sc (.pb id off))):=rfl
theorem E0a{cs:List D}:A9l (.v (.sc (.dat (.pd cs))))=E (.v (.sc (.dat (.pd cs)))):=rfl
theorem D5b:U (St.val σ) []= []:=rfl
theorem D4m{x:Opd}{l:List Opd}:U (St.val σ) (x::l)=σ.val x::U (St.val σ) l:=rfl
theorem E3b{f:FuncId}:A98 f []=E []:=rfl
theorem D8q{f:FuncId}{id:Nat}{r:List AV}:A98 f (.v (.sc (.pb id 0))::r)=(A98 f r).map (id:: ·):=rfl
def C9b(K:List AC→Option (List AC))(off n:Nat)(cs:List AC):AV→Option (List AC)
 | .v x=>bif A61 x.cells n&&A1p cs (off+n) then K (A2c cs off x.cells) else G
 | _=>G
def B4t(σ:St):List (Nat × Nat × Opd)→List AC→Option (List AC)
 | [],cs=>E cs
 | (off,n,x)::r,cs=>C9b (B4t σ r) off n cs (σ.val x)
theorem B9v:∀(ps:List (Nat × Nat × Opd)) (cs:List AC),A51 cs (ps.map fun p=>(p.1,p.2.1,σ.val p.2.2))=B4t σ ps cs
 | [],cs=>rfl
 | (off,n,x)::r,cs=>by
  simp only[List.map_cons,B4t]
  generalize σ.val x=v
  cases v with
  | v y=>
   simp only[A51,C9b,B7q,B0h]
   by_cases h1:y.cells.length=n
   ·by_cases h2:off+n≤cs.length
    ·subst h1
     simp only[h2,and_self,if_true,decide_true,B,cond_true]
     exact B9v r _
    ·simp[h1,h2]
   ·simp[h1]
  | _=>rfl
theorem E0l{cs:List AC}:B4t σ [] cs=E cs:=rfl
theorem D8r{off n:Nat}{x:Opd}{r:List (Nat × Nat × Opd)}{cs:List AC}:B4t σ ((off,n,x)::r) cs=C9b (B4t σ r) off n cs (σ.val x):=rfl
theorem E5m{K:List AC→Option (List AC)}{off n:Nat}{cs:List AC}{x:V1}:C9b K off n cs (.v x)=bif A61 x.cells n&&A1p cs (off+n) then K (A2c cs off x.cells) else G:=rfl
theorem E5w{d zs ps}:go P (.ops ((G,.build d zs ps)::its)::k) Q .normal (E σ)=go P (.ops its::k) Q .normal (I9 σ d ((B4t σ ps zs).map fun cs=> .v (.ag cs))):=by rw[D8e,B9v]
theorem E3u{d zs ps}:σ.step (.build d zs ps)=I9 σ d ((B4t σ ps zs).map fun cs=> .v (.ag cs)):=by rw[B7x,B9v]
theorem D5x{n id off:Nat}{y:V1}:St.storeV ⟨env,bx,rows⟩ n (.v (.sc (.pb id off))) (.v y)=(A6 bx id).bind fun cs=>bif A61 y.cells n&&A1p cs (off+n) then E ⟨env,put bx id (A2c cs off y.cells),rows⟩ else G:=by
 simp only[St.storeV,B7q,B0h]
 cases A6 bx id with
 | none=>rfl
 | some cs=>
  simp only[A6a]
  by_cases h1:y.cells.length=n
  ·by_cases h2:off+n≤cs.length
   ·simp[h1,h2]
   ·simp[h1,h2]
  ·simp[h1]
def B8m(sz:Nat)(es:List (List D)):Bool:=es.all fun r=>r.length==sz
theorem C9r{α:Type}{sz:Nat}{row:α→List D} [Row row sz]{xs:List α}:B8m sz (U row xs)=T:=C8e (Row.len (row:=row)) xs
theorem E0b{d sz bytes id:Nat}{y:AV}:St.appV ⟨env,bx,rows⟩ d sz bytes (.v (.sc (.own id))) y=bif id / 99999999999==0 then((A6 rows id).bind fun p=>(appSrc rows y).bind fun es'=>
  bif (p.1==sz)&&(B8m sz es'&&D4 p.2.length es'.length bytes) then E ⟨put (env.map fun p=>(p.1,p.2.map (AC.kill id))) d (.v (.sc (.own id))),bx.map fun p=>(p.1,p.2.map (AC.kill id)),put rows id (sz,p.2++es')⟩ else G) else G:=by
 simp only[St.appV]
 by_cases h0:id / 99999999999=0
 rotate_left
 ·rw[if_neg h0,show(id / 99999999999==0)=F by simpa using h0]
  rfl
 rw[if_pos h0,show(id / 99999999999==0)=T by simpa using h0,cond_true]
 cases A6 rows id with
 | none=>rfl
 | some p=>
  obtain⟨a,es⟩:=p
  simp only[A6a]
  cases appSrc rows y with
  | none=>rfl
  | some es'=>
   simp only[A6a]
   by_cases h1:a=sz
   ·by_cases h2:B8m sz es'=T
    ·by_cases h3:D4 es.length es'.length bytes=T
     ·have h3':=of_decide_eq_true h3
      rw[if_pos ⟨h1,h2,h3'.1,h3'.2⟩]
      simp only[h1,beq_self_eq_true,h2,h3,B,cond_true]
      rfl
     ·have h3':D4 es.length es'.length bytes=F:=by simpa using h3
      rw[if_neg (fun h=>h3 (decide_eq_true ⟨h.2.2.1,h.2.2.2⟩))]
      simp[h3']
    ·have h2':B8m sz es'=F:=by simpa using h2
     rw[if_neg (fun h=>h2 h.2.1)]
     simp[h2']
   ·have h1':(a==sz)=F:=by simpa using h1
    rw[if_neg (fun h=>h1 h.1)]
    simp[h1']
theorem E11{rs:Rows}{es:List (List D)}:appSrc rs (.v (.sc (.dat (.sl es))))=E es:=rfl
theorem E12{rs:Rows}:appSrc rs (.v (.sc .nil))=E []:=rfl
theorem E1d{rs:Rows}{id:Nat}:appSrc rs (.v (.sc (.own id)))=(A6 rs id).map fun p=>p.2:=by
 simp only[appSrc,toD0]
 cases A6 rs id<;>rfl
theorem E2w{α:Type}{f:α→List D}{a b:List α}:U f a++U f b=U f (a++b):=List.map_append.symm
def B1t(σ:St)(n:Nat):Option Opd→Option Int
 | none=>E n
 | some x=>asI (σ.val x)
def B7m(n:Nat):Option Int→Option Int→Option Int→Option (Nat × Nat)
 | some m,E h,E l=>bnd m h l n
 | _,_,_=>G
theorem B9t{lo hi mx:Option Opd}{n:Nat}:B0v σ lo hi mx n=B7m n (B1t σ n mx) (B1t σ n hi) (match lo with | none=>E 0 | some x=>asI (σ.val x)):=by
 cases mx<;>cases hi<;>cases lo<;>(simp only[B0v,B7m,B1t]; first | rfl | (split<;>simp_all[B7m,bnd]))
def C5v(σ:St):Option Opd→Option Int
 | none=>E 0
 | some x=>asI (σ.val x)
theorem E3o{α:Type}{sz:Nat}{lo hi mx:Option Opd}{xs:List α}{row:α→List D} [Row row sz]:B0n σ sz (.v (.sc (.dat (.sl (U row xs))))) lo hi mx=(B7m xs.length (B1t σ xs.length mx) (B1t σ xs.length hi) (C5v σ lo)).map fun p=> .v (.sc (.dat (.sl (U row ((xs.drop p.1).take (p.2 - p.1)))))):=by
 have h:(U row xs).all (fun d=>d.length==sz)=T:=C8e (Row.len (row:=row)) xs
 simp only[B0n,h,Row.pos row (sz:=sz),decide_true,B,if_true,List.length_map,B9t]
 cases lo<;>simp[C5v,List.map_drop,List.map_take]
theorem E2j{lo hi:Option Opd}{s:List UInt8}:B06 σ (.v (.sc (.dat (.str s)))) lo hi=(B7m s.length (B1t σ s.length G) (B1t σ s.length hi) (C5v σ lo)).map fun p=> .v (.sc (.dat (.str ((s.drop p.1).take (p.2 - p.1))))):=by
 simp only[B06,B9t]
 cases lo<;>rfl
theorem E5b{n:Nat}:B1t σ n G=E (n:Int):=rfl
theorem E5v{n:Nat}{x:Opd}:B1t σ n (E x)=asI (σ.val x):=rfl
theorem E37:C5v σ G=E 0:=rfl
theorem E34{x:Opd}:C5v σ (E x)=asI (σ.val x):=rfl
theorem F2g{kd:IntKind}{i:Int}:asI (.v (.sc (.dat (.int kd i))))=E i:=rfl
theorem E45{n:Nat}{m h l:Int}:B7m n (E m) (E h) (E l)=bnd m h l n:=rfl
theorem E23{x y:List UInt8}:B37 .add x y=bif B61 x.length y.length then E (.str (x++y)) else G:=by
 simp only[B37,B61]
 by_cases h:x.length+y.length≤4611686018427387904
 ·simp[h]
 ·simp[h]
theorem E3j{k:IntKind}{x y:Int}:M5 .and k x y=E (.int k (K0 .and k x y)):=rfl
theorem E30{k:IntKind}{x y:Int}:M5 .or k x y=E (.int k (K0 .or k x y)):=rfl
theorem E2o{k:IntKind}{x y:Int}:M5 .xor k x y=E (.int k (K0 .xor k x y)):=rfl
theorem E6b:(T==T)=T:=rfl
theorem E6g:(T==F)=F:=rfl
theorem E47:(F==T)=F:=rfl
theorem D9v:(F==F)=T:=rfl
theorem E5j{b:Bool}:(F&&b)=F:=rfl
end
def D88{α:Type}(k:Nat):Option α→List (Nat × α)→List (Nat × α)
 | some v,r=>(k,v)::r
 | none,r=>r
theorem D4q{α:Type}{l:List (Nat × α)}:A3b l []= []:=rfl
theorem C81{α:Type}{l:List (Nat × α)}{k:Nat}{ks:List Nat}:A3b l (k::ks)=D88 k (A6 l k) (A3b l ks):=by
 show(match A6 l k with | some v=>_ | none=>_)=_
 cases A6 l k<;>rfl
theorem D14{α:Type}{k:Nat}{v:α}{r:List (Nat × α)}:D88 k (E v) r=(k,v)::r:=rfl
theorem E0m{env bx rows ks bs rs}:(St.mk env bx rows).kept ks bs rs=⟨A3b env ks,A3b bx bs,A3b rows rs⟩:=rfl
theorem E0g{P:Program}{k:List Fr}{Q:AExit→St→Prop}{σ:St}{its:List AItem}{ks bs rs:List Nat}:go P (.ops ((G,.keep ks bs rs)::its)::k) Q .normal (E σ)=go P (.ops its::k) Q .normal (E (σ.kept ks bs rs)):=N4 rfl
theorem E44{b:Bool}{x y:AV}:B5k (.v (.sc (.dat (.bool b)))) x y=E (bif b then x else y):=rfl
theorem F1a{g x y:Bool}:C0b g (.v (.sc (.dat (.bool x)))) (.v (.sc (.dat (.bool y))))=E (.v (.sc (.dat (.bool (bif g then !(x==y) else x==y))))):=rfl
theorem F5y{m:Bool}{k:IntKind}{x y:Int}:mmV m (.v (.sc (.dat (.int k x)))) (.v (.sc (.dat (.int k y))))=E (.v (.sc (.dat (.int k (bif m then(if x<y then y else x) else(if y<x then y else x)))))):=by simp[mmV]
theorem E7c{k:IntKind}{x:Int}:unV .neg (.v (.sc (.dat (.int k x))))=E (.v (.sc (.dat (.int k (k.wrap (0 - x)))))):=rfl
theorem F3f{rs:Rows}{off id o:Nat}:A1i rs off (.v (.sc (.pb id o)))=E (.v (.sc (.pb id (o+off)))):=rfl
theorem E1s{rs:Rows}{id:Nat}:B0t rs (.v (.sc (.own id)))=(A6 rs id).map fun p=> .v (.sc (.dat (.int .i64 p.2.length))):=by
 show(match A6 rs id with | some (_,es)=>_ | none=>_)=_
 cases A6 rs id<;>rfl
theorem D44{k:Nat}:A58 k []= []:=rfl
theorem D2x{k:Nat}{d:DV}{ds:List DV}:A58 k (d::ds)=(k,d.av)::A58 (k+1) ds:=rfl
theorem E2b{ds:List DV}:St.init ds=⟨A58 0 ds,[],[]⟩:=rfl
theorem E9j{d:D}:DV.av (.sc d)= .v (.sc (.dat d)):=rfl
theorem F0i{ds:List D}:DV.av (.ag ds)= .v (.ag (ds.map .dat)):=rfl
theorem E67{f:AC→AC}:U (V1.map f) []= []:=rfl
theorem E3a{f:AC→AC}{x:V1}{l:List V1}:U (V1.map f) (x::l)=x.map f::U (V1.map f) l:=rfl
theorem D8j{f:AC→AC}:U (fun p:Nat × AV=>(p.1,p.2.map f)) []= []:=rfl
theorem D3l{f:AC→AC}{k:Nat}{v:AV}{l:List (Nat × AV)}:U (fun p:Nat × AV=>(p.1,p.2.map f)) ((k,v)::l)=(k,v.map f)::U (fun p:Nat × AV=>(p.1,p.2.map f)) l:=rfl
theorem D76{f:AC→AC}:U (fun p:Nat × List AC=>(p.1,p.2.map f)) []= []:=rfl
theorem D22{f:AC→AC}{k:Nat}{v:List AC}{l:List (Nat × List AC)}:U (fun p:Nat × List AC=>(p.1,p.2.map f)) ((k,v)::l)=(k,v.map f)::U (fun p:Nat × List AC=>(p.1,p.2.map f)) l:=rfl
theorem D7v{f:AC→AC}:U f ([]:List AC)= []:=rfl
theorem D38{f:AC→AC}{c:AC}{l:List AC}:U f (c::l)=f c::U f l:=rfl
theorem D6j{α β:Type}{f:α→β}{l:List α}:(U f l).length=l.length:=List.length_map ..
theorem D4z{c:AC}:V1.cells (.sc c)= [c]:=rfl
theorem D2n{cs:List AC}:V1.cells (.ag cs)=cs:=rfl
theorem E8l{f:AC→AC}{env bx rows}:(St.mk env bx rows).map f=⟨env.map fun p=>(p.1,p.2.map f),bx.map fun p=>(p.1,p.2.map f),rows⟩:=rfl
theorem D7k{f:AC→AC}{c:AC}:AV.map f (.v (.sc c))= .v (.sc (f c)):=rfl
theorem D7t{f:AC→AC}{cs:List AC}:AV.map f (.v (.ag cs))= .v (.ag (cs.map f)):=rfl
theorem E0c{f:AC→AC}:AV.map f .undef= .undef:=rfl
theorem E1y{f:AC→AC}:AV.map f .no= .no:=rfl
theorem E1p{f:AC→AC}{l:List V1}:AV.map f (.tup l)= .tup (l.map (V1.map f)):=rfl
theorem D6n{f:AC→AC}{c:AC}:V1.map f (.sc c)= .sc (f c):=rfl
theorem D7n{f:AC→AC}{cs:List AC}:V1.map f (.ag cs)= .ag (cs.map f):=rfl
theorem E61{id:Nat}{d:D}:AC.kill id (.dat d)= .dat d:=rfl
theorem E65{id:Nat}:AC.kill id .nil= .nil:=rfl
theorem E4m{id:Nat}:AC.kill id .undef= .undef:=rfl
theorem E6a{id i:Nat}:AC.kill id (.own i)=bif i==id then .undef else .own i:=rfl
theorem E68{id i a b:Nat}:AC.kill id (.osub i a b)=bif i==id then .undef else .osub i a b:=rfl
theorem E4j{id i a b:Nat}:AC.kill id (.pe i a b)=bif i==id then .undef else .pe i a b:=rfl
theorem E49{id i a:Nat}:AC.kill id (.pb i a)= .pb i a:=rfl
theorem E5h{id f:Nat}{is:List Nat}:AC.kill id (.clo f is)= .clo f is:=rfl
theorem F1r{id:Nat}{es:List (List D)}{d:D}:AC.frz id es (.dat d)= .dat d:=rfl
theorem E9z{id:Nat}{es:List (List D)}:AC.frz id es .nil= .nil:=rfl
theorem F2s{id:Nat}{es:List (List D)}:AC.frz id es .undef= .undef:=rfl
theorem F1g{id i:Nat}{es:List (List D)}:AC.frz id es (.own i)=bif i==id then .dat (.sl es) else .own i:=rfl
theorem F01{id i a b:Nat}{es:List (List D)}:AC.frz id es (.osub i a b)=bif i==id then .undef else .osub i a b:=rfl
theorem F26{id i a b:Nat}{es:List (List D)}:AC.frz id es (.pe i a b)=bif i==id then .undef else .pe i a b:=rfl
theorem E7v{id i a:Nat}{es:List (List D)}:AC.frz id es (.pb i a)= .pb i a:=rfl
theorem F0k{id f:Nat}{es:List (List D)}{is:List Nat}:AC.frz id es (.clo f is)= .clo f is:=rfl
theorem U4{P:Program}{k:List Fr}{Q:AExit→St→Prop}{σ:St}{its:List AItem}{id sz:Nat}{es:List (List D)}(hf:A6 σ.rows id=E (sz,es))(H:go P (.ops its::k) Q .normal (E {(σ.map (AC.frz id es)) with rows:=erase σ.rows [id] }))(h0:(id / 99999999999==0)=T:=by rfl) :
  go P (.ops ((G,.frz id)::its)::k) Q .normal (E σ):=by
 rw[E4w]
 simp only[St.step,hf,h0,I,A,if_false]
 exact H
theorem A30{P:Program}{k:List Fr}{Q:AExit→St→Prop}{σ:St}{its:List AItem}{b j id sz:Nat}{cs cs':List AC}(h1:σ.has id=F)(h2:A6 σ.bx b=E cs)(h3:cs[j]?=E .nil)(h4:cs.set j (.own id)=cs')
  (H:go P (.ops its::k) Q .normal (E {σ with bx:=put σ.bx b cs',rows:=put σ.rows id (sz,[]) })) (h0:(id / 99999999999==0)=T:=by rfl):go P (.ops ((G,.ownb b j id sz)::its)::k) Q .normal (E σ):=by
 rw[E2v]
 subst h4
 simp only[St.step,h1,h2,h3,h0,I,Bool.or_self,A,if_false]
 exact H
theorem D3w{α:Type}{ks:List Nat}:erase ([]:List (Nat × α)) ks= []:=rfl
theorem D2e{α:Type}{k n:Nat}{v:α}{r:List (Nat × α)}:erase ((k,v)::r) [n]=bif k==n then erase r [n] else(k,v)::erase r [n]:=by
 by_cases h:k=n
 ·simp[erase,h]
 ·have h':(k==n)=F:=by simpa using h
  simp[erase,h,h']
theorem D98{ts:List RV}{rs:List R1}{σ:St}:Ret ts rs .ret σ=(OutVs σ ts rs∧A6m (A2l σ ts rs)=T):=rfl
theorem D7l{ts:List RV}{rs:List R1}{σ:St}:Ret ts rs .normal σ=(OutVs σ ts rs∧A6m (A2l σ ts rs)=T):=rfl
theorem C87{σ:St}{t:RV}{ts:List RV}{r:R1}{rs:List R1}:OutVs σ (t::ts) (r::rs)=(D1h σ.rows (A81 σ t) r∧OutVs σ ts rs):=rfl
theorem C5u{σ:St}{t:RV}{ts:List RV}{r:R1}{rs:List R1}:A2l σ (t::ts) (r::rs)=C50 (A81 σ t) r++A2l σ ts rs:=rfl
theorem D6s{σ:St}{a n:Nat}{g:Bool}:A81 σ (.c a g n)=(A1s σ g n (σ.get a)).getD .undef:=rfl
def W9:=O @D98 (O @D7l (O @C87 (O @C5u @D6s)))
set_option maxRecDepth 4000 in
def E36:=O @E00 (O @E3x (O @E1w (O @E5z (O @E35 (O @F0b (O @E5l (O @D5g (O @E0y (O @E4q (O @E0r (O @D6y (O @D5m (O @C5w (O @C6y (O @E57 (O @D1g (O @D1q (O @C7a (O @C03 (O @D3d (O @D39 (O @D3p (O @D30 (O @D4g (O @D7s (O @D4p (O @E19 (O @D8h (O @E8h (O @F14 (O @E4v (O @E4a (O @getD_some (O @D3e (O @map_some (O @map_none (O @D59 (O @E4x (O @D5a (O @D3m (O @D92 (O @D8o (O @E1c (O @E1e (O @E09 (O @E0w (O @D95 (O @E1o (O @E15 (O @E2e (O @E07 (O @E2x (O @E3l (O @E1u (O @D90 (O @E2z (O @E3f (O @E5i (O @D9s (O @E6x (O @D48 (O @E20 (O @E9w (O @E7x (O @F4a (O @D5k (O @E1b (O @E2m (O @E6c (O @E4h (O @E9v (O @E25 (O @E6w (O @E1j (O @D46 (O @D5l (O @D74 (O @E5s (O @E0v (O @E7i (O @D7q (O @D9r (O @F2b (O @E4s (O @D79 (O @E6o (O @C6t (O @D97 (O @C6x (O @C61 (O @C5h (O @C2a (O @D6a (O @D70 (O @E4e (O @E5p (O @E03 (O @E1v (O @C19 (O @C0f (O @C67 (O @C7l (O @C6s (O @D8n (O @D60 (O @C2i (O @C62 (O @C6z (O @C9x (O @C7g (O @E1q (O @D73 (O @D5q (O @D53 (O @F3k (O @E28 (O @D6c (O @D9z (O @E24 (O @E6m (O @E64 (O @F3s (O @E3r (O @E4y (O @E1g (O @D7x (O @D62 (O @D8f (O @D8l (O @E7g (O @E0z (O @E51 (O @D41 (O @E2i (O @F18 (O @E5u (O @E7k (O @D7y (O @D4d (O @D9q (O @E9p (O @E08 (O @D71 (O @E2r (O @E2t (O @E4o (O @E3y (O @F2u (O @E0s (O @E4g (O @E06 (O @D5n (O @D49 (O @D5y (O @D66 (O @E7b (O @E0e (O @E3w (O @D8m (O @E1m (O @E9q (O @E3v (O @D5u (O @D6h (O @E83 (O @E8k (O @E9s (O @E1n (O @D5r (O @D3f (O @D6x (O @E2l (O @E0h (O @D4r (O @D5p (O @E6q (O @E41 (O @E53 (O @F2f (O @E8a (O @E5t (O @F3z (O @C93 (O @D4n (O @E6z (O @E6l (O @E58 (O @E4u (O @D5f (O @D3b (O @D77 (O @D51 (O @E1h (O @E0o (O @E6r (O @D7j (O @E3n (O @D55 (O @D2u (O @D2v (O @D3v (O @D2l (O @E0u (O @D7d (O @E0t (O @D3h (O @D5c (O @E6i (O @D9w (O @E1k (O @D20 (O @C8t (O @D7b (O @D6g (O @D3y (O @C7y (O @C0y (O @C02 (O @C1l (O @C5t (O @C5o (O @C8h (O @C0w (O @C5f (O @C1k (O @B88 (O @B71 (O @B9a (O @C4s (O @C1p (O @C57 (O @B8k (O @C0z (O @C7n (O @C6o (O @D4q (O @C81 (O @D14 (O @E0m (O @E0g (O @E44 (O @F1a (O @F5y (O @E7c (O @F3f (O @E1s (O @D44 (O @D2x (O @E2b (O @E9j (O @F0i (O @D6j (O @D4z (O @D2n (O @E8l (O @D7k (O @D7t (O @E0c (O @E1p (O @D6n (O @D7n (O @E61 (O @E65 (O @E4m (O @E6a (O @E68 (O @E4j (O @E49 (O @E5h (O @F1r (O @E9z (O @F2s (O @F1g (O @F01 (O @F26 (O @E7v (O @F0k (O @D3w (O @D2e (O @D94 (O @E18 (O @E3s (O @E1z (O @E3c (O @D93 (O @E17 (O @E2h (O @E2k (O @D7z (O @D4x (O @D26 (O @A6a (O @D07 (O @get_map (O @D7c (O @D8a (O @E3m (O @D7w (O @D8c (O @D31 (O @E1x (O @E10 (O @E3h (O @E7o (O @F4o (O @D6d (O @E1t (O @E0a (O @D5b (O @D4m (O @E3b (O @D8q (O @E0l (O @D8r (O @E5m (O @E5w (O @E3u (O @D5x (O @C9r (O @E0b (O @E11 (O @E12 (O @E1d (O @E2w (O @E3o (O @E2j (O @E5b (O @E5v (O @E37 (O @E34 (O @F2g (O @E45 (O @E23 (O @E3j (O @E30 (O @E2o (O @E6b (O @E6g (O @E47 (O @D9v (O @E5j (O @B8p (O @D9l (O @C1g (O @F1k (O @F05 (O @E8t (O @F2j (O @E67 (O @E3a (O @D8j (O @D3l (O @D76 (O @D22 (O @D7v (O @D38 (O @E8n (O @D27 @E1y))))))))))))))))))))))))))))))))))))))))))))))))))))))))))))))))))))))))))))))))))))))))))))))))))))))))))))))))))))))))))))))))))))))))))))))))))))))))))))))))))))))))))))))))))))))))))))))))))))))))))))))))))))))))))))))))))))))))))))))))))))))))))))))))))))))))))))))))))))))))))))))))))))))))))))))))))))))))))))))))))))))))))))))))))))))))))))))))))))))
theorem D50{env:List (Nat × AV)}{bx:List (Nat × List AC)}{rows:Rows}{d:Nat}{ids:List Nat}{R1:I1}{r:D}:St.instX ⟨env,bx,rows⟩ d ids R1 r=⟨put env d (.v (.sc (.dat r))),bx,A6k rows ids R1⟩:=rfl
theorem D28{rs:Rows}{id:Nat}{ids:List Nat}{r:Nat × List (List D)}{R:I1}:A6k rs (id::ids) (r::R)=A6k (put rs id r) ids R:=rfl
theorem D6b{rs:Rows}:A6k rs [] []=rs:=rfl
theorem E60{N:List Nat}:AV.avoids N (.v (.sc .z))=T:=by simp[AV.avoids,AV.cells,V1.cells,AC.avoids,AC.uses]
theorem F5b{P:Program}{k:List Fr}{Q:AExit→St→Prop}{σ:St}{N:List Nat}{d:Nat}{its:List O4}:go P (.dops ((E N,G,.zsl d)::its)::k) Q .normal (E σ)=go P (.dops its::k) Q .normal (E (σ.set d (.v (.sc .z)))):=by
 rw[L9 rfl]
 show go P _ Q .normal (bif (((σ.less N).set d (.v (.sc .z))).get d).avoids N then E (σ.set d (((σ.less N).set d (.v (.sc .z))).get d)) else G)=_
 rw[St.get_set_same,E60]
 rfl
theorem E2d{N:List Nat}:AV.avoids N (.tup [])=T:=rfl
theorem E59{N:List Nat}{x:V1}{l:List V1}:AV.avoids N (.tup (x::l))=((AV.v x).avoids N&&(AV.tup l).avoids N):=by simp[AV.avoids,AV.cells]
theorem E7e{t:TypeId}{d:D}:B1l t (.v (.sc (.dat d)))=E (.v (.sc (.dat (.ifc t d)))):=rfl
theorem E6h{t u:TypeId}{zc:AC}{d:D}:B5r t zc (.v (.sc (.dat (.ifc u d))))=bif u==t then E (.tup [.sc (.dat d),.sc (.dat (.bool T))]) else E (.tup [.sc zc,.sc (.dat (.bool F))]):=rfl
theorem E5f{id:Nat}{ds:List D}{d:D}:AC.frzb id ds (.dat d)= .dat d:=rfl
theorem E40{id:Nat}{ds:List D}:AC.frzb id ds .nil= .nil:=rfl
theorem E5x{id:Nat}{ds:List D}:AC.frzb id ds .undef= .undef:=rfl
theorem E6y{id i:Nat}{ds:List D}:AC.frzb id ds (.own i)= .own i:=rfl
theorem E7f{id i a b:Nat}{ds:List D}:AC.frzb id ds (.osub i a b)= .osub i a b:=rfl
theorem E4i{id i a b:Nat}{ds:List D}:AC.frzb id ds (.pe i a b)= .pe i a b:=rfl
theorem E5g{id i a:Nat}{ds:List D}:AC.frzb id ds (.pb i a)=bif i==id then .dat (.pd (ds.drop a)) else .pb i a:=rfl
theorem F4p{a b:Nat}{d:D}:AC.ren a b (.dat d)= .dat d:=rfl
theorem F1l{a b:Nat}:AC.ren a b .nil= .nil:=rfl
theorem E93{a b:Nat}:AC.ren a b .undef= .undef:=rfl
theorem F21{a b i:Nat}:AC.ren a b (.own i)= .own (bif i==a then b else i):=rfl
theorem F2v{a b i x y:Nat}:AC.ren a b (.osub i x y)= .osub (bif i==a then b else i) x y:=rfl
theorem E77{a b i x y:Nat}:AC.ren a b (.pe i x y)= .pe (bif i==a then b else i) x y:=rfl
theorem E8y{a b i x:Nat}:AC.ren a b (.pb i x)= .pb i x:=rfl
theorem E22{t:TypeId}{a b:D}:B1l t (.v (.ag [.dat a,.dat b]))=E (.v (.sc (.dat (.ifs t [a,b])))):=rfl
def FCq(P:Program)(f:FuncId)(ds:List DV)(rs:List R1):Option D→Prop
 | none=>FC P f ds rs
 | some d=>FCp P f ds d
theorem E63{P:Program}(hm:P.follows .mixedOrders=T){f nt:Nat}{c:ACode}{ts:List RV}{xs:List DV}{rs:List R1}{pd:Option D}{σ:St}(he:B0 P f=E (c.strip,ts,nt))(hl:Nat.ble xs.length nt=T)(hσ:St.init xs=σ)
  (h:go P [.code c] (D1r ts rs pd) .normal (E σ)):FCq P f xs rs pd:=by
 cases pd with
 | none=>exact D89 hm he (V hl) (B27 c (fun e σ h=>by cases e<;>first | exact h | exact h.elim) (hσ▸A4t h))
 | some d=>exact E6k hm he (V hl) (hσ▸A4t h)
theorem FCq.none{P:Program}{f:FuncId}{ds:List DV}{rs:List R1}{pd:Option D}(h:FCq P f ds rs pd)(hp:pd=G):FC P f ds rs:=by subst hp; exact h
theorem FCq.some{P:Program}{f:FuncId}{ds:List DV}{rs:List R1}{pd:Option D}{d:D}(h:FCq P f ds rs pd)(hp:pd=E d):FCp P f ds d:=by subst hp; exact h
theorem E3z{t:TypeId}{id:Nat}:B1l t (.v (.sc (.pb id 0)))=E (.v (.sc (.ipb t id))):=rfl
theorem E6f{id i:Nat}{t:TypeId}:AC.kill id (.ipb t i)= .ipb t i:=rfl
theorem E8j{id i:Nat}{t:TypeId}{es:List (List D)}:AC.frz id es (.ipb t i)= .ipb t i:=rfl
theorem D7a{P:Program}{k:List Fr}{Q:AExit→St→Prop}{σ:St}{its:List AItem}{id:Nat}{cs:List AC}{ds:List D}(hf:A6 σ.bx id=E cs)(hd:A68 cs=E ds)(H:go P (.ops its::k) Q .normal (E (({σ with bx:=erase σ.bx [id]}:St).map (AC.frzb id ds))))(h0:(id / 99999999999==0)=T:=by rfl) :
  go P (.ops ((G,.frzb id)::its)::k) Q .normal (E σ):=by
 rw[E2f]
 simp only[St.step,hf,hd,h0,I,A,if_false]
 exact H
theorem E31{g:Bool}{ks:List FK}{cs ds:List AC}:B9u g ks (.v (.ag cs)) (.v (.ag ds))=(A03 ks cs ds).map fun b=> .v (.sc (.dat (.bool (bif g then !b else b)))):=rfl
theorem E9t:A03 [] [] []=E T:=rfl
theorem E78{k:IntKind}{x y:Int}{ks:List FK}{cs ds:List AC}:A03 (.i::ks) (.dat (.int k x)::cs) (.dat (.int k y)::ds)=(A03 ks cs ds).map fun b=>(x==y)&&b:=if_pos rfl
theorem F0a{x y:Bool}{ks:List FK}{cs ds:List AC}:A03 (.b::ks) (.dat (.bool x)::cs) (.dat (.bool y)::ds)=(A03 ks cs ds).map fun b=>(x==y)&&b:=rfl
theorem F0n{x y:List UInt8}{ks:List FK}{cs ds:List AC}:A03 (.s::ks) (.dat (.str x)::cs) (.dat (.str y)::ds)=(A03 ks cs ds).map fun b=>(x==y)&&b:=rfl
def E4f:=O @E60 (O @F5b (O @E2d (O @E59 (O @D50 (O @D28 (O @D6b (O @E21 (O @E2n (O @C06 (O @C0v (O @D91 (O @D9t (O @D8p (O @E29 (O @D9x (O @D61 (O @E7e (O @E6h (O @E5f (O @E40 (O @E5x (O @E6y (O @E7f (O @E4i (O @E5g (O @E3z (O @E6f (O @E8j (O @F4p (O @F1l (O @E93 (O @F21 (O @F2v (O @E77 (O @E8y (O @E4d (O @E50 (O @C7i (O @D09 (O @E22 (O @C5c (O @E48 (O @E6s (O @E5r (O @D96 (O @E31 (O @E9t (O @E78 (O @F0a @F0n)))))))))))))))))))))))))))))))))))))))))))))))))
end Go.Vi
