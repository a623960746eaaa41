/-
The value level. No condition.
-/
import Derived.Test.YtfoohbeloilepaaGreatRVi28
namespace Go.Vi
set_option linter.all false
open And renaming intro → Z
open List renaming map → A, mem_singleton → B, replicate → zA
open Bool renaming and_self → I, false_eq_true → zC, not_true → zD, true → T, false → F
open Nat renaming one_pos → zB
open Option renaming some → E, none → G
open _root_ renaming List → O, Option → U, Int → V, Bool → W, Nat → Y
abbrev S(n:Y):Opd:= .t n
abbrev K(n:V):Opd:= .c (.v (.sc (.dat (.int .i64 n))))
abbrev K8(n:V):Opd:= .c (.v (.sc (.dat (.int .u8 n))))
abbrev KB(b:W):Opd:= .c (.v (.sc (.dat (.bool b))))
abbrev KS(s:O UInt8):Opd:= .c (.v (.sc (.dat (.str s))))
abbrev KN:Opd:= .c (.v (.sc .nil))
abbrev aI(n:V):AC:= .dat (.int .i64 n)
abbrev a8(n:V):AC:= .dat (.int .u8 n)
abbrev aB(b:W):AC:= .dat (.bool b)
abbrev aS(s:O UInt8):AC:= .dat (.str s)
abbrev aL(es:O (O D)):AC:= .dat (.sl es)
abbrev vc(c:AC):AV:= .v (.sc c)
abbrev va(cs:O AC):AV:= .v (.ag cs)
def rI(n:V):O D:= [.int .i64 n]
def r8(n:V):O D:= [.int .u8 n]
def rB(b:W):O D:= [.bool b]
def rS(s:O UInt8):O D:= [.str s]
def rL{α:Type}(row:α→O D)(xs:O α):O D:= [.sl (xs.map row)]
class Row {α:Type} (row:α→O D) (sz:Y):Prop where
 len:∀x,(row x).length=sz
 pos:0<sz
instance:Row rI 1:=⟨fun _=>rfl,zB⟩
instance:Row r8 1:=⟨fun _=>rfl,zB⟩
instance:Row rB 1:=⟨fun _=>rfl,zB⟩
instance:Row rS 1:=⟨fun _=>rfl,zB⟩
instance {α:Type} (row:α→O D):Row (rL row) 1:=⟨fun _=>rfl,zB⟩
theorem Yv(n:V):rI n= [.int .i64 n]:=rfl
def wq(n:V):UInt8:=UInt8.ofNat n.toNat
theorem UD:∀{xs:O V},D3 (A r8 xs)=E (A wq xs)
 | []=>rfl
 | n::xs=>by
  show(D3 (A r8 xs)).map _=_
  rw[UD];rfl
theorem tq(n:V):r8 n= [.int .u8 n]:=rfl
theorem tr(b:W):rB b= [.bool b]:=rfl
theorem tv(s:O UInt8):rS s= [.str s]:=rfl
theorem tu{α:Type}(row:α→O D)(xs:O α):rL row xs= [.sl (xs.map row)]:=rfl
theorem Ub{α:Type}{row:α→O D}{sz:Y}(h:∀x,(row x).length=sz)(xs:O α):(xs.map row).all (fun d=>d.length==sz)=T:=by
 simp[List.all_map,Function.comp_def,h]
@[irreducible] def bigN:Y:=1208925819614629174706176
def bnd(m h l:V)(n:Y):U (Y × Y):=if 0≤l∧l≤h∧h≤m∧m≤n then E (l.toNat,h.toNat) else G
def BM(l c:V)(bytes:Y):U Y:=if 0≤l∧l≤c∧c*bytes≤140737488355328∧c≤4611686018427387904 then E l.toNat else G
def A3(n m bytes:Y):W:=decide ((n+m)*bytes≤140737488355328∧n+m≤4611686018427387904)
def H8(n m:Y):W:=decide (n+m≤4611686018427387904)
theorem Qk{α β:Type}{f:α→β}{l:O α}{i:V}:ix (l.map f) i=(ix l i).map f:=by
 unfold ix;split<;>simp
theorem B7{α:Type}{l:O α}{i:V}{x:α}(h:ix l i=E x):l[i.toNat]?=E x:=by
 unfold ix at h;split at h
 ·exact h
 ·cases h
theorem ob{α β:Type}{o:U α}{f:α→U β}{r:β}(h:o.bind f=E r):∃a,o=E a∧f a=E r:=Option.bind_eq_some_iff.1 h
class FlatRow {α:Type} (row:α→O D):Prop where
 flat:∀x,∀d∈row x,d.flat=T
instance:FlatRow rI:=⟨fun _ d h=>by rw[B.1 h]; rfl⟩
instance:FlatRow r8:=⟨fun _ d h=>by rw[B.1 h]; rfl⟩
instance:FlatRow rB:=⟨fun _ d h=>by rw[B.1 h]; rfl⟩
instance:FlatRow rS:=⟨fun _ d h=>by rw[B.1 h]; rfl⟩
def Tw:O RC→Prop
 | []=>True
 | c::cs=>c.flat∧Tw cs
theorem Dr{rs:O R1}{cs:O RC}(h:rs.flatMap R1.cells=cs)(hf:Tw cs):CD rs:=by
 subst h;unfold CD;generalize rs.flatMap R1.cells=l at hf
 induction l with
 | nil=>intro c hc; simp at hc
 | cons a l ih=>
  intro c hc;rcases List.mem_cons.1 hc with rfl|hc
  ·exact hf.1
  ·exact ih hf.2 c hc
theorem Ds{α:Type}{row:α→O D} [FlatRow row]{sz:Y}{xs:O α}:RC.flat (.o sz (A row xs)):=by
 intro r hr;obtain⟨x,_,rfl⟩:=List.mem_map.1 hr;exact FlatRow.flat x
theorem QG{α:Type}{row:α→O D}{z:α}{zs:O D}{n:Y}(h:row z=zs):zA n zs=A row (zA n z):=by rw[List.map_replicate,h]
theorem B5{α:Type}{b:W}{x:U α}{r:α}(h:(if b=T then x else G)=E r):b=T∧x=E r:=by
 cases b
 ·rw[if_neg Bool.false_ne_true] at h; cases h
 ·exact⟨rfl,by simpa using h⟩
theorem GL{α:Type}{b:W}{x:U α}{r:α}(h:(if b=T then G else x)=E r):b=F∧x=E r:=by
 cases b
 ·exact⟨rfl,by simpa using h⟩
 ·rw[if_pos rfl] at h; cases h
theorem ic{α:Type}{b:W}{x y:U α}{r:α}(h:(if b=T then x else y)=E r):(b=T∧x=E r)∨(b=F∧y=E r):=by
 cases b with
 | true=>exact .inl ⟨rfl,h⟩
 | false=>exact .inr ⟨rfl,h⟩
section
variable {P : Program} {k : O Fr} {Q : Xn → St → Prop} {σ : St} {its : O AItem} {ds : O AT} {o : AOp} {d : Y}
theorem AZ{c:Xi}(h:go P (.code c:: .code (.loop c)::k) Q .normal (E σ)):go P (.code (.loop c)::k) Q .normal (E σ):=by
 intro X hX;refine hX σ (Uq c (fun e σ' h=> ?_) h);cases e with
 | normal=>exact h X hX
 | exit id=>exact h
 | ret=>exact h
 | pan d=>exact h
theorem bL(hm:P.follows .mixedOrders=T){f:FuncId}{c:Xi}{ts:O RV}{nt:Y}{ds:O DV}{rs:O R1}{σ:St}(he:Ch P f=E (c.strip,ts,nt))(hl:Nat.ble ds.length nt=T)(hσ:St.init ds=σ)
  (h:go P [.code c] (A7 ts rs) .normal (E σ)):FC P f ds rs:=bN hm he (Nat.le_of_ble_eq_true hl) fun _=>RZ (hσ▸h)
theorem bK(hm:P.follows .mixedOrders=T){f:FuncId}{c:Xi}{ts:O RV}{nt:Y}{ds:O DV}{rs:O R1}(he:Ch P f=E (c.strip,ts,nt))(hl:Nat.ble ds.length nt=T)
  (h:go P [.code c] (A7 ts rs) .normal (E (St.init ds))):FC P f ds rs:=bL hm he hl rfl h
theorem SD{sz:Y}{es:O (O D)}(hf:σ.fresh d=T):σ.make (.row d sz es)=E {(σ.set d (.v (.sc (.own (d*64))))) with rows:=put σ.rows (d*64) (sz,es)}:=by simp[St.make,hf]
theorem O5{cs:O AC}(hf:σ.fresh d=T)(hu:cs.all (fun c=> !c.uses d)=T):σ.make (.box d cs)=E {(σ.set d (.v (.sc (.pb d 0)))) with bx:=put σ.bx d cs}:=by simp only[St.make,hf,hu,I,if_true]
theorem PZ{m:Mk}(ho:o.isMade=T)(hm:σ.made o=E m){σ':St}(hs:σ.make m=E σ')(H:go P (.ops its::k) Q .normal (E σ')):go P (.ops ((G,o)::its)::k) Q .normal (E σ):=by
 have hc:o.isCall=F:=by cases o<;>first | rfl | (simp[AOp.isMade] at ho; done)
 rw[B1 hc,vl ho,hm];show go P (.ops its::k) Q .normal (σ.make m)
 rw[hs];exact H
theorem nE{X:Opd}{y:V1}(hX:σ.val X= .v y)(hf:σ.fresh d=T)(hu:y.cells.all (fun c=> !c.uses d)=T)(H:go P (.ops its::k) Q .normal (E {(σ.set d (.v (.sc (.pb d 0)))) with bx:=put σ.bx d y.cells })) :
  go P (.ops ((G,.box d X)::its)::k) Q .normal (E σ):=PZ rfl (by simp only[St.made,hX]) (O5 hf hu) H
theorem mn{cs:O AC}(hf:σ.fresh d=T)(hu:cs.all (fun c=> !c.uses d)=T)(H:go P (.ops its::k) Q .normal (E {(σ.set d (.v (.sc (.pb d 0)))) with bx:=put σ.bx d cs })) :
  go P (.ops ((G,.alloc d cs)::its)::k) Q .normal (E σ):=PZ rfl rfl (O5 hf hu) H
theorem Am{sz:Y}{zs:O D}{len:Y}{ps:O (Y × Opd)}{es:O (O D)}(hm:σ.made (.bslice d sz zs len ps)=E (.row d sz es))(hf:σ.fresh d=T)
  (H:go P (.ops its::k) Q .normal (E {(σ.set d (.v (.sc (.own (d*64))))) with rows:=put σ.rows (d*64) (sz,es) })):go P (.ops ((G,.bslice d sz zs len ps)::its)::k) Q .normal (E σ):=PZ rfl hm (SD hf) H
theorem XO{L C:Opd}{l c:V}{bytes n sz:Y}{zs:O D}{es:O (O D)}(hl:BV (σ.val L)=E l)(hc:BV (σ.val C)=E c)(hb:BM l c bytes=E n)(hz:zs.length=sz)(he:zA n zs=es) :
  σ.made (.mksl d sz bytes zs L C)=E (.row d sz es):=by
 unfold BM at hb
 split at hb
 ·rename_i h
  cases hb;subst he;simp only[St.made,hl,hc];rw[if_pos ⟨h.1,h.2.1,h.2.2.1,h.2.2.2,hz⟩]
 ·cases hb
theorem RY{L C:Opd}{l c:V}{bytes n sz:Y}{zs:O D}{es:O (O D)}(hl:BV (σ.val L)=E l)(hc:BV (σ.val C)=E c)(hb:BM l c bytes=E n)(hz:zs.length=sz)(he:zA n zs=es)(hf:σ.fresh d=T)
  (H:go P (.ops its::k) Q .normal (E {(σ.set d (.v (.sc (.own (d*64))))) with rows:=put σ.rows (d*64) (sz,es) })):go P (.ops ((G,.mksl d sz bytes zs L C)::its)::k) Q .normal (E σ):=
 PZ rfl (XO hl hc hb hz he) (SD hf) H
theorem Q0{n:Y}{N:O Y}{m:Mk}(hm:(σ.less (n::N)).made o=E m)(hv:XX (n::N) m=T){σ':St}(hs:σ.make m=E σ')(H:go P (.dops ds::k) Q .normal (E σ')) :
  go P (.dops ((E (n::N),G,o)::ds)::k) Q .normal (E σ):=nL hm hv hs H
theorem Fj{α:Type}{env bx rows}{id sz i off n:Y}{xs:O α}{row:α→O D}{x y:α}{yv:V1}{dd:O D}(hd:yv.toDs=E dd)(hf:A2 rows id=E (sz,A row xs))
  (hx:xs[i]?=E x) (hn:dd.length=n) (ho:Nat.ble (off+n) (row x).length=T) (hy:FB (row x) off dd=row y) (H:go P k Q .normal (E ⟨env,bx,put rows id (sz,A row (xs.set i y))⟩)) :
  go P k Q .normal (St.storeV ⟨env,bx,rows⟩ n (.v (.sc (.pe id i off))) (.v yv)):=by
 have e:St.storeV ⟨env,bx,rows⟩ n (.v (.sc (.pe id i off))) (.v yv)=E ⟨env,bx,put rows id (sz,A row (xs.set i y))⟩:=by
  simp only[St.storeV,hf,List.getElem?_map,hx,Option.map_some,hd];rw[if_pos ⟨hn,Nat.le_of_ble_eq_true ho⟩,hy,List.map_set]
 rw[e];exact H
end
def Dk{α:Type}:Y→O α→U (O α)
 | 0,l=>E l
 | _+1,[]=>G
 | n+1,_::l=>Dk n l
def FE{α:Type}:Y→O α→U (O α)
 | 0,_=>E []
 | _+1,[]=>G
 | n+1,c::l=>(FE n l).map (c:: ·)
def Dv{α:Type}:O α→Y→W
 | [],0=>T
 | _::l,n+1=>Dv l n
 | _,_=>F
def BX{α:Type}:O α→Y→W
 | _,0=>T
 | _::l,n+1=>BX l n
 | [],_+1=>F
theorem Lc{α:Type}:∀(n:Y) (l:O α),Dk n l=if n≤l.length then E (l.drop n) else G
 | 0,l=>by simp[Dk]
 | n+1,[]=>by simp[Dk]
 | n+1,c::l=>by simp[Dk,Lc n l]
theorem Zt{α:Type}:∀(n:Y) (l:O α),FE n l=if n≤l.length then E (l.take n) else G
 | 0,l=>by simp[FE]
 | n+1,[]=>by simp[FE]
 | n+1,c::l=>by simp only[FE,Zt n l]; split<;>simp_all
theorem Sz{α:Type}:∀(l:O α) (n:Y),Dv l n=decide (l.length=n)
 | [],0=>by simp[Dv]
 | [],n+1=>by simp[Dv]
 | _::l,0=>by simp[Dv]
 | _::l,n+1=>by simp[Dv,Sz l n]
theorem O1{α:Type}:∀(l:O α) (n:Y),BX l n=decide (n≤l.length)
 | [],0=>by simp[BX]
 | [],n+1=>by simp[BX]
 | _::l,0=>by simp[BX]
 | _::l,n+1=>by simp[BX,O1 l n]
theorem jV{α:Type}{l:O α}:Dk 0 l=E l:=by cases l<;>rfl
theorem jW{α:Type}{n:Y}{c:α}{l:O α}:Dk (n+1) (c::l)=Dk n l:=rfl
theorem wT{α:Type}{l:O α}:FE 0 l=E []:=by cases l<;>rfl
theorem wU{α:Type}{n:Y}{c:α}{l:O α}:FE (n+1) (c::l)=(FE n l).map (c:: ·):=rfl
theorem rc{α:Type}:Dv ([]:O α) 0=T:=rfl
theorem rd{α:Type}{n:Y}{c:α}{l:O α}:Dv (c::l) (n+1)=Dv l n:=rfl
theorem rZ{α:Type}{l:O α}:BX l 0=T:=by cases l<;>rfl
theorem ra{α:Type}{n:Y}{c:α}{l:O α}:BX (c::l) (n+1)=BX l n:=rfl
theorem ge{cs:O AC}{off n:Y}:CN cs off T n=(Dk off cs).bind fun l=>(FE n l).map fun l=> .v (.ag l):=by
 simp only[CN,cond_true,Lc,Zt];by_cases h:off≤cs.length
 ·rw[if_pos h];by_cases h2:off+n≤cs.length
  ·rw[if_pos h2,Option.bind_some,if_pos (by simp; omega)]; rfl
  ·rw[if_neg h2,Option.bind_some,if_neg (by simp; omega)]; rfl
 ·rw[if_neg h,if_neg (by omega)]; rfl
theorem uv{cs:O AC}:BH cs 0 []=cs:=by simp[BH]
theorem ux{c:AC}{cs ds:O AC}{n:Y}:BH (c::cs) (n+1) ds=c::BH cs n ds:=by
 simp only[BH,List.take_succ_cons,List.cons_append];rw[show n+1+ds.length=(n+ds.length)+1 by omega,List.drop_succ_cons]
theorem uy{c d:AC}{cs ds:O AC}:BH (c::cs) 0 (d::ds)=d::BH cs 0 ds:=by simp[BH]
theorem Jm{α β:Type}{a:α}{f:α→U β}:(E a).bind f=f a:=rfl
theorem gE{α β:Type}{f:α→U β}:(G:U α).bind f=G:=rfl
theorem get_map{α β:Type}{f:α→β}{l:O α}{i:Y}:(A f l)[i]?=(l[i]?).map f:=List.getElem?_map
theorem mg{α:Type}{a:α}{l:O α}:(a::l)[0]?=E a:=rfl
theorem mf{α:Type}{a:α}{l:O α}{n:Y}:(a::l)[n+1]?=l[n]?:=by simp
theorem jQ:A AC.dat []= []:=rfl
theorem jP{d:D}{l:O D}:A AC.dat (d::l)= .dat d::A AC.dat l:=rfl
section
variable {P : Program} {k : O Fr} {Q : Xn → St → Prop} {σ : St} {its : O AItem} {env : O (Y × AV)} {bx : O (Y × O AC)} {rows : Rows}
theorem pR{α:Type}{rs:Rows}{sz:Y}{xs:O α}{row:α→O D} [Row row sz]{kd:IntKind}{i:V}:CU rs sz (.v (.sc (.dat (.sl (A row xs))))) (.v (.sc (.dat (.int kd i))))=(ix xs i).map fun x=> .v (.sc (.dat (.pd (row x)))):=by
 simp only[CU,Qk];cases ix xs i with
 | none=>rfl
 | some x=>simp[Row.len (row:=row) (sz:=sz),Row.pos row]
theorem pQ{rs:Rows}{sz id:Y}{kd:IntKind}{i:V}:CU rs sz (.v (.sc (.own id))) (.v (.sc (.dat (.int kd i))))=(A2 rs id).bind fun p=>(ix p.2 i).bind fun _=>bif p.1==sz then E (.v (.sc (.pe id i.toNat 0))) else G:=by
 simp only[CU];cases A2 rs id with
 | none=>rfl
 | some p=>
  obtain⟨a,es⟩:=p;simp only[Jm];cases ix es i with
  | none=>rfl
  | some x=>
   by_cases h:a=sz
   ·simp[h]
   ·have h':(a==sz)=F:=by simpa using h
    simp[h,h']
theorem sA{g:W}{n id off:Y}:CH ⟨env,bx,rows⟩ g n (.v (.sc (.pb id off)))=(A2 bx id).bind fun cs=>CN cs off g n:=by
 show(match A2 bx id with | some cs=>_ | none=>G)=_
 cases A2 bx id<;>rfl
theorem sC{g:W}{n id i off:Y}:CH ⟨env,bx,rows⟩ g n (.v (.sc (.pe id i off)))=(A2 rows id).bind fun p=>(p.2[i]?).bind fun d=>CN (A AC.dat d) off g n:=by
 simp only[CH];cases A2 rows id with
 | none=>rfl
 | some p=>
  simp only[Jm];cases p.2[i]?<;>rfl
theorem sB{g:W}{n:Y}{cs:O D}:CH σ g n (.v (.sc (.dat (.pd cs))))=CN (A AC.dat cs) 0 g n:=rfl
theorem lk{rs:Rows}{off id i o:Y}:Cp rs off (.v (.sc (.pe id i o)))=(A2 rs id).map fun _=> .v (.sc (.pe id i (o+off))):=by
 simp only[Cp];cases A2 rs id<;>rfl
theorem lj{rs:Rows}{off:Y}{cs:O D}:Cp rs off (.v (.sc (.dat (.pd cs))))=(Dk off cs).map fun cs=> .v (.sc (.dat (.pd cs))):=by
 simp only[Cp,Lc];split<;>rfl
theorem lf{l:O V1}{i:Y}:Jx i (.tup l)=(l[i]?).map .v:=rfl
theorem sg{id off:Y}:Fu (.v (.sc (.pb id off)))=E (.v (.sc (.pb id off))):=rfl
theorem si{cs:O D}:Fu (.v (.sc (.dat (.pd cs))))=E (.v (.sc (.dat (.pd cs)))):=rfl
theorem xK:A (St.val σ) []= []:=rfl
theorem xJ{x:Opd}{l:O Opd}:A (St.val σ) (x::l)=σ.val x::A (St.val σ) l:=rfl
theorem sU{f:FuncId}:Ft f []=E []:=rfl
theorem sO{f:FuncId}:Fq f []=E (.clo f []):=rfl
theorem sP{f:FuncId}{id:Y}{r:O AV}:Fq f (.v (.sc (.pb id 0))::r)=(Ft f (.v (.sc (.pb id 0))::r)).map (.clo f):=rfl
theorem sN{f:FuncId}{d:D}{r:O AV}:Fq f (.v (.sc (.dat d))::r)=(Fs (.v (.sc (.dat d))::r)).map fun q=> .dat (.clo f q):=rfl
theorem sS:Fs []=E []:=rfl
theorem sR{ds:O D}{r:O AV}:Fs (.v (.sc (.dat (.pd ds)))::r)=(Fs r).map (.pd ds:: ·):=rfl
theorem sT{f:FuncId}{id:Y}{r:O AV}:Ft f (.v (.sc (.pb id 0))::r)=(Ft f r).map (id:: ·):=rfl
def OW(K:O AC→U (O AC))(off n:Y)(cs:O AC):AV→U (O AC)
 | .v x=>bif Dv x.cells n&&BX cs (off+n) then K (BH cs off x.cells) else G
 | _=>G
def FN(σ:St):O (Y × Y × Opd)→O AC→U (O AC)
 | [],cs=>E cs
 | (off,n,x)::r,cs=>OW (FN σ r) off n cs (σ.val x)
theorem Rr:∀(ps:O (Y × Y × Opd)) (cs:O AC),D8 cs (ps.map fun p=>(p.1,p.2.1,σ.val p.2.2))=FN σ ps cs
 | [],cs=>rfl
 | (off,n,x)::r,cs=>by
  simp only[List.map_cons,FN];generalize σ.val x=v
  cases v with
  | v y=>
   simp only[D8,OW,Sz,O1];by_cases h1:y.cells.length=n
   ·by_cases h2:off+n≤cs.length
    ·subst h1;simp only[h2,and_self,if_true,decide_true,I,cond_true];exact Rr r _
    ·simp[h1,h2]
   ·simp[h1]
  | _=>rfl
theorem gH{cs:O AC}:FN σ [] cs=E cs:=rfl
theorem gG{off n:Y}{x:Opd}{r:O (Y × Y × Opd)}{cs:O AC}:FN σ ((off,n,x)::r) cs=OW (FN σ r) off n cs (σ.val x):=rfl
theorem gF{K:O AC→U (O AC)}{off n:Y}{cs:O AC}{x:V1}:OW K off n cs (.v x)=bif Dv x.cells n&&BX cs (off+n) then K (BH cs off x.cells) else G:=rfl
theorem mw{d zs ps}:go P (.ops ((G,.build d zs ps)::its)::k) Q .normal (E σ)=go P (.ops its::k) Q .normal (Ay σ d ((FN σ ps zs).map fun cs=> .v (.ag cs))):=by rw[nD,Rr]
theorem vf{d zs ps}:σ.step (.build d zs ps)=Ay σ d ((FN σ ps zs).map fun cs=> .v (.ag cs)):=by rw[Z3,Rr]
theorem vq{n id off:Y}{y:V1}:St.storeV ⟨env,bx,rows⟩ n (.v (.sc (.pb id off))) (.v y)=(A2 bx id).bind fun cs=>bif Dv y.cells n&&BX cs (off+n) then E ⟨env,put bx id (BH cs off y.cells),rows⟩ else G:=by
 simp only[St.storeV,Sz,O1];cases A2 bx id with
 | none=>rfl
 | some cs=>
  simp only[Jm];by_cases h1:y.cells.length=n
  ·by_cases h2:off+n≤cs.length
   ·simp[h1,h2]
   ·simp[h1,h2]
  ·simp[h1]
def QI(sz:Y)(es:O (O D)):W:=es.all fun r=>r.length==sz
theorem uX{α:Type}{sz:Y}{row:α→O D} [Row row sz]{xs:O α}:QI sz (A row xs)=T:=Ub (Row.len (row:=row)) xs
theorem fH{d sz bytes id:Y}{y:AV}:St.appV ⟨env,bx,rows⟩ d sz bytes (.v (.sc (.own id))) y=bif id / 99999999999==0 then((A2 rows id).bind fun p=>(appSrc rows y).bind fun es'=>
  bif (p.1==sz)&&(QI sz es'&&A3 p.2.length es'.length bytes) then E ⟨put (env.map fun p=>(p.1,p.2.map (AC.kill id))) d (.v (.sc (.own id))),bx.map fun p=>(p.1,p.2.map (AC.kill id)),put rows id (sz,p.2++es')⟩ else G) else G:=by
 simp only[St.appV];by_cases h0:id / 99999999999=0
 rotate_left
 ·rw[if_neg h0,show(id / 99999999999==0)=F by simpa using h0];rfl
 rw[if_pos h0,show(id / 99999999999==0)=T by simpa using h0,cond_true];cases A2 rows id with
 | none=>rfl
 | some p=>
  obtain⟨a,es⟩:=p;simp only[Jm];cases appSrc rows y with
  | none=>rfl
  | some es'=>
   simp only[Jm];by_cases h1:a=sz
   ·by_cases h2:QI sz es'=T
    ·by_cases h3:A3 es.length es'.length bytes=T
     ·have h3':=of_decide_eq_true h3;rw[if_pos ⟨h1,h2,h3'.1,h3'.2⟩];simp only[h1,beq_self_eq_true,h2,h3,I,cond_true];rfl
     ·have h3':A3 es.length es'.length bytes=F:=by simpa using h3
      rw[if_neg (fun h=>h3 (decide_eq_true ⟨h.2.2.1,h.2.2.2⟩))];simp[h3']
    ·have h2':QI sz es'=F:=by simpa using h2
     rw[if_neg (fun h=>h2 h.2.1)];simp[h2']
   ·have h1':(a==sz)=F:=by simpa using h1
    rw[if_neg (fun h=>h1 h.1)];simp[h1']
theorem vW{rs:Rows}{es:O (O D)}:appSrc rs (.v (.sc (.dat (.sl es))))=E es:=rfl
theorem vX{rs:Rows}:appSrc rs (.v (.sc .nil))=E []:=rfl
theorem vY{rs:Rows}{id:Y}:appSrc rs (.v (.sc (.own id)))=(A2 rs id).map fun p=>p.2:=by
 simp only[appSrc,toD0];cases A2 rs id<;>rfl
theorem sJ{α:Type}{f:α→O D}{a b:O α}:A f a++A f b=A f (a++b):=List.map_append.symm
def EA(σ:St)(n:Y):U Opd→U V
 | none=>E n
 | some x=>BV (σ.val x)
def H7(n:Y):U V→U V→U V→U (Y × Y)
 | some m,E h,E l=>bnd m h l n
 | _,_,_=>G
theorem Rt{lo hi mx:U Opd}{n:Y}:DH σ lo hi mx n=H7 n (EA σ n mx) (EA σ n hi) (match lo with | none=>E 0 | some x=>BV (σ.val x)):=by
 cases mx<;>cases hi<;>cases lo<;>(simp only[DH,H7,EA]; first | rfl | (split<;>simp_all[H7,bnd]))
def Oa(σ:St):U Opd→U V
 | none=>E 0
 | some x=>BV (σ.val x)
theorem vF{α:Type}{sz:Y}{lo hi mx:U Opd}{xs:O α}{row:α→O D} [Row row sz]:E1 σ sz (.v (.sc (.dat (.sl (A row xs))))) lo hi mx=(H7 xs.length (EA σ xs.length mx) (EA σ xs.length hi) (Oa σ lo)).map fun p=> .v (.sc (.dat (.sl (A row ((xs.drop p.1).take (p.2 - p.1)))))):=by
 have h:(A row xs).all (fun d=>d.length==sz)=T:=Ub (Row.len (row:=row)) xs;simp only[E1,h,Row.pos row (sz:=sz),decide_true,I,if_true,List.length_map,Rt];cases lo<;>simp[Oa,List.map_drop,List.map_take]
theorem ve{lo hi:U Opd}{s:O UInt8}:GS σ (.v (.sc (.dat (.str s)))) lo hi=(H7 s.length (EA σ s.length G) (EA σ s.length hi) (Oa σ lo)).map fun p=> .v (.sc (.dat (.str ((s.drop p.1).take (p.2 - p.1))))):=by
 simp only[GS,Rt];cases lo<;>rfl
theorem tH{n:Y}:EA σ n G=E (n:V):=rfl
theorem tI{n:Y}{x:Opd}:EA σ n (E x)=BV (σ.val x):=rfl
theorem tF:Oa σ G=E 0:=rfl
theorem tG{x:Opd}:Oa σ (E x)=BV (σ.val x):=rfl
theorem fL{kd:IntKind}{i:V}:BV (.v (.sc (.dat (.int kd i))))=E i:=rfl
theorem gK{n:Y}{m h l:V}:H7 n (E m) (E h) (E l)=bnd m h l n:=rfl
theorem wA{x y:O UInt8}:GT .add x y=bif H8 x.length y.length then E (.str (x++y)) else G:=by
 simp only[GT,H8];by_cases h:x.length+y.length≤4611686018427387904
 ·simp[h]
 ·simp[h]
theorem qS{k:IntKind}{x y:V}:AK .and k x y=E (.int k (B4 .and k x y)):=rfl
theorem qb{k:IntKind}{x y:V}:AK .or k x y=E (.int k (B4 .or k x y)):=rfl
theorem qm{k:IntKind}{x y:V}:AK .xor k x y=E (.int k (B4 .xor k x y)):=rfl
theorem fo:(T==T)=T:=rfl
theorem fm:(T==F)=F:=rfl
theorem fj:(F==T)=F:=rfl
theorem fi:(F==F)=T:=rfl
theorem eh{b:W}:(F&&b)=F:=rfl
end
def Yl{α:Type}(k:Y):U α→O (Y × α)→O (Y × α)
 | some v,r=>(k,v)::r
 | none,r=>r
theorem tZ{α:Type}{l:O (Y × α)}:Cj l []= []:=rfl
theorem tY{α:Type}{l:O (Y × α)}{k:Y}{ks:O Y}:Cj l (k::ks)=Yl k (A2 l k) (Cj l ks):=by
 show(match A2 l k with | some v=>_ | none=>_)=_
 cases A2 l k<;>rfl
theorem tX{α:Type}{k:Y}{v:α}{r:O (Y × α)}:Yl k (E v) r=(k,v)::r:=rfl
theorem qw{env bx rows ks bs rs}:(St.mk env bx rows).kept ks bs rs=⟨Cj env ks,Cj bx bs,Cj rows rs⟩:=rfl
theorem nh{P:Program}{k:O Fr}{Q:Xn→St→Prop}{σ:St}{its:O AItem}{ks bs rs:O Y}:go P (.ops ((G,.keep ks bs rs)::its)::k) Q .normal (E σ)=go P (.ops its::k) Q .normal (E (σ.kept ks bs rs)):=B1 rfl
theorem ta{b:W}{x y:AV}:KM (.v (.sc (.dat (.bool b)))) x y=E (bif b then x else y):=rfl
theorem fh{g x y:W}:Jl g (.v (.sc (.dat (.bool x)))) (.v (.sc (.dat (.bool y))))=E (.v (.sc (.dat (.bool (bif g then !(x==y) else x==y))))):=rfl
theorem sZ{m:W}{k:IntKind}{x y:V}:IS m (.v (.sc (.dat (.int k x)))) (.v (.sc (.dat (.int k y))))=E (.v (.sc (.dat (.int k (bif m then(if x<y then y else x) else(if y<x then y else x)))))):=by simp[IS]
theorem wz{k:IntKind}{x:V}:Ja .neg (.v (.sc (.dat (.int k x))))=E (.v (.sc (.dat (.int k (k.wrap (0 - x)))))):=rfl
theorem lh{rs:Rows}{off id o:Y}:Cp rs off (.v (.sc (.pb id o)))=E (.v (.sc (.pb id (o+off)))):=rfl
theorem rh{rs:Rows}{id:Y}:DW rs (.v (.sc (.own id)))=(A2 rs id).map fun p=> .v (.sc (.dat (.int .i64 p.2.length))):=by
 show(match A2 rs id with | some (_,es)=>_ | none=>_)=_
 cases A2 rs id<;>rfl
theorem qC{k:Y}:Fm k []= []:=rfl
theorem qB{k:Y}{d:DV}{ds:O DV}:Fm k (d::ds)=(k,d.av)::Fm (k+1) ds:=rfl
theorem qE{ds:O DV}:St.init ds=⟨Fm 0 ds,[],[]⟩:=rfl
theorem kj{d:D}:DV.av (.sc d)= .v (.sc (.dat d)):=rfl
theorem ki{ds:O D}:DV.av (.ag ds)= .v (.ag (ds.map .dat)):=rfl
theorem ry{f:AC→AC}:A (V1.map f) []= []:=rfl
theorem rx{f:AC→AC}{x:V1}{l:O V1}:A (V1.map f) (x::l)=x.map f::A (V1.map f) l:=rfl
theorem rO{f:AC→AC}:A (fun p:Y × AV=>(p.1,p.2.map f)) []= []:=rfl
theorem rN{f:AC→AC}{k:Y}{v:AV}{l:O (Y × AV)}:A (fun p:Y × AV=>(p.1,p.2.map f)) ((k,v)::l)=(k,v.map f)::A (fun p:Y × AV=>(p.1,p.2.map f)) l:=rfl
theorem gJ{f:AC→AC}:A (fun p:Y × O AC=>(p.1,p.2.map f)) []= []:=rfl
theorem gI{f:AC→AC}{k:Y}{v:O AC}{l:O (Y × O AC)}:A (fun p:Y × O AC=>(p.1,p.2.map f)) ((k,v)::l)=(k,v.map f)::A (fun p:Y × O AC=>(p.1,p.2.map f)) l:=rfl
theorem gn{f:AC→AC}:A f ([]:O AC)= []:=rfl
theorem gm{f:AC→AC}{c:AC}{l:O AC}:A f (c::l)=f c::A f l:=rfl
theorem rv{α β:Type}{f:α→β}{l:O α}:(A f l).length=l.length:=List.length_map ..
theorem gb{c:AC}:V1.cells (.sc c)= [c]:=rfl
theorem gX{cs:O AC}:V1.cells (.ag cs)=cs:=rfl
theorem sK{f:AC→AC}{env bx rows}:(St.mk env bx rows).map f=⟨env.map fun p=>(p.1,p.2.map f),bx.map fun p=>(p.1,p.2.map f),rows⟩:=rfl
theorem fY{f:AC→AC}{c:AC}:AV.map f (.v (.sc c))= .v (.sc (f c)):=rfl
theorem fX{f:AC→AC}{cs:O AC}:AV.map f (.v (.ag cs))= .v (.ag (cs.map f)):=rfl
theorem fb{f:AC→AC}:AV.map f .undef= .undef:=rfl
theorem fW{f:AC→AC}:AV.map f .no= .no:=rfl
theorem fZ{f:AC→AC}{l:O V1}:AV.map f (.tup l)= .tup (l.map (V1.map f)):=rfl
theorem xF{f:AC→AC}{c:AC}:V1.map f (.sc c)= .sc (f c):=rfl
theorem xE{f:AC→AC}{cs:O AC}:V1.map f (.ag cs)= .ag (cs.map f):=rfl
theorem rC{id:Y}{d:D}:AC.kill id (.dat d)= .dat d:=rfl
theorem rF{id:Y}:AC.kill id .nil= .nil:=rfl
theorem rK{id:Y}:AC.kill id .undef= .undef:=rfl
theorem rG{id i:Y}:AC.kill id (.own i)=bif i==id then .undef else .own i:=rfl
theorem rJ{id i a b:Y}:AC.kill id (.osub i a b)=bif i==id then .undef else .osub i a b:=rfl
theorem rD{id i a b:Y}:AC.kill id (.pe i a b)=bif i==id then .undef else .pe i a b:=rfl
theorem qz{id i a:Y}:AC.kill id (.pb i a)= .pb i a:=rfl
theorem rA{id f:Y}{is:O Y}:AC.kill id (.clo f is)= .clo f is:=rfl
theorem mN{id:Y}{es:O (O D)}{d:D}:AC.frz id es (.dat d)= .dat d:=rfl
theorem mQ{id:Y}{es:O (O D)}:AC.frz id es .nil= .nil:=rfl
theorem mU{id:Y}{es:O (O D)}:AC.frz id es .undef= .undef:=rfl
theorem mR{id i:Y}{es:O (O D)}:AC.frz id es (.own i)=bif i==id then .dat (.sl es) else .own i:=rfl
theorem mT{id i a b:Y}{es:O (O D)}:AC.frz id es (.osub i a b)=bif i==id then .undef else .osub i a b:=rfl
theorem mO{id i a b:Y}{es:O (O D)}:AC.frz id es (.pe i a b)=bif i==id then .undef else .pe i a b:=rfl
theorem mK{id i a:Y}{es:O (O D)}:AC.frz id es (.pb i a)= .pb i a:=rfl
theorem mL{id f:Y}{es:O (O D)}{is:O Y}:AC.frz id es (.clo f is)= .clo f is:=rfl
theorem nW{P:Program}{k:O Fr}{Q:Xn→St→Prop}{σ:St}{its:O AItem}{id sz:Y}{es:O (O D)}(hf:A2 σ.rows id=E (sz,es))(H:go P (.ops its::k) Q .normal (E {(σ.map (AC.frz id es)) with rows:=erase σ.rows [id] }))(h0:(id / 99999999999==0)=T:=by rfl) :
  go P (.ops ((G,.frz id)::its)::k) Q .normal (E σ):=by
 rw[nV];simp only[St.step,hf,h0,zD,zC,if_false];exact H
theorem Fi{P:Program}{k:O Fr}{Q:Xn→St→Prop}{σ:St}{its:O AItem}{b j id sz:Y}{cs cs':O AC}(h1:σ.has id=F)(h2:A2 σ.bx b=E cs)(h3:cs[j]?=E .nil)(h4:cs.set j (.own id)=cs')
  (H:go P (.ops its::k) Q .normal (E {σ with bx:=put σ.bx b cs',rows:=put σ.rows id (sz,[]) })) (h0:(id / 99999999999==0)=T:=by rfl):go P (.ops ((G,.ownb b j id sz)::its)::k) Q .normal (E σ):=by
 rw[nz];subst h4;simp only[St.step,h1,h2,h3,h0,zD,Bool.or_self,zC,if_false];exact H
theorem lS{α:Type}{ks:O Y}:erase ([]:O (Y × α)) ks= []:=rfl
theorem lT{α:Type}{k n:Y}{v:α}{r:O (Y × α)}:erase ((k,v)::r) [n]=bif k==n then erase r [n] else(k,v)::erase r [n]:=by
 by_cases h:k=n
 ·simp[erase,h]
 ·have h':(k==n)=F:=by simpa using h
  simp[erase,h,h']
theorem uL{ts:O RV}{rs:O R1}{σ:St}:A7 ts rs .ret σ=(OutVs σ ts rs∧Ey (Dg σ ts rs)=T):=rfl
theorem uK{ts:O RV}{rs:O R1}{σ:St}:A7 ts rs .normal σ=(OutVs σ ts rs∧Ey (Dg σ ts rs)=T):=rfl
theorem tQ{σ:St}{t:RV}{ts:O RV}{r:R1}{rs:O R1}:OutVs σ (t::ts) (r::rs)=(ON σ.rows (KJ σ t) r∧OutVs σ ts rs):=rfl
theorem tP{σ:St}{t:RV}{ts:O RV}{r:R1}{rs:O R1}:Dg σ (t::ts) (r::rs)=SN (KJ σ t) r++Dg σ ts rs:=rfl
theorem tO{σ:St}{a n:Y}{g:W}:KJ σ (.c a g n)=(CH σ g n (σ.get a)).getD .undef:=rfl
def Ol:=Z @uL (Z @uK (Z @tQ (Z @tP @tO)))
set_option maxRecDepth 4000 in
def uZ:=Z @nw (Z @nu (Z @oM (Z @oG (Z @nN (Z @nS (Z @oL (Z @nC (Z @nO (Z @oJ (Z @nH (Z @oF (Z @oE (Z @oB (Z @oD (Z @my (Z @nB (Z @ny (Z @nM (Z @Ys (Z @nd (Z @nc (Z @na (Z @nZ (Z @nY (Z @mD (Z @mC (Z @tp (Z @tn (Z @xH (Z @xG (Z @me (Z @uz (Z @getD_some (Z @getD_none (Z @map_some (Z @map_none (Z @vH (Z @ri (Z @uh (Z @ug (Z @rf (Z @gu (Z @fw (Z @gD (Z @qR (Z @qk (Z @qZ (Z @qc (Z @qd (Z @qU (Z @qa (Z @qY (Z @qX (Z @qW (Z @qV (Z @wB (Z @wC (Z @xA (Z @pV (Z @qn (Z @lz (Z @gY (Z @gr (Z @gp (Z @nr (Z @nx (Z @nj (Z @nv (Z @mu (Z @mr (Z @oS (Z @nI (Z @oN (Z @oP (Z @nQ (Z @nR (Z @nf (Z @ng (Z @nP (Z @ni (Z @oK (Z @oO (Z @nq (Z @nk (Z @oQ (Z @mp (Z @mz (Z @qN (Z @qF (Z @qG (Z @qK (Z @qJ (Z @yx (Z @yw (Z @qQ (Z @qO (Z @qP (Z @qM (Z @qI (Z @qH (Z @uP (Z @uQ (Z @uS (Z @ga (Z @gW (Z @uU (Z @uW (Z @uV (Z @tk (Z @tj (Z @fG (Z @fF (Z @gL (Z @fk (Z @iR (Z @iT (Z @iC (Z @iL (Z @iS (Z @hZ (Z @hU (Z @iZ (Z @iD (Z @iV (Z @iX (Z @iF (Z @iG (Z @iI (Z @hO (Z @iJ (Z @iE (Z @iK (Z @iU (Z @iW (Z @iQ (Z @iM (Z @iA (Z @hP (Z @iB (Z @iP (Z @jA (Z @jC (Z @ij (Z @iv (Z @jB (Z @ii (Z @ig (Z @jI (Z @ik (Z @jE (Z @jG (Z @im (Z @io (Z @iq (Z @ib (Z @ir (Z @il (Z @iu (Z @jD (Z @jF (Z @iz (Z @iw (Z @jK (Z @jJ (Z @jO (Z @jN (Z @jM (Z @rp (Z @sM (Z @sL (Z @qv (Z @qu (Z @qt (Z @wV (Z @xC (Z @fO (Z @fP (Z @fR (Z @fS (Z @fT (Z @fN (Z @fM (Z @ss (Z @su (Z @ey (Z @nU (Z @mq (Z @jw (Z @jy (Z @jd (Z @jp (Z @jx (Z @ja (Z @jZ (Z @kg (Z @jg (Z @ka (Z @ke (Z @ji (Z @jj (Z @jl (Z @jX (Z @jm (Z @jh (Z @jo (Z @jz (Z @kb (Z @jv (Z @jq (Z @jb (Z @jY (Z @jc (Z @ju (Z @je (Z @jf (Z @Zg (Z @Zi (Z @Zc (Z @Zh (Z @Z2 (Z @Z1 (Z @Zp (Z @Z4 (Z @Zl (Z @Zn (Z @Z6 (Z @Z7 (Z @Z9 (Z @Za (Z @Z5 (Z @Zb (Z @Zk (Z @Zm (Z @Zf (Z @Zd (Z @tZ (Z @tY (Z @tX (Z @qw (Z @nh (Z @ta (Z @fh (Z @sZ (Z @wz (Z @lh (Z @rh (Z @qC (Z @qB (Z @qE (Z @kj (Z @ki (Z @rv (Z @gb (Z @gX (Z @sK (Z @fY (Z @fX (Z @fb (Z @fZ (Z @xF (Z @xE (Z @rC (Z @rF (Z @rK (Z @rG (Z @rJ (Z @rD (Z @qz (Z @rA (Z @mN (Z @mQ (Z @mU (Z @mR (Z @mT (Z @mO (Z @mK (Z @mL (Z @lS (Z @lT (Z @jV (Z @jW (Z @wT (Z @wU (Z @rc (Z @rd (Z @rZ (Z @ra (Z @ge (Z @uv (Z @ux (Z @uy (Z @Jm (Z @gE (Z @get_map (Z @mg (Z @mf (Z @jQ (Z @jP (Z @pR (Z @pQ (Z @sA (Z @sC (Z @sB (Z @lk (Z @lj (Z @lf (Z @sg (Z @si (Z @xK (Z @xJ (Z (Z @sU (Z @sO (Z @sP (Z @sN (Z @sS @sR))))) (Z @sT (Z @gH (Z @gG (Z @gF (Z @mw (Z @vf (Z @vq (Z @uX (Z @fH (Z @vW (Z @vX (Z @vY (Z @sJ (Z @vF (Z @ve (Z @tH (Z @tI (Z @tF (Z @tG (Z @fL (Z @gK (Z @wA (Z @qS (Z @qb (Z @qm (Z @fo (Z @fm (Z @fj (Z @fi (Z @eh (Z @Qk (Z @Yv (Z @UD (Z @tq (Z @tr (Z @tv (Z @tu (Z @ry (Z @rx (Z @rO (Z @rN (Z @gJ (Z @gI (Z @gn (Z @gm (Z @jL (Z @nX @fW))))))))))))))))))))))))))))))))))))))))))))))))))))))))))))))))))))))))))))))))))))))))))))))))))))))))))))))))))))))))))))))))))))))))))))))))))))))))))))))))))))))))))))))))))))))))))))))))))))))))))))))))))))))))))))))))))))))))))))))))))))))))))))))))))))))))))))))))))))))))))))))))))))))))))))))))))))))))))))))))))))))))))))))))))))))))))))))))))))))
theorem qL{env:O (Y × AV)}{bx:O (Y × O AC)}{rows:Rows}{d:Y}{ids:O Y}{R1:Av}{r:D}:St.instX ⟨env,bx,rows⟩ d ids R1 r=⟨put env d (.v (.sc (.dat r))),bx,CI rows ids R1⟩:=rfl
theorem tl{rs:Rows}{id:Y}{ids:O Y}{r:Y × O (O D)}{R:Av}:CI rs (id::ids) (r::R)=CI (put rs id r) ids R:=rfl
theorem tm{rs:Rows}:CI rs [] []=rs:=rfl
theorem Up{N:O Y}:AV.avoids N (.v (.sc .z))=T:=by simp[AV.avoids,AV.cells,V1.cells,AC.avoids,AC.uses]
theorem A5v{P:Program}{k:O Fr}{Q:Xn→St→Prop}{σ:St}{N:O Y}{d:Y}{its:O AT}:go P (.dops ((E N,G,.zsl d)::its)::k) Q .normal (E σ)=go P (.dops its::k) Q .normal (E (σ.set d (.v (.sc .z)))):=by
 rw[Bs rfl];show go P _ Q .normal (bif (((σ.less N).set d (.v (.sc .z))).get d).avoids N then E (σ.set d (((σ.less N).set d (.v (.sc .z))).get d)) else G)=_
 rw[St.get_set_same,Up];rfl
theorem fV{N:O Y}:AV.avoids N (.tup [])=T:=rfl
theorem fU{N:O Y}{x:V1}{l:O V1}:AV.avoids N (.tup (x::l))=((AV.v x).avoids N&&(AV.tup l).avoids N):=by simp[AV.avoids,AV.cells]
theorem sW{t:TypeId}{d:D}:GI t (.v (.sc (.dat d)))=E (.v (.sc (.dat (.ifc t d)))):=rfl
theorem wW{t u:TypeId}{zc:AC}{d:D}:KQ t zc (.v (.sc (.dat (.ifc u d))))=bif u==t then E (.tup [.sc (.dat d),.sc (.dat (.bool T))]) else E (.tup [.sc zc,.sc (.dat (.bool F))]):=rfl
theorem mX{id:Y}{ds:O D}{d:D}:AC.frzb id ds (.dat d)= .dat d:=rfl
theorem mZ{id:Y}{ds:O D}:AC.frzb id ds .nil= .nil:=rfl
theorem mc{id:Y}{ds:O D}:AC.frzb id ds .undef= .undef:=rfl
theorem ma{id i:Y}{ds:O D}:AC.frzb id ds (.own i)= .own i:=rfl
theorem mb{id i a b:Y}{ds:O D}:AC.frzb id ds (.osub i a b)= .osub i a b:=rfl
theorem mY{id i a b:Y}{ds:O D}:AC.frzb id ds (.pe i a b)= .pe i a b:=rfl
theorem mW{id i a:Y}{ds:O D}:AC.frzb id ds (.pb i a)=bif i==id then .dat (.pd (ds.drop a)) else .pb i a:=rfl
theorem uD{a b:Y}{d:D}:AC.ren a b (.dat d)= .dat d:=rfl
theorem uF{a b:Y}:AC.ren a b .nil= .nil:=rfl
theorem uI{a b:Y}:AC.ren a b .undef= .undef:=rfl
theorem uG{a b i:Y}:AC.ren a b (.own i)= .own (bif i==a then b else i):=rfl
theorem uH{a b i x y:Y}:AC.ren a b (.osub i x y)= .osub (bif i==a then b else i) x y:=rfl
theorem uE{a b i x y:Y}:AC.ren a b (.pe i x y)= .pe (bif i==a then b else i) x y:=rfl
theorem uB{a b i x:Y}:AC.ren a b (.pb i x)= .pb i x:=rfl
theorem oI{P:Program}{k:O Fr}{Q:Xn→St→Prop}{σ:St}{its:O AItem}{a b:Y}{r:Y × O (O D)}(h1:σ.has b=F)(hf:A2 σ.rows a=E r)(H:go P (.ops its::k) Q .normal (E {(σ.map (AC.ren a b)) with rows:=put (erase σ.rows [a]) b r }))
  (h0:(a / 99999999999==0)=T:=by rfl) (h2:(b / 99999999999==0)=T:=by rfl):go P (.ops ((G,.ren a b)::its)::k) Q .normal (E σ):=by
 rw[oH];simp only[St.step,h1,hf,h0,h2,I,zD,Bool.or_self,zC,if_false];exact H
theorem sV{t:TypeId}{a b:D}:GI t (.v (.ag [.dat a,.dat b]))=E (.v (.sc (.dat (.ifs t [a,b])))):=rfl
def FCq(P:Program)(f:FuncId)(ds:O DV)(rs:O R1):U D→Prop
 | none=>FC P f ds rs
 | some d=>KX P f ds d
theorem FCq.none{P:Program}{f:FuncId}{ds:O DV}{rs:O R1}{pd:U D}(h:FCq P f ds rs pd)(hp:pd=G):FC P f ds rs:=by subst hp; exact h
theorem FCq.some{P:Program}{f:FuncId}{ds:O DV}{rs:O R1}{pd:U D}{d:D}(h:FCq P f ds rs pd)(hp:pd=E d):KX P f ds d:=by subst hp; exact h
theorem sX{t:TypeId}{id:Y}:GI t (.v (.sc (.pb id 0)))=E (.v (.sc (.ipb t id))):=rfl
theorem rE{id i:Y}{t:TypeId}:AC.kill id (.ipb t i)= .ipb t i:=rfl
theorem mP{id i:Y}{t:TypeId}{es:O (O D)}:AC.frz id es (.ipb t i)= .ipb t i:=rfl
theorem md{g:W}{ks:O FK}{cs ds:O AC}:Kr g ks (.v (.ag cs)) (.v (.ag ds))=(Bi ks cs ds).map fun b=> .v (.sc (.dat (.bool (bif g then !b else b)))):=rfl
theorem lQ:Bi [] [] []=E T:=rfl
theorem lP{k:IntKind}{x y:V}{ks:O FK}{cs ds:O AC}:Bi (.i::ks) (.dat (.int k x)::cs) (.dat (.int k y)::ds)=(Bi ks cs ds).map fun b=>(x==y)&&b:=if_pos rfl
theorem lO{x y:W}{ks:O FK}{cs ds:O AC}:Bi (.b::ks) (.dat (.bool x)::cs) (.dat (.bool y)::ds)=(Bi ks cs ds).map fun b=>(x==y)&&b:=rfl
theorem lR{x y:O UInt8}{ks:O FK}{cs ds:O AC}:Bi (.s::ks) (.dat (.str x)::cs) (.dat (.str y)::ds)=(Bi ks cs ds).map fun b=>(x==y)&&b:=rfl
def ub:=Z @Up (Z @A5v (Z @fV (Z @fU (Z @qL (Z @tl (Z @tm (Z @nl (Z @oR (Z @Ze (Z @Zo (Z @iO (Z @iy (Z @jr (Z @iY (Z @jH (Z @kf (Z @sW (Z @wW (Z @mX (Z @mZ (Z @mc (Z @ma (Z @mb (Z @mY (Z @mW (Z @sX (Z @rE (Z @mP (Z @uD (Z @uF (Z @uI (Z @uG (Z @uH (Z @uE (Z @uB (Z @oA (Z @nF (Z @oC (Z @nA (Z @sV (Z @Z8 (Z @nb (Z @iH (Z @ip (Z @jk (Z @md (Z @lQ (Z @lP (Z @lO @lR)))))))))))))))))))))))))))))))))))))))))))))))))
end Go.Vi
