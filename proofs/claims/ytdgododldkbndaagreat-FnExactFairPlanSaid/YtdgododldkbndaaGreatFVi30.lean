/-
The value level. No condition.
-/
import Derived.Test.YtdgododldkbndaaGreatFVi28
namespace Go.Vi
set_option linter.all false
open And renaming intro → Z
open List renaming map → A, mem_singleton → B, replicate → zB
open Bool renaming and_self → I, false_eq_true → zD, not_true → zE, true → T, false → F
open Nat renaming le_of_ble_eq_true → zA, one_pos → zC
open Option renaming some → E, none → G
open _root_ renaming List → O, Option → U, Int → V, Bool → W, Nat → Y
abbrev S(n:Y):Opd:= .t n
abbrev K(n:V):Opd:= .c (.v (.sc (.dat (.int .i64 n))))
abbrev K8(n:V):Opd:= .c (.v (.sc (.dat (.int .u8 n))))
abbrev KB(b:W):Opd:= .c (.v (.sc (.dat (.bool b))))
abbrev KS(s:O UInt8):Opd:= .c (.v (.sc (.dat (.str s))))
abbrev KN:Opd:= .c (.v (.sc .nil))
abbrev aI(n:V):AC:= .dat (.int .i64 n)
abbrev a8(n:V):AC:= .dat (.int .u8 n)
abbrev aB(b:W):AC:= .dat (.bool b)
abbrev aS(s:O UInt8):AC:= .dat (.str s)
abbrev aL(es:O (O D)):AC:= .dat (.sl es)
abbrev vc(c:AC):AV:= .v (.sc c)
abbrev va(cs:O AC):AV:= .v (.ag cs)
def rI(n:V):O D:= [.int .i64 n]
def r8(n:V):O D:= [.int .u8 n]
def rB(b:W):O D:= [.bool b]
def rS(s:O UInt8):O D:= [.str s]
def rL{α:Type}(row:α→O D)(xs:O α):O D:= [.sl (xs.map row)]
class Row {α:Type} (row:α→O D) (sz:Y):Prop where
 len:∀x,(row x).length=sz
 pos:0<sz
instance:Row rI 1:=⟨fun _=>rfl,zC⟩
instance:Row r8 1:=⟨fun _=>rfl,zC⟩
instance:Row rB 1:=⟨fun _=>rfl,zC⟩
instance:Row rS 1:=⟨fun _=>rfl,zC⟩
instance {α:Type} (row:α→O D):Row (rL row) 1:=⟨fun _=>rfl,zC⟩
theorem Yv(n:V):rI n= [.int .i64 n]:=rfl
def Zu(n:V):UInt8:=UInt8.ofNat n.toNat
theorem UA:∀{xs:O V},Db (A r8 xs)=E (A Zu xs)
 | []=>rfl
 | n::xs=>by
  show(Db (A r8 xs)).map _=_
  rw[UA];rfl
theorem ti(n:V):r8 n= [.int .u8 n]:=rfl
theorem tj(b:W):rB b= [.bool b]:=rfl
theorem tl(s:O UInt8):rS s= [.str s]:=rfl
theorem tk{α:Type}(row:α→O D)(xs:O α):rL row xs= [.sl (xs.map row)]:=rfl
theorem Uc{α:Type}{row:α→O D}{sz:Y}(h:∀x,(row x).length=sz)(xs:O α):(xs.map row).all (fun d=>d.length==sz)=T:=by
 simp[List.all_map,Function.comp_def,h]
@[irreducible] def bigN:Y:=1208925819614629174706176
def bnd(m h l:V)(n:Y):U (Y × Y):=if 0≤l∧l≤h∧h≤m∧m≤n then E (l.toNat,h.toNat) else G
def Bq(l c:V)(bytes:Y):U Y:=if 0≤l∧l≤c∧c*bytes≤140737488355328∧c≤4611686018427387904 then E l.toNat else G
def A3(n m bytes:Y):W:=decide ((n+m)*bytes≤140737488355328∧n+m≤4611686018427387904)
def JD(n m:Y):W:=decide (n+m≤4611686018427387904)
theorem Qf{α β:Type}{f:α→β}{l:O α}{i:V}:ix (l.map f) i=(ix l i).map f:=by
 unfold ix;split<;>simp
theorem Au{α:Type}{l:O α}{i:V}{x:α}(h:ix l i=E x):l[i.toNat]?=E x:=by
 unfold ix at h;split at h
 ·exact h
 ·cases h
theorem ob{α β:Type}{o:U α}{f:α→U β}{r:β}(h:o.bind f=E r):∃a,o=E a∧f a=E r:=Option.bind_eq_some_iff.1 h
class FlatRow {α:Type} (row:α→O D):Prop where
 flat:∀x,∀d∈row x,d.flat=T
instance:FlatRow rI:=⟨fun _ d h=>by rw[B.1 h]; rfl⟩
instance:FlatRow r8:=⟨fun _ d h=>by rw[B.1 h]; rfl⟩
instance:FlatRow rB:=⟨fun _ d h=>by rw[B.1 h]; rfl⟩
instance:FlatRow rS:=⟨fun _ d h=>by rw[B.1 h]; rfl⟩
def TC:O RC→Prop
 | []=>True
 | c::cs=>c.flat∧TC cs
theorem CM{rs:O R1}{cs:O RC}(h:rs.flatMap R1.cells=cs)(hf:TC cs):CL rs:=by
 subst h;unfold CL;generalize rs.flatMap R1.cells=l at hf
 induction l with
 | nil=>intro c hc; simp at hc
 | cons a l ih=>
  intro c hc;rcases List.mem_cons.1 hc with rfl|hc
  ·exact hf.1
  ·exact ih hf.2 c hc
theorem CA{α:Type}{row:α→O D} [FlatRow row]{sz:Y}{xs:O α}:RC.flat (.o sz (A row xs)):=by
 intro r hr;obtain⟨x,_,rfl⟩:=List.mem_map.1 hr;exact FlatRow.flat x
theorem Jc{α:Type}{row:α→O D}{z:α}{zs:O D}{n:Y}(h:row z=zs):zB n zs=A row (zB n z):=by rw[List.map_replicate,h]
theorem AU{α:Type}{b:W}{x:U α}{r:α}(h:(if b=T then x else G)=E r):b=T∧x=E r:=by
 cases b
 ·rw[if_neg Bool.false_ne_true] at h; cases h
 ·exact⟨rfl,by simpa using h⟩
theorem J8{α:Type}{b:W}{x:U α}{r:α}(h:(if b=T then G else x)=E r):b=F∧x=E r:=by
 cases b
 ·exact⟨rfl,by simpa using h⟩
 ·rw[if_pos rfl] at h; cases h
theorem ic{α:Type}{b:W}{x y:U α}{r:α}(h:(if b=T then x else y)=E r):(b=T∧x=E r)∨(b=F∧y=E r):=by
 cases b with
 | true=>exact .inl ⟨rfl,h⟩
 | false=>exact .inr ⟨rfl,h⟩
section
variable {P : Program} {k : O Fr} {Q : Xm → St → Prop} {σ : St} {its : O AItem} {ds : O AZ} {o : AOp} {d : Y}
theorem AL{c:Xh}(h:go P (.code c:: .code (.loop c)::k) Q .normal (E σ)):go P (.code (.loop c)::k) Q .normal (E σ):=by
 intro X hX;refine hX σ (Up c (fun e σ' h=> ?_) h);cases e with
 | normal=>exact h X hX
 | exit id=>exact h
 | ret=>exact h
 | pan d=>exact h
theorem bG(hm:P.follows .mixedOrders=T){f:FuncId}{c:Xh}{ts:O RV}{nt:Y}{ds:O DV}{rs:O R1}{σ:St}(he:B3 P f=E (c.strip,ts,nt))(hl:Nat.ble ds.length nt=T)(hσ:St.init ds=σ)
  (h:go P [.code c] (A8 ts rs) .normal (E σ)):FC P f ds rs:=bI hm he (zA hl) fun _=>PX (hσ▸h)
theorem bF(hm:P.follows .mixedOrders=T){f:FuncId}{c:Xh}{ts:O RV}{nt:Y}{ds:O DV}{rs:O R1}(he:B3 P f=E (c.strip,ts,nt))(hl:Nat.ble ds.length nt=T)
  (h:go P [.code c] (A8 ts rs) .normal (E (St.init ds))):FC P f ds rs:=bG hm he hl rfl h
theorem L4{sz:Y}{es:O (O D)}(hf:σ.fresh d=T):σ.make (.row d sz es)=E {(σ.set d (.v (.sc (.own (d*64))))) with rows:=put σ.rows (d*64) (sz,es)}:=by simp[St.make,hf]
theorem J1{cs:O AC}(hf:σ.fresh d=T)(hu:cs.all (fun c=> !c.uses d)=T):σ.make (.box d cs)=E {(σ.set d (.v (.sc (.pb d 0)))) with bx:=put σ.bx d cs}:=by simp only[St.make,hf,hu,I,if_true]
theorem PW{m:Mk}(ho:o.isMade=T)(hm:σ.made o=E m){σ':St}(hs:σ.make m=E σ')(H:go P (.ops its::k) Q .normal (E σ')):go P (.ops ((G,o)::its)::k) Q .normal (E σ):=by
 have hc:o.isCall=F:=by cases o<;>first | rfl | (simp[AOp.isMade] at ho; done)
 rw[B7 hc,vU ho,hm];show go P (.ops its::k) Q .normal (σ.make m)
 rw[hs];exact H
theorem nC{X:Opd}{y:V1}(hX:σ.val X= .v y)(hf:σ.fresh d=T)(hu:y.cells.all (fun c=> !c.uses d)=T)(H:go P (.ops its::k) Q .normal (E {(σ.set d (.v (.sc (.pb d 0)))) with bx:=put σ.bx d y.cells })) :
  go P (.ops ((G,.box d X)::its)::k) Q .normal (E σ):=PW rfl (by simp only[St.made,hX]) (J1 hf hu) H
theorem mg{cs:O AC}(hf:σ.fresh d=T)(hu:cs.all (fun c=> !c.uses d)=T)(H:go P (.ops its::k) Q .normal (E {(σ.set d (.v (.sc (.pb d 0)))) with bx:=put σ.bx d cs })) :
  go P (.ops ((G,.alloc d cs)::its)::k) Q .normal (E σ):=PW rfl rfl (J1 hf hu) H
theorem As{sz:Y}{zs:O D}{len:Y}{ps:O (Y × Opd)}{es:O (O D)}(hm:σ.made (.bslice d sz zs len ps)=E (.row d sz es))(hf:σ.fresh d=T)
  (H:go P (.ops its::k) Q .normal (E {(σ.set d (.v (.sc (.own (d*64))))) with rows:=put σ.rows (d*64) (sz,es) })):go P (.ops ((G,.bslice d sz zs len ps)::its)::k) Q .normal (E σ):=PW rfl hm (L4 hf) H
theorem Of{L C:Opd}{l c:V}{bytes n sz:Y}{zs:O D}{es:O (O D)}(hl:BY (σ.val L)=E l)(hc:BY (σ.val C)=E c)(hb:Bq l c bytes=E n)(hz:zs.length=sz)(he:zB n zs=es) :
  σ.made (.mksl d sz bytes zs L C)=E (.row d sz es):=by
 unfold Bq at hb
 split at hb
 ·rename_i h
  cases hb;subst he;simp only[St.made,hl,hc];rw[if_pos ⟨h.1,h.2.1,h.2.2.1,h.2.2.2,hz⟩]
 ·cases hb
theorem RN{L C:Opd}{l c:V}{bytes n sz:Y}{zs:O D}{es:O (O D)}(hl:BY (σ.val L)=E l)(hc:BY (σ.val C)=E c)(hb:Bq l c bytes=E n)(hz:zs.length=sz)(he:zB n zs=es)(hf:σ.fresh d=T)
  (H:go P (.ops its::k) Q .normal (E {(σ.set d (.v (.sc (.own (d*64))))) with rows:=put σ.rows (d*64) (sz,es) })):go P (.ops ((G,.mksl d sz bytes zs L C)::its)::k) Q .normal (E σ):=
 PW rfl (Of hl hc hb hz he) (L4 hf) H
theorem FI{n:Y}{N:O Y}{m:Mk}(hm:(σ.less (n::N)).made o=E m)(hv:XZ (n::N) m=T){σ':St}(hs:σ.make m=E σ')(H:go P (.dops ds::k) Q .normal (E σ')) :
  go P (.dops ((E (n::N),G,o)::ds)::k) Q .normal (E σ):=nJ hm hv hs H
theorem AR{α:Type}{env bx rows}{id sz i off n:Y}{xs:O α}{row:α→O D}{x y:α}{yv:V1}{dd:O D}(hd:yv.toDs=E dd)(hf:A1 rows id=E (sz,A row xs))
  (hx:xs[i]?=E x) (hn:dd.length=n) (ho:Nat.ble (off+n) (row x).length=T) (hy:FZ (row x) off dd=row y) (H:go P k Q .normal (E ⟨env,bx,put rows id (sz,A row (xs.set i y))⟩)) :
  go P k Q .normal (St.storeV ⟨env,bx,rows⟩ n (.v (.sc (.pe id i off))) (.v yv)):=by
 have e:St.storeV ⟨env,bx,rows⟩ n (.v (.sc (.pe id i off))) (.v yv)=E ⟨env,bx,put rows id (sz,A row (xs.set i y))⟩:=by
  simp only[St.storeV,hf,List.getElem?_map,hx,Option.map_some,hd];rw[if_pos ⟨hn,zA ho⟩,hy,List.map_set]
 rw[e];exact H
end
def Dz{α:Type}:Y→O α→U (O α)
 | 0,l=>E l
 | _+1,[]=>G
 | n+1,_::l=>Dz n l
def G1{α:Type}:Y→O α→U (O α)
 | 0,_=>E []
 | _+1,[]=>G
 | n+1,c::l=>(G1 n l).map (c:: ·)
def DH{α:Type}:O α→Y→W
 | [],0=>T
 | _::l,n+1=>DH l n
 | _,_=>F
def C3{α:Type}:O α→Y→W
 | _,0=>T
 | _::l,n+1=>C3 l n
 | [],_+1=>F
theorem LD{α:Type}:∀(n:Y) (l:O α),Dz n l=if n≤l.length then E (l.drop n) else G
 | 0,l=>by simp[Dz]
 | n+1,[]=>by simp[Dz]
 | n+1,c::l=>by simp[Dz,LD n l]
theorem Zp{α:Type}:∀(n:Y) (l:O α),G1 n l=if n≤l.length then E (l.take n) else G
 | 0,l=>by simp[G1]
 | n+1,[]=>by simp[G1]
 | n+1,c::l=>by simp only[G1,Zp n l]; split<;>simp_all
theorem SC{α:Type}:∀(l:O α) (n:Y),DH l n=decide (l.length=n)
 | [],0=>by simp[DH]
 | [],n+1=>by simp[DH]
 | _::l,0=>by simp[DH]
 | _::l,n+1=>by simp[DH,SC l n]
theorem Ob{α:Type}:∀(l:O α) (n:Y),C3 l n=decide (n≤l.length)
 | [],0=>by simp[C3]
 | [],n+1=>by simp[C3]
 | _::l,0=>by simp[C3]
 | _::l,n+1=>by simp[C3,Ob l n]
theorem jH{α:Type}{l:O α}:Dz 0 l=E l:=by cases l<;>rfl
theorem jI{α:Type}{n:Y}{c:α}{l:O α}:Dz (n+1) (c::l)=Dz n l:=rfl
theorem wG{α:Type}{l:O α}:G1 0 l=E []:=by cases l<;>rfl
theorem wH{α:Type}{n:Y}{c:α}{l:O α}:G1 (n+1) (c::l)=(G1 n l).map (c:: ·):=rfl
theorem rT{α:Type}:DH ([]:O α) 0=T:=rfl
theorem rV{α:Type}{n:Y}{c:α}{l:O α}:DH (c::l) (n+1)=DH l n:=rfl
theorem rQ{α:Type}{l:O α}:C3 l 0=T:=by cases l<;>rfl
theorem rR{α:Type}{n:Y}{c:α}{l:O α}:C3 (c::l) (n+1)=C3 l n:=rfl
theorem gP{cs:O AC}{off n:Y}:CV cs off T n=(Dz off cs).bind fun l=>(G1 n l).map fun l=> .v (.ag l):=by
 simp only[CV,cond_true,LD,Zp];by_cases h:off≤cs.length
 ·rw[if_pos h];by_cases h2:off+n≤cs.length
  ·rw[if_pos h2,Option.bind_some,if_pos (by simp; omega)]; rfl
  ·rw[if_neg h2,Option.bind_some,if_neg (by simp; omega)]; rfl
 ·rw[if_neg h,if_neg (by omega)]; rfl
theorem ua{cs:O AC}:BK cs 0 []=cs:=by simp[BK]
theorem uc{c:AC}{cs ds:O AC}{n:Y}:BK (c::cs) (n+1) ds=c::BK cs n ds:=by
 simp only[BK,List.take_succ_cons,List.cons_append];rw[show n+1+ds.length=(n+ds.length)+1 by omega,List.drop_succ_cons]
theorem ud{c d:AC}{cs ds:O AC}:BK (c::cs) 0 (d::ds)=d::BK cs 0 ds:=by simp[BK]
theorem JB{α β:Type}{a:α}{f:α→U β}:(E a).bind f=f a:=rfl
theorem ft{α β:Type}{f:α→U β}:(G:U α).bind f=G:=rfl
theorem get_map{α β:Type}{f:α→β}{l:O α}{i:Y}:(A f l)[i]?=(l[i]?).map f:=List.getElem?_map
theorem me{α:Type}{a:α}{l:O α}:(a::l)[0]?=E a:=rfl
theorem md{α:Type}{a:α}{l:O α}{n:Y}:(a::l)[n+1]?=l[n]?:=by simp
theorem jC:A AC.dat []= []:=rfl
theorem jB{d:D}{l:O D}:A AC.dat (d::l)= .dat d::A AC.dat l:=rfl
section
variable {P : Program} {k : O Fr} {Q : Xm → St → Prop} {σ : St} {its : O AItem} {env : O (Y × AV)} {bx : O (Y × O AC)} {rows : Rows}
theorem pH{α:Type}{rs:Rows}{sz:Y}{xs:O α}{row:α→O D} [Row row sz]{kd:IntKind}{i:V}:D5 rs sz (.v (.sc (.dat (.sl (A row xs))))) (.v (.sc (.dat (.int kd i))))=(ix xs i).map fun x=> .v (.sc (.dat (.pd (row x)))):=by
 simp only[D5,Qf];cases ix xs i with
 | none=>rfl
 | some x=>simp[Row.len (row:=row) (sz:=sz),Row.pos row]
theorem pG{rs:Rows}{sz id:Y}{kd:IntKind}{i:V}:D5 rs sz (.v (.sc (.own id))) (.v (.sc (.dat (.int kd i))))=(A1 rs id).bind fun p=>(ix p.2 i).bind fun _=>bif p.1==sz then E (.v (.sc (.pe id i.toNat 0))) else G:=by
 simp only[D5];cases A1 rs id with
 | none=>rfl
 | some p=>
  obtain⟨a,es⟩:=p;simp only[JB];cases ix es i with
  | none=>rfl
  | some x=>
   by_cases h:a=sz
   ·simp[h]
   ·have h':(a==sz)=F:=by simpa using h
    simp[h,h']
theorem rp{g:W}{n id off:Y}:CP ⟨env,bx,rows⟩ g n (.v (.sc (.pb id off)))=(A1 bx id).bind fun cs=>CV cs off g n:=by
 show(match A1 bx id with | some cs=>_ | none=>G)=_
 cases A1 bx id<;>rfl
theorem rr{g:W}{n id i off:Y}:CP ⟨env,bx,rows⟩ g n (.v (.sc (.pe id i off)))=(A1 rows id).bind fun p=>(p.2[i]?).bind fun d=>CV (A AC.dat d) off g n:=by
 simp only[CP];cases A1 rows id with
 | none=>rfl
 | some p=>
  simp only[JB];cases p.2[i]?<;>rfl
theorem rq{g:W}{n:Y}{cs:O D}:CP σ g n (.v (.sc (.dat (.pd cs))))=CV (A AC.dat cs) 0 g n:=rfl
theorem lh{rs:Rows}{off id i o:Y}:Cz rs off (.v (.sc (.pe id i o)))=(A1 rs id).map fun _=> .v (.sc (.pe id i (o+off))):=by
 simp only[Cz];cases A1 rs id<;>rfl
theorem lg{rs:Rows}{off:Y}{cs:O D}:Cz rs off (.v (.sc (.dat (.pd cs))))=(Dz off cs).map fun cs=> .v (.sc (.dat (.pd cs))):=by
 simp only[Cz,LD];split<;>rfl
theorem lZ{l:O V1}{i:Y}:JN i (.tup l)=(l[i]?).map .v:=rfl
theorem sZ{id off:Y}:FT (.v (.sc (.pb id off)))=E (.v (.sc (.pb id off))):=rfl
theorem sa{cs:O D}:FT (.v (.sc (.dat (.pd cs))))=E (.v (.sc (.dat (.pd cs)))):=rfl
theorem wy:A (St.val σ) []= []:=rfl
theorem wx{x:Opd}{l:O Opd}:A (St.val σ) (x::l)=σ.val x::A (St.val σ) l:=rfl
theorem sP{f:FuncId}:FS f []=E []:=rfl
theorem sJ{f:FuncId}:FQ f []=E (.clo f []):=rfl
theorem sK{f:FuncId}{id:Y}{r:O AV}:FQ f (.v (.sc (.pb id 0))::r)=(FS f (.v (.sc (.pb id 0))::r)).map (.clo f):=rfl
theorem sI{f:FuncId}{d:D}{r:O AV}:FQ f (.v (.sc (.dat d))::r)=(FR (.v (.sc (.dat d))::r)).map fun q=> .dat (.clo f q):=rfl
theorem sN:FR []=E []:=rfl
theorem sM{ds:O D}{r:O AV}:FR (.v (.sc (.dat (.pd ds)))::r)=(FR r).map (.pd ds:: ·):=rfl
theorem sO{f:FuncId}{id:Y}{r:O AV}:FS f (.v (.sc (.pb id 0))::r)=(FS f r).map (id:: ·):=rfl
def P5(K:O AC→U (O AC))(off n:Y)(cs:O AC):AV→U (O AC)
 | .v x=>bif DH x.cells n&&C3 cs (off+n) then K (BK cs off x.cells) else G
 | _=>G
def G9(σ:St):O (Y × Y × Opd)→O AC→U (O AC)
 | [],cs=>E cs
 | (off,n,x)::r,cs=>P5 (G9 σ r) off n cs (σ.val x)
theorem Rm:∀(ps:O (Y × Y × Opd)) (cs:O AC),Dj cs (ps.map fun p=>(p.1,p.2.1,σ.val p.2.2))=G9 σ ps cs
 | [],cs=>rfl
 | (off,n,x)::r,cs=>by
  simp only[List.map_cons,G9];generalize σ.val x=v
  cases v with
  | v y=>
   simp only[Dj,P5,SC,Ob];by_cases h1:y.cells.length=n
   ·by_cases h2:off+n≤cs.length
    ·subst h1;simp only[h2,and_self,if_true,decide_true,I,cond_true];exact Rm r _
    ·simp[h1,h2]
   ·simp[h1]
  | _=>rfl
theorem fx{cs:O AC}:G9 σ [] cs=E cs:=rfl
theorem fw{off n:Y}{x:Opd}{r:O (Y × Y × Opd)}{cs:O AC}:G9 σ ((off,n,x)::r) cs=P5 (G9 σ r) off n cs (σ.val x):=rfl
theorem fv{K:O AC→U (O AC)}{off n:Y}{cs:O AC}{x:V1}:P5 K off n cs (.v x)=bif DH x.cells n&&C3 cs (off+n) then K (BK cs off x.cells) else G:=rfl
theorem mr{d zs ps}:go P (.ops ((G,.build d zs ps)::its)::k) Q .normal (E σ)=go P (.ops its::k) Q .normal (AA σ d ((G9 σ ps zs).map fun cs=> .v (.ag cs))):=by rw[nB,Rm]
theorem vP{d zs ps}:σ.step (.build d zs ps)=AA σ d ((G9 σ ps zs).map fun cs=> .v (.ag cs)):=by rw[Z0,Rm]
theorem vY{n id off:Y}{y:V1}:St.storeV ⟨env,bx,rows⟩ n (.v (.sc (.pb id off))) (.v y)=(A1 bx id).bind fun cs=>bif DH y.cells n&&C3 cs (off+n) then E ⟨env,put bx id (BK cs off y.cells),rows⟩ else G:=by
 simp only[St.storeV,SC,Ob];cases A1 bx id with
 | none=>rfl
 | some cs=>
  simp only[JB];by_cases h1:y.cells.length=n
  ·by_cases h2:off+n≤cs.length
   ·simp[h1,h2]
   ·simp[h1,h2]
  ·simp[h1]
def QC(sz:Y)(es:O (O D)):W:=es.all fun r=>r.length==sz
theorem uN{α:Type}{sz:Y}{row:α→O D} [Row row sz]{xs:O α}:QC sz (A row xs)=T:=Uc (Row.len (row:=row)) xs
theorem fA{d sz bytes id:Y}{y:AV}:St.appV ⟨env,bx,rows⟩ d sz bytes (.v (.sc (.own id))) y=bif id / 99999999999==0 then((A1 rows id).bind fun p=>(appSrc rows y).bind fun es'=>
  bif (p.1==sz)&&(QC sz es'&&A3 p.2.length es'.length bytes) then E ⟨put (env.map fun p=>(p.1,p.2.map (AC.kill id))) d (.v (.sc (.own id))),bx.map fun p=>(p.1,p.2.map (AC.kill id)),put rows id (sz,p.2++es')⟩ else G) else G:=by
 simp only[St.appV];by_cases h0:id / 99999999999=0
 rotate_left
 ·rw[if_neg h0,show(id / 99999999999==0)=F by simpa using h0];rfl
 rw[if_pos h0,show(id / 99999999999==0)=T by simpa using h0,cond_true];cases A1 rows id with
 | none=>rfl
 | some p=>
  obtain⟨a,es⟩:=p;simp only[JB];cases appSrc rows y with
  | none=>rfl
  | some es'=>
   simp only[JB];by_cases h1:a=sz
   ·by_cases h2:QC sz es'=T
    ·by_cases h3:A3 es.length es'.length bytes=T
     ·have h3':=of_decide_eq_true h3;rw[if_pos ⟨h1,h2,h3'.1,h3'.2⟩];simp only[h1,beq_self_eq_true,h2,h3,I,cond_true];rfl
     ·have h3':A3 es.length es'.length bytes=F:=by simpa using h3
      rw[if_neg (fun h=>h3 (decide_eq_true ⟨h.2.2.1,h.2.2.2⟩))];simp[h3']
    ·have h2':QC sz es'=F:=by simpa using h2
     rw[if_neg (fun h=>h2 h.2.1)];simp[h2']
   ·have h1':(a==sz)=F:=by simpa using h1
    rw[if_neg (fun h=>h1 h.1)];simp[h1']
theorem vH{rs:Rows}{es:O (O D)}:appSrc rs (.v (.sc (.dat (.sl es))))=E es:=rfl
theorem vI{rs:Rows}:appSrc rs (.v (.sc .nil))=E []:=rfl
theorem vJ{rs:Rows}{id:Y}:appSrc rs (.v (.sc (.own id)))=(A1 rs id).map fun p=>p.2:=by
 simp only[appSrc,toD0];cases A1 rs id<;>rfl
theorem sA{α:Type}{f:α→O D}{a b:O α}:A f a++A f b=A f (a++b):=List.map_append.symm
def EM(σ:St)(n:Y):U Opd→U V
 | none=>E n
 | some x=>BY (σ.val x)
def Hh(n:Y):U V→U V→U V→U (Y × Y)
 | some m,E h,E l=>bnd m h l n
 | _,_,_=>G
theorem Rn{lo hi mx:U Opd}{n:Y}:DT σ lo hi mx n=Hh n (EM σ n mx) (EM σ n hi) (match lo with | none=>E 0 | some x=>BY (σ.val x)):=by
 cases mx<;>cases hi<;>cases lo<;>(simp only[DT,Hh,EM]; first | rfl | (split<;>simp_all[Hh,bnd]))
def On(σ:St):U Opd→U V
 | none=>E 0
 | some x=>BY (σ.val x)
theorem um{α:Type}{sz:Y}{lo hi mx:U Opd}{xs:O α}{row:α→O D} [Row row sz]:Ef σ sz (.v (.sc (.dat (.sl (A row xs))))) lo hi mx=(Hh xs.length (EM σ xs.length mx) (EM σ xs.length hi) (On σ lo)).map fun p=> .v (.sc (.dat (.sl (A row ((xs.drop p.1).take (p.2 - p.1)))))):=by
 have h:(A row xs).all (fun d=>d.length==sz)=T:=Uc (Row.len (row:=row)) xs;simp only[Ef,h,Row.pos row (sz:=sz),decide_true,I,if_true,List.length_map,Rn];cases lo<;>simp[On,List.map_drop,List.map_take]
theorem vO{lo hi:U Opd}{s:O UInt8}:H5 σ (.v (.sc (.dat (.str s)))) lo hi=(Hh s.length (EM σ s.length G) (EM σ s.length hi) (On σ lo)).map fun p=> .v (.sc (.dat (.str ((s.drop p.1).take (p.2 - p.1))))):=by
 simp only[H5,Rn];cases lo<;>rfl
theorem tB{n:Y}:EM σ n G=E (n:V):=rfl
theorem tC{n:Y}{x:Opd}:EM σ n (E x)=BY (σ.val x):=rfl
theorem sy:On σ G=E 0:=rfl
theorem tA{x:Opd}:On σ (E x)=BY (σ.val x):=rfl
theorem fD{kd:IntKind}{i:V}:BY (.v (.sc (.dat (.int kd i))))=E i:=rfl
theorem gA{n:Y}{m h l:V}:Hh n (E m) (E h) (E l)=bnd m h l n:=rfl
theorem vg{x y:O UInt8}:H7 .add x y=bif JD x.length y.length then E (.str (x++y)) else G:=by
 simp only[H7,JD];by_cases h:x.length+y.length≤4611686018427387904
 ·simp[h]
 ·simp[h]
theorem qJ{k:IntKind}{x y:V}:AS .and k x y=E (.int k (Be .and k x y)):=rfl
theorem qS{k:IntKind}{x y:V}:AS .or k x y=E (.int k (Be .or k x y)):=rfl
theorem qb{k:IntKind}{x y:V}:AS .xor k x y=E (.int k (Be .xor k x y)):=rfl
theorem fe:(T==T)=T:=rfl
theorem fc:(T==F)=F:=rfl
theorem fZ:(F==T)=F:=rfl
theorem fY:(F==F)=T:=rfl
theorem eY{b:W}:(F&&b)=F:=rfl
end
def Yk{α:Type}(k:Y):U α→O (Y × α)→O (Y × α)
 | some v,r=>(k,v)::r
 | none,r=>r
theorem tR{α:Type}{l:O (Y × α)}:Cr l []= []:=rfl
theorem tQ{α:Type}{l:O (Y × α)}{k:Y}{ks:O Y}:Cr l (k::ks)=Yk k (A1 l k) (Cr l ks):=by
 show(match A1 l k with | some v=>_ | none=>_)=_
 cases A1 l k<;>rfl
theorem tP{α:Type}{k:Y}{v:α}{r:O (Y × α)}:Yk k (E v) r=(k,v)::r:=rfl
theorem qg{env bx rows ks bs rs}:(St.mk env bx rows).kept ks bs rs=⟨Cr env ks,Cr bx bs,Cr rows rs⟩:=rfl
theorem nf{P:Program}{k:O Fr}{Q:Xm→St→Prop}{σ:St}{its:O AItem}{ks bs rs:O Y}:go P (.ops ((G,.keep ks bs rs)::its)::k) Q .normal (E σ)=go P (.ops its::k) Q .normal (E (σ.kept ks bs rs)):=B7 rfl
theorem tS{b:W}{x y:AV}:Ld (.v (.sc (.dat (.bool b)))) x y=E (bif b then x else y):=rfl
theorem fX{g x y:W}:JA g (.v (.sc (.dat (.bool x)))) (.v (.sc (.dat (.bool y))))=E (.v (.sc (.dat (.bool (bif g then !(x==y) else x==y))))):=rfl
theorem sU{m:W}{k:IntKind}{x y:V}:J4 m (.v (.sc (.dat (.int k x)))) (.v (.sc (.dat (.int k y))))=E (.v (.sc (.dat (.int k (bif m then(if x<y then y else x) else(if y<x then y else x)))))):=by simp[J4]
theorem wi{k:IntKind}{x:V}:Jo .neg (.v (.sc (.dat (.int k x))))=E (.v (.sc (.dat (.int k (k.wrap (0 - x)))))):=rfl
theorem lf{rs:Rows}{off id o:Y}:Cz rs off (.v (.sc (.pb id o)))=E (.v (.sc (.pb id (o+off)))):=rfl
theorem rZ{rs:Rows}{id:Y}:E8 rs (.v (.sc (.own id)))=(A1 rs id).map fun p=> .v (.sc (.dat (.int .i64 p.2.length))):=by
 show(match A1 rs id with | some (_,es)=>_ | none=>_)=_
 cases A1 rs id<;>rfl
theorem pr{k:Y}:FM k []= []:=rfl
theorem pq{k:Y}{d:DV}{ds:O DV}:FM k (d::ds)=(k,d.av)::FM (k+1) ds:=rfl
theorem pv{ds:O DV}:St.init ds=⟨FM 0 ds,[],[]⟩:=rfl
theorem jr{d:D}:DV.av (.sc d)= .v (.sc (.dat d)):=rfl
theorem jq{ds:O D}:DV.av (.ag ds)= .v (.ag (ds.map .dat)):=rfl
theorem rn{f:AC→AC}:A (V1.map f) []= []:=rfl
theorem rl{f:AC→AC}{x:V1}{l:O V1}:A (V1.map f) (x::l)=x.map f::A (V1.map f) l:=rfl
theorem qz{f:AC→AC}:A (fun p:Y × AV=>(p.1,p.2.map f)) []= []:=rfl
theorem qy{f:AC→AC}{k:Y}{v:AV}{l:O (Y × AV)}:A (fun p:Y × AV=>(p.1,p.2.map f)) ((k,v)::l)=(k,v.map f)::A (fun p:Y × AV=>(p.1,p.2.map f)) l:=rfl
theorem fz{f:AC→AC}:A (fun p:Y × O AC=>(p.1,p.2.map f)) []= []:=rfl
theorem fy{f:AC→AC}{k:Y}{v:O AC}{l:O (Y × O AC)}:A (fun p:Y × O AC=>(p.1,p.2.map f)) ((k,v)::l)=(k,v.map f)::A (fun p:Y × O AC=>(p.1,p.2.map f)) l:=rfl
theorem gX{f:AC→AC}:A f ([]:O AC)= []:=rfl
theorem gW{f:AC→AC}{c:AC}{l:O AC}:A f (c::l)=f c::A f l:=rfl
theorem rk{α β:Type}{f:α→β}{l:O α}:(A f l).length=l.length:=List.length_map ..
theorem gO{c:AC}:V1.cells (.sc c)= [c]:=rfl
theorem gK{cs:O AC}:V1.cells (.ag cs)=cs:=rfl
theorem sB{f:AC→AC}{env bx rows}:(St.mk env bx rows).map f=⟨env.map fun p=>(p.1,p.2.map f),bx.map fun p=>(p.1,p.2.map f),rows⟩:=rfl
theorem fQ{f:AC→AC}{c:AC}:AV.map f (.v (.sc c))= .v (.sc (f c)):=rfl
theorem fP{f:AC→AC}{cs:O AC}:AV.map f (.v (.ag cs))= .v (.ag (cs.map f)):=rfl
theorem fS{f:AC→AC}:AV.map f .undef= .undef:=rfl
theorem fO{f:AC→AC}:AV.map f .no= .no:=rfl
theorem fR{f:AC→AC}{l:O V1}:AV.map f (.tup l)= .tup (l.map (V1.map f)):=rfl
theorem wq{f:AC→AC}{c:AC}:V1.map f (.sc c)= .sc (f c):=rfl
theorem wo{f:AC→AC}{cs:O AC}:V1.map f (.ag cs)= .ag (cs.map f):=rfl
theorem qm{id:Y}{d:D}:AC.kill id (.dat d)= .dat d:=rfl
theorem qp{id:Y}:AC.kill id .nil= .nil:=rfl
theorem qu{id:Y}:AC.kill id .undef= .undef:=rfl
theorem qq{id i:Y}:AC.kill id (.own i)=bif i==id then .undef else .own i:=rfl
theorem qt{id i a b:Y}:AC.kill id (.osub i a b)=bif i==id then .undef else .osub i a b:=rfl
theorem qn{id i a b:Y}:AC.kill id (.pe i a b)=bif i==id then .undef else .pe i a b:=rfl
theorem qj{id i a:Y}:AC.kill id (.pb i a)= .pb i a:=rfl
theorem qk{id f:Y}{is:O Y}:AC.kill id (.clo f is)= .clo f is:=rfl
theorem mL{id:Y}{es:O (O D)}{d:D}:AC.frz id es (.dat d)= .dat d:=rfl
theorem mO{id:Y}{es:O (O D)}:AC.frz id es .nil= .nil:=rfl
theorem mS{id:Y}{es:O (O D)}:AC.frz id es .undef= .undef:=rfl
theorem mP{id i:Y}{es:O (O D)}:AC.frz id es (.own i)=bif i==id then .dat (.sl es) else .own i:=rfl
theorem mR{id i a b:Y}{es:O (O D)}:AC.frz id es (.osub i a b)=bif i==id then .undef else .osub i a b:=rfl
theorem mM{id i a b:Y}{es:O (O D)}:AC.frz id es (.pe i a b)=bif i==id then .undef else .pe i a b:=rfl
theorem mI{id i a:Y}{es:O (O D)}:AC.frz id es (.pb i a)= .pb i a:=rfl
theorem mJ{id f:Y}{es:O (O D)}{is:O Y}:AC.frz id es (.clo f is)= .clo f is:=rfl
theorem nU{P:Program}{k:O Fr}{Q:Xm→St→Prop}{σ:St}{its:O AItem}{id sz:Y}{es:O (O D)}(hf:A1 σ.rows id=E (sz,es))(H:go P (.ops its::k) Q .normal (E {(σ.map (AC.frz id es)) with rows:=erase σ.rows [id] }))(h0:(id / 99999999999==0)=T:=by rfl) :
  go P (.ops ((G,.frz id)::its)::k) Q .normal (E σ):=by
 rw[nT];simp only[St.step,hf,h0,zE,zD,if_false];exact H
theorem FJ{P:Program}{k:O Fr}{Q:Xm→St→Prop}{σ:St}{its:O AItem}{b j id sz:Y}{cs cs':O AC}(h1:σ.has id=F)(h2:A1 σ.bx b=E cs)(h3:cs[j]?=E .nil)(h4:cs.set j (.own id)=cs')
  (H:go P (.ops its::k) Q .normal (E {σ with bx:=put σ.bx b cs',rows:=put σ.rows id (sz,[]) })) (h0:(id / 99999999999==0)=T:=by rfl):go P (.ops ((G,.ownb b j id sz)::its)::k) Q .normal (E σ):=by
 rw[nx];subst h4;simp only[St.step,h1,h2,h3,h0,zE,Bool.or_self,zD,if_false];exact H
theorem lR{α:Type}{ks:O Y}:erase ([]:O (Y × α)) ks= []:=rfl
theorem lS{α:Type}{k n:Y}{v:α}{r:O (Y × α)}:erase ((k,v)::r) [n]=bif k==n then erase r [n] else(k,v)::erase r [n]:=by
 by_cases h:k=n
 ·simp[erase,h]
 ·have h':(k==n)=F:=by simpa using h
  simp[erase,h,h']
theorem uD{ts:O RV}{rs:O R1}{σ:St}:A8 ts rs .ret σ=(OutVs σ ts rs∧EK (Dt σ ts rs)=T):=rfl
theorem uC{ts:O RV}{rs:O R1}{σ:St}:A8 ts rs .normal σ=(OutVs σ ts rs∧EK (Dt σ ts rs)=T):=rfl
theorem tI{σ:St}{t:RV}{ts:O RV}{r:R1}{rs:O R1}:OutVs σ (t::ts) (r::rs)=(OU σ.rows (L9 σ t) r∧OutVs σ ts rs):=rfl
theorem tH{σ:St}{t:RV}{ts:O RV}{r:R1}{rs:O R1}:Dt σ (t::ts) (r::rs)=SP (L9 σ t) r++Dt σ ts rs:=rfl
theorem tG{σ:St}{a n:Y}{g:W}:L9 σ (.c a g n)=(CP σ g n (σ.get a)).getD .undef:=rfl
def H3:=Z @uD (Z @uC (Z @tI (Z @tH @tG)))
set_option maxRecDepth 4000 in
def uP:=Z @nu (Z @nq (Z @oK (Z @oE (Z @nL (Z @nQ (Z @oJ (Z @nA (Z @nM (Z @oH (Z @nF (Z @oD (Z @oC (Z @nz (Z @oB (Z @mu (Z @mz (Z @nw (Z @nK (Z @Ys (Z @nb (Z @na (Z @nY (Z @nX (Z @nW (Z @mC (Z @mB (Z @th (Z @tf (Z @wu (Z @wr (Z @mc (Z @ue (Z @getD_some (Z @getD_none (Z @map_some (Z @map_none (Z @uq (Z @ra (Z @uW (Z @uV (Z @rX (Z @gb (Z @fi (Z @fq (Z @qI (Z @qa (Z @qQ (Z @qT (Z @qU (Z @qL (Z @qR (Z @qP (Z @qO (Z @qN (Z @qM (Z @vh (Z @vj (Z @wj (Z @pN (Z @qc (Z @ly (Z @gL (Z @gZ (Z @gY (Z @nl (Z @nv (Z @nh (Z @nr (Z @mq (Z @mp (Z @oQ (Z @nG (Z @oL (Z @oN (Z @nO (Z @nP (Z @nc (Z @nd (Z @nN (Z @ng (Z @oI (Z @oM (Z @nk (Z @ni (Z @oO (Z @mh (Z @mw (Z @qE (Z @pw (Z @px (Z @qB (Z @qA (Z @za (Z @yz (Z @qH (Z @qF (Z @qG (Z @qD (Z @pz (Z @py (Z @uF (Z @uG (Z @uI (Z @gN (Z @gJ (Z @uK (Z @uM (Z @uL (Z @tc (Z @tb (Z @ey (Z @ex (Z @gB (Z @fb (Z @iD (Z @iF (Z @gw (Z @hU (Z @iE (Z @gp (Z @gn (Z @iL (Z @gx (Z @iH (Z @iJ (Z @gz (Z @hD (Z @hI (Z @gl (Z @hO (Z @gy (Z @hP (Z @iG (Z @iI (Z @iC (Z @hZ (Z @gt (Z @gm (Z @gu (Z @iB (Z @ii (Z @ik (Z @iP (Z @iY (Z @ij (Z @iO (Z @iN (Z @ir (Z @iQ (Z @im (Z @ip (Z @iS (Z @iT (Z @iV (Z @iM (Z @iW (Z @iR (Z @iX (Z @il (Z @io (Z @ig (Z @iZ (Z @iv (Z @iu (Z @jA (Z @iz (Z @iy (Z @rg (Z @sG (Z @sF (Z @qf (Z @qe (Z @qd (Z @wI (Z @wm (Z @fG (Z @fH (Z @fJ (Z @fK (Z @fL (Z @fF (Z @fE (Z @sg (Z @si (Z @eh (Z @nS (Z @mn (Z @jf (Z @jh (Z @jP (Z @ja (Z @jg (Z @jM (Z @jL (Z @jo (Z @jS (Z @jj (Z @jl (Z @jU (Z @jV (Z @jX (Z @jJ (Z @jY (Z @jT (Z @jZ (Z @ji (Z @jk (Z @je (Z @jb (Z @jN (Z @jK (Z @jO (Z @jd (Z @jQ (Z @jR (Z @Zd (Z @Zf (Z @Z9 (Z @Ze (Z @YZ (Z @YY (Z @Zm (Z @Z1 (Z @Zi (Z @Zk (Z @Z3 (Z @Z4 (Z @Z6 (Z @Z7 (Z @Z2 (Z @Z8 (Z @Zh (Z @Zj (Z @Zc (Z @Za (Z @tR (Z @tQ (Z @tP (Z @qg (Z @nf (Z @tS (Z @fX (Z @sU (Z @wi (Z @lf (Z @rZ (Z @pr (Z @pq (Z @pv (Z @jr (Z @jq (Z @rk (Z @gO (Z @gK (Z @sB (Z @fQ (Z @fP (Z @fS (Z @fR (Z @wq (Z @wo (Z @qm (Z @qp (Z @qu (Z @qq (Z @qt (Z @qn (Z @qj (Z @qk (Z @mL (Z @mO (Z @mS (Z @mP (Z @mR (Z @mM (Z @mI (Z @mJ (Z @lR (Z @lS (Z @jH (Z @jI (Z @wG (Z @wH (Z @rT (Z @rV (Z @rQ (Z @rR (Z @gP (Z @ua (Z @uc (Z @ud (Z @JB (Z @ft (Z @get_map (Z @me (Z @md (Z @jC (Z @jB (Z @pH (Z @pG (Z @rp (Z @rr (Z @rq (Z @lh (Z @lg (Z @lZ (Z @sZ (Z @sa (Z @wy (Z @wx (Z (Z @sP (Z @sJ (Z @sK (Z @sI (Z @sN @sM))))) (Z @sO (Z @fx (Z @fw (Z @fv (Z @mr (Z @vP (Z @vY (Z @uN (Z @fA (Z @vH (Z @vI (Z @vJ (Z @sA (Z @um (Z @vO (Z @tB (Z @tC (Z @sy (Z @tA (Z @fD (Z @gA (Z @vg (Z @qJ (Z @qS (Z @qb (Z @fe (Z @fc (Z @fZ (Z @fY (Z @eY (Z @Qf (Z @Yv (Z @UA (Z @ti (Z @tj (Z @tl (Z @tk (Z @rn (Z @rl (Z @qz (Z @qy (Z @fz (Z @fy (Z @gX (Z @gW (Z @iw (Z @nV @fO))))))))))))))))))))))))))))))))))))))))))))))))))))))))))))))))))))))))))))))))))))))))))))))))))))))))))))))))))))))))))))))))))))))))))))))))))))))))))))))))))))))))))))))))))))))))))))))))))))))))))))))))))))))))))))))))))))))))))))))))))))))))))))))))))))))))))))))))))))))))))))))))))))))))))))))))))))))))))))))))))))))))))))))))))))))))))))))))))))))
theorem Dw{P:Program}(hm:P.follows .mixedOrders=T){f:FuncId}{c:Xh}{ts:O RV}{nt:Y}{xs:O XV}{R0 R1:Ao}{r:D}{ps:O (Y × Y)}{σ:St}(he:B3 P f=E (c.strip,ts,nt))(hl:Nat.ble xs.length nt=T)(hlen:R1.length=R0.length)(hrf:r.flat=T)(hR1:DF R1)(hσ:St.initX xs R0=σ)
  (h:go P [.code c] (Ei ts r R1 ps) .normal (E σ)):Cu P f xs R0 R1 r:=bL hm he (zA hl) hlen hrf hR1 (PX (hσ▸h))
theorem Bz:DF []:=fun p hp=>by simp at hp
theorem AQ{α:Type}{row:α→O D} [FlatRow row]{sz:Y}{xs:O α}{R:Ao}(h:DF R):DF ((sz,A row xs)::R):=fun p hp=>by
 rcases List.mem_cons.1 hp with rfl|hp
 ·intro e he d hd;obtain⟨x,_,rfl⟩:=List.mem_map.1 he;exact FlatRow.flat x d hd
 ·exact h p hp
theorem Du:DN [] []=T:=rfl
theorem C7{α β:Type}{row:α→O D}{row':β→O D}{z:Y}{xs:O α}{ys:O β}{R R':Ao}(hl:ys.length=xs.length)(h:DN R R'=T):DN ((z,A row xs)::R) ((z,A row' ys)::R')=T:=by
 simp[DN,hl,h]
theorem qC{env:O (Y × AV)}{bx:O (Y × O AC)}{rows:Rows}{d:Y}{ids:O Y}{R1:Ao}{r:D}:St.instX ⟨env,bx,rows⟩ d ids R1 r=⟨put env d (.v (.sc (.dat r))),bx,CQ rows ids R1⟩:=rfl
theorem td{rs:Rows}{id:Y}{ids:O Y}{r:Y × O (O D)}{R:Ao}:CQ rs (id::ids) (r::R)=CQ (put rs id r) ids R:=rfl
theorem te{rs:Rows}:CQ rs [] []=rs:=rfl
theorem Uo{N:O Y}:AV.avoids N (.v (.sc .z))=T:=by simp[AV.avoids,AV.cells,V1.cells,AC.avoids,AC.uses]
theorem A5l{P:Program}{k:O Fr}{Q:Xm→St→Prop}{σ:St}{N:O Y}{d:Y}{its:O AZ}:go P (.dops ((E N,G,.zsl d)::its)::k) Q .normal (E σ)=go P (.dops its::k) Q .normal (E (σ.set d (.v (.sc .z)))):=by
 rw[Bv rfl];show go P _ Q .normal (bif (((σ.less N).set d (.v (.sc .z))).get d).avoids N then E (σ.set d (((σ.less N).set d (.v (.sc .z))).get d)) else G)=_
 rw[St.get_set_same,Uo];rfl
theorem fN{N:O Y}:AV.avoids N (.tup [])=T:=rfl
theorem fM{N:O Y}{x:V1}{l:O V1}:AV.avoids N (.tup (x::l))=((AV.v x).avoids N&&(AV.tup l).avoids N):=by simp[AV.avoids,AV.cells]
theorem sR{t:TypeId}{d:D}:GY t (.v (.sc (.dat d)))=E (.v (.sc (.dat (.ifc t d)))):=rfl
theorem wJ{t u:TypeId}{zc:AC}{d:D}:Lg t zc (.v (.sc (.dat (.ifc u d))))=bif u==t then E (.tup [.sc (.dat d),.sc (.dat (.bool T))]) else E (.tup [.sc zc,.sc (.dat (.bool F))]):=rfl
theorem mV{id:Y}{ds:O D}{d:D}:AC.frzb id ds (.dat d)= .dat d:=rfl
theorem mX{id:Y}{ds:O D}:AC.frzb id ds .nil= .nil:=rfl
theorem ma{id:Y}{ds:O D}:AC.frzb id ds .undef= .undef:=rfl
theorem mY{id i:Y}{ds:O D}:AC.frzb id ds (.own i)= .own i:=rfl
theorem mZ{id i a b:Y}{ds:O D}:AC.frzb id ds (.osub i a b)= .osub i a b:=rfl
theorem mW{id i a b:Y}{ds:O D}:AC.frzb id ds (.pe i a b)= .pe i a b:=rfl
theorem mU{id i a:Y}{ds:O D}:AC.frzb id ds (.pb i a)=bif i==id then .dat (.pd (ds.drop a)) else .pb i a:=rfl
theorem tu{a b:Y}{d:D}:AC.ren a b (.dat d)= .dat d:=rfl
theorem tw{a b:Y}:AC.ren a b .nil= .nil:=rfl
theorem uA{a b:Y}:AC.ren a b .undef= .undef:=rfl
theorem tx{a b i:Y}:AC.ren a b (.own i)= .own (bif i==a then b else i):=rfl
theorem tz{a b i x y:Y}:AC.ren a b (.osub i x y)= .osub (bif i==a then b else i) x y:=rfl
theorem tv{a b i x y:Y}:AC.ren a b (.pe i x y)= .pe (bif i==a then b else i) x y:=rfl
theorem tq{a b i x:Y}:AC.ren a b (.pb i x)= .pb i x:=rfl
theorem oG{P:Program}{k:O Fr}{Q:Xm→St→Prop}{σ:St}{its:O AItem}{a b:Y}{r:Y × O (O D)}(h1:σ.has b=F)(hf:A1 σ.rows a=E r)(H:go P (.ops its::k) Q .normal (E {(σ.map (AC.ren a b)) with rows:=put (erase σ.rows [a]) b r }))
  (h0:(a / 99999999999==0)=T:=by rfl) (h2:(b / 99999999999==0)=T:=by rfl):go P (.ops ((G,.ren a b)::its)::k) Q .normal (E σ):=by
 rw[oF];simp only[St.step,h1,hf,h0,h2,I,zE,Bool.or_self,zD,if_false];exact H
theorem sQ{t:TypeId}{a b:D}:GY t (.v (.ag [.dat a,.dat b]))=E (.v (.sc (.dat (.ifs t [a,b])))):=rfl
def FCq(P:Program)(f:FuncId)(ds:O DV)(rs:O R1):U D→Prop
 | none=>FC P f ds rs
 | some d=>Lo P f ds d
theorem FCq.none{P:Program}{f:FuncId}{ds:O DV}{rs:O R1}{pd:U D}(h:FCq P f ds rs pd)(hp:pd=G):FC P f ds rs:=by subst hp; exact h
theorem FCq.some{P:Program}{f:FuncId}{ds:O DV}{rs:O R1}{pd:U D}{d:D}(h:FCq P f ds rs pd)(hp:pd=E d):Lo P f ds d:=by subst hp; exact h
theorem sS{t:TypeId}{id:Y}:GY t (.v (.sc (.pb id 0)))=E (.v (.sc (.ipb t id))):=rfl
theorem qo{id i:Y}{t:TypeId}:AC.kill id (.ipb t i)= .ipb t i:=rfl
theorem mN{id i:Y}{t:TypeId}{es:O (O D)}:AC.frz id es (.ipb t i)= .ipb t i:=rfl
theorem mb{g:W}{ks:O FK}{cs ds:O AC}:KP g ks (.v (.ag cs)) (.v (.ag ds))=(Bo ks cs ds).map fun b=> .v (.sc (.dat (.bool (bif g then !b else b)))):=rfl
theorem lP:Bo [] [] []=E T:=rfl
theorem lO{k:IntKind}{x y:V}{ks:O FK}{cs ds:O AC}:Bo (.i::ks) (.dat (.int k x)::cs) (.dat (.int k y)::ds)=(Bo ks cs ds).map fun b=>(x==y)&&b:=if_pos rfl
theorem lN{x y:W}{ks:O FK}{cs ds:O AC}:Bo (.b::ks) (.dat (.bool x)::cs) (.dat (.bool y)::ds)=(Bo ks cs ds).map fun b=>(x==y)&&b:=rfl
theorem lQ{x y:O UInt8}{ks:O FK}{cs ds:O AC}:Bo (.s::ks) (.dat (.str x)::cs) (.dat (.str y)::ds)=(Bo ks cs ds).map fun b=>(x==y)&&b:=rfl
def uR:=Z @Uo (Z @A5l (Z @fN (Z @fM (Z @qC (Z @td (Z @te (Z @nj (Z @oP (Z @Zb (Z @Zl (Z @iA (Z @ib (Z @jc (Z @iK (Z @iq (Z @jm (Z @sR (Z @wJ (Z @mV (Z @mX (Z @ma (Z @mY (Z @mZ (Z @mW (Z @mU (Z @sS (Z @qo (Z @mN (Z @tu (Z @tw (Z @uA (Z @tx (Z @tz (Z @tv (Z @tq (Z @ny (Z @nD (Z @oA (Z @my (Z @sQ (Z @Z5 (Z @nZ (Z @hH (Z @iU (Z @jW (Z @mb (Z @lP (Z @lO (Z @lN @lQ)))))))))))))))))))))))))))))))))))))))))))))))))
end Go.Vi
