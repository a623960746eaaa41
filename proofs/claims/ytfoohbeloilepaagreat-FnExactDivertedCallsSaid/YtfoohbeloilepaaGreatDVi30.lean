/-
The value level. No condition.
-/
import Derived.Test.YtfoohbeloilepaaGreatDVi28
namespace Go.Vi
set_option linter.all false
open And renaming intro → Z
open List renaming map → A, mem_singleton → B, replicate → zC
open Bool renaming false_eq_true → I, and_self → zA, not_true → zE, true → T, false → F
open Nat renaming le_of_ble_eq_true → zB, one_pos → zD
open Option renaming some → E, none → G
open _root_ renaming List → O, Option → U, Int → V, Bool → W, Nat → Y
abbrev S(n:Y):Opd:= .t n
abbrev K(n:V):Opd:= .c (.v (.sc (.dat (.int .i64 n))))
abbrev K8(n:V):Opd:= .c (.v (.sc (.dat (.int .u8 n))))
abbrev KB(b:W):Opd:= .c (.v (.sc (.dat (.bool b))))
abbrev KS(s:O UInt8):Opd:= .c (.v (.sc (.dat (.str s))))
abbrev KN:Opd:= .c (.v (.sc .nil))
abbrev aI(n:V):AC:= .dat (.int .i64 n)
abbrev a8(n:V):AC:= .dat (.int .u8 n)
abbrev aB(b:W):AC:= .dat (.bool b)
abbrev aS(s:O UInt8):AC:= .dat (.str s)
abbrev aL(es:O (O D)):AC:= .dat (.sl es)
abbrev vc(c:AC):AV:= .v (.sc c)
abbrev va(cs:O AC):AV:= .v (.ag cs)
def rI(n:V):O D:= [.int .i64 n]
def r8(n:V):O D:= [.int .u8 n]
def rB(b:W):O D:= [.bool b]
def rS(s:O UInt8):O D:= [.str s]
def rL{α:Type}(row:α→O D)(xs:O α):O D:= [.sl (xs.map row)]
class Row {α:Type} (row:α→O D) (sz:Y):Prop where
 len:∀x,(row x).length=sz
 pos:0<sz
instance:Row rI 1:=⟨fun _=>rfl,zD⟩
instance:Row r8 1:=⟨fun _=>rfl,zD⟩
instance:Row rB 1:=⟨fun _=>rfl,zD⟩
instance:Row rS 1:=⟨fun _=>rfl,zD⟩
instance {α:Type} (row:α→O D):Row (rL row) 1:=⟨fun _=>rfl,zD⟩
theorem bH(n:V):rI n= [.int .i64 n]:=rfl
def cb(n:V):UInt8:=UInt8.ofNat n.toNat
theorem WC:∀{xs:O V},Dk (A r8 xs)=E (A cb xs)
 | []=>rfl
 | n::xs=>by
  show(Dk (A r8 xs)).map _=_
  rw[WC];rfl
theorem yh(n:V):r8 n= [.int .u8 n]:=rfl
theorem yi(b:W):rB b= [.bool b]:=rfl
theorem yk(s:O UInt8):rS s= [.str s]:=rfl
theorem yj{α:Type}(row:α→O D)(xs:O α):rL row xs= [.sl (xs.map row)]:=rfl
theorem Wc{α:Type}{row:α→O D}{sz:Y}(h:∀x,(row x).length=sz)(xs:O α):(xs.map row).all (fun d=>d.length==sz)=T:=by
 simp[List.all_map,Function.comp_def,h]
@[irreducible] def bigN:Y:=1208925819614629174706176
def bnd(m h l:V)(n:Y):U (Y × Y):=if 0≤l∧l≤h∧h≤m∧m≤n then E (l.toNat,h.toNat) else G
def BQ(l c:V)(bytes:Y):U Y:=if 0≤l∧l≤c∧c*bytes≤140737488355328∧c≤4611686018427387904 then E l.toNat else G
def A3(n m bytes:Y):W:=decide ((n+m)*bytes≤140737488355328∧n+m≤4611686018427387904)
def Fb(n m:Y):W:=decide (n+m≤4611686018427387904)
theorem RP{α β:Type}{f:α→β}{l:O α}{i:V}:ix (l.map f) i=(ix l i).map f:=by
 unfold ix;split<;>simp
theorem Au{α:Type}{l:O α}{i:V}{x:α}(h:ix l i=E x):l[i.toNat]?=E x:=by
 unfold ix at h;split at h
 ·exact h
 ·cases h
theorem ob{α β:Type}{o:U α}{f:α→U β}{r:β}(h:o.bind f=E r):∃a,o=E a∧f a=E r:=Option.bind_eq_some_iff.1 h
class FlatRow {α:Type} (row:α→O D):Prop where
 flat:∀x,∀d∈row x,d.flat=T
instance:FlatRow rI:=⟨fun _ d h=>by rw[B.1 h]; rfl⟩
instance:FlatRow r8:=⟨fun _ d h=>by rw[B.1 h]; rfl⟩
instance:FlatRow rB:=⟨fun _ d h=>by rw[B.1 h]; rfl⟩
instance:FlatRow rS:=⟨fun _ d h=>by rw[B.1 h]; rfl⟩
def Vx:O RC→Prop
 | []=>True
 | c::cs=>c.flat∧Vx cs
theorem D0{rs:O R1}{cs:O RC}(h:rs.flatMap R1.cells=cs)(hf:Vx cs):CO rs:=by
 subst h;unfold CO;generalize rs.flatMap R1.cells=l at hf
 induction l with
 | nil=>intro c hc; simp at hc
 | cons a l ih=>
  intro c hc;rcases List.mem_cons.1 hc with rfl|hc
  ·exact hf.1
  ·exact ih hf.2 c hc
theorem D1{α:Type}{row:α→O D} [FlatRow row]{sz:Y}{xs:O α}:RC.flat (.o sz (A row xs)):=by
 intro r hr;obtain⟨x,_,rfl⟩:=List.mem_map.1 hr;exact FlatRow.flat x
theorem Sk{α:Type}{row:α→O D}{z:α}{zs:O D}{n:Y}(h:row z=zs):zC n zs=A row (zC n z):=by rw[List.map_replicate,h]
theorem B3{α:Type}{b:W}{x:U α}{r:α}(h:(if b=T then x else G)=E r):b=T∧x=E r:=by
 cases b
 ·rw[if_neg Bool.false_ne_true] at h; cases h
 ·exact⟨rfl,by simpa using h⟩
theorem Hq{α:Type}{b:W}{x:U α}{r:α}(h:(if b=T then G else x)=E r):b=F∧x=E r:=by
 cases b
 ·exact⟨rfl,by simpa using h⟩
 ·rw[if_pos rfl] at h; cases h
theorem ic{α:Type}{b:W}{x y:U α}{r:α}(h:(if b=T then x else y)=E r):(b=T∧x=E r)∨(b=F∧y=E r):=by
 cases b with
 | true=>exact .inl ⟨rfl,h⟩
 | false=>exact .inr ⟨rfl,h⟩
section
variable {P : Program} {k : O Fr} {Q : Xo → St → Prop} {σ : St} {its : O AItem} {ds : O B0} {o : AOp} {d : Y}
theorem AE{c:Xj}(h:go P (.code c:: .code (.loop c)::k) Q .normal (E σ)):go P (.code (.loop c)::k) Q .normal (E σ):=by
 intro X hX;refine hX σ (Wr c (fun e σ' h=> ?_) h);cases e with
 | normal=>exact h X hX
 | exit id=>exact h
 | ret=>exact h
 | pan d=>exact h
theorem eO(hm:P.follows .mixedOrders=T){f:FuncId}{c:Xj}{ts:O RV}{nt:Y}{ds:O DV}{rs:O R1}{σ:St}(he:B1 P f=E (c.strip,ts,nt))(hl:Nat.ble ds.length nt=T)(hσ:St.init ds=σ)
  (h:go P [.code c] (A8 ts rs) .normal (E σ)):FC P f ds rs:=eQ hm he (zB hl) fun _=>Ro (hσ▸h)
theorem eN(hm:P.follows .mixedOrders=T){f:FuncId}{c:Xj}{ts:O RV}{nt:Y}{ds:O DV}{rs:O R1}(he:B1 P f=E (c.strip,ts,nt))(hl:Nat.ble ds.length nt=T)
  (h:go P [.code c] (A8 ts rs) .normal (E (St.init ds))):FC P f ds rs:=eO hm he hl rfl h
theorem Uv{sz:Y}{es:O (O D)}(hf:σ.fresh d=T):σ.make (.row d sz es)=E {(σ.set d (.v (.sc (.own (d*64))))) with rows:=put σ.rows (d*64) (sz,es)}:=by simp[St.make,hf]
theorem Sb{cs:O AC}(hf:σ.fresh d=T)(hu:cs.all (fun c=> !c.uses d)=T):σ.make (.box d cs)=E {(σ.set d (.v (.sc (.pb d 0)))) with bx:=put σ.bx d cs}:=by simp only[St.make,hf,hu,zA,if_true]
theorem Rn{m:Mk}(ho:o.isMade=T)(hm:σ.made o=E m){σ':St}(hs:σ.make m=E σ')(H:go P (.ops its::k) Q .normal (E σ')):go P (.ops ((G,o)::its)::k) Q .normal (E σ):=by
 have hc:o.isCall=F:=by cases o<;>first | rfl | (simp[AOp.isMade] at ho; done)
 rw[B2 hc,A1t ho,hm];show go P (.ops its::k) Q .normal (σ.make m)
 rw[hs];exact H
theorem rP{X:Opd}{y:V1}(hX:σ.val X= .v y)(hf:σ.fresh d=T)(hu:y.cells.all (fun c=> !c.uses d)=T)(H:go P (.ops its::k) Q .normal (E {(σ.set d (.v (.sc (.pb d 0)))) with bx:=put σ.bx d y.cells })) :
  go P (.ops ((G,.box d X)::its)::k) Q .normal (E σ):=Rn rfl (by simp only[St.made,hX]) (Sb hf hu) H
theorem rA{cs:O AC}(hf:σ.fresh d=T)(hu:cs.all (fun c=> !c.uses d)=T)(H:go P (.ops its::k) Q .normal (E {(σ.set d (.v (.sc (.pb d 0)))) with bx:=put σ.bx d cs })) :
  go P (.ops ((G,.alloc d cs)::its)::k) Q .normal (E σ):=Rn rfl rfl (Sb hf hu) H
theorem As{sz:Y}{zs:O D}{len:Y}{ps:O (Y × Opd)}{es:O (O D)}(hm:σ.made (.bslice d sz zs len ps)=E (.row d sz es))(hf:σ.fresh d=T)
  (H:go P (.ops its::k) Q .normal (E {(σ.set d (.v (.sc (.own (d*64))))) with rows:=put σ.rows (d*64) (sz,es) })):go P (.ops ((G,.bslice d sz zs len ps)::its)::k) Q .normal (E σ):=Rn rfl hm (Uv hf) H
theorem aD{L C:Opd}{l c:V}{bytes n sz:Y}{zs:O D}{es:O (O D)}(hl:C4 (σ.val L)=E l)(hc:C4 (σ.val C)=E c)(hb:BQ l c bytes=E n)(hz:zs.length=sz)(he:zC n zs=es) :
  σ.made (.mksl d sz bytes zs L C)=E (.row d sz es):=by
 unfold BQ at hb
 split at hb
 ·rename_i h
  cases hb;subst he;simp only[St.made,hl,hc];rw[if_pos ⟨h.1,h.2.1,h.2.2.1,h.2.2.2,hz⟩]
 ·cases hb
theorem TA{L C:Opd}{l c:V}{bytes n sz:Y}{zs:O D}{es:O (O D)}(hl:C4 (σ.val L)=E l)(hc:C4 (σ.val C)=E c)(hb:BQ l c bytes=E n)(hz:zs.length=sz)(he:zC n zs=es)(hf:σ.fresh d=T)
  (H:go P (.ops its::k) Q .normal (E {(σ.set d (.v (.sc (.own (d*64))))) with rows:=put σ.rows (d*64) (sz,es) })):go P (.ops ((G,.mksl d sz bytes zs L C)::its)::k) Q .normal (E σ):=
 Rn rfl (aD hl hc hb hz he) (Uv hf) H
theorem Tz{n:Y}{N:O Y}{m:Mk}(hm:(σ.less (n::N)).made o=E m)(hv:aP (n::N) m=T){σ':St}(hs:σ.make m=E σ')(H:go P (.dops ds::k) Q .normal (E σ')) :
  go P (.dops ((E (n::N),G,o)::ds)::k) Q .normal (E σ):=rX hm hv hs H
theorem AS{α:Type}{env bx rows}{id sz i off n:Y}{xs:O α}{row:α→O D}{x y:α}{yv:V1}{dd:O D}(hd:yv.toDs=E dd)(hf:A1 rows id=E (sz,A row xs))
  (hx:xs[i]?=E x) (hn:dd.length=n) (ho:Nat.ble (off+n) (row x).length=T) (hy:G9 (row x) off dd=row y) (H:go P k Q .normal (E ⟨env,bx,put rows id (sz,A row (xs.set i y))⟩)) :
  go P k Q .normal (St.storeV ⟨env,bx,rows⟩ n (.v (.sc (.pe id i off))) (.v yv)):=by
 have e:St.storeV ⟨env,bx,rows⟩ n (.v (.sc (.pe id i off))) (.v yv)=E ⟨env,bx,put rows id (sz,A row (xs.set i y))⟩:=by
  simp only[St.storeV,hf,List.getElem?_map,hx,Option.map_some,hd];rw[if_pos ⟨hn,zB ho⟩,hy,List.map_set]
 rw[e];exact H
end
def DF{α:Type}:Y→O α→U (O α)
 | 0,l=>E l
 | _+1,[]=>G
 | n+1,_::l=>DF n l
def Gb{α:Type}:Y→O α→U (O α)
 | 0,_=>E []
 | _+1,[]=>G
 | n+1,c::l=>(Gb n l).map (c:: ·)
def DP{α:Type}:O α→Y→W
 | [],0=>T
 | _::l,n+1=>DP l n
 | _,_=>F
def Cd{α:Type}:O α→Y→W
 | _,0=>T
 | _::l,n+1=>Cd l n
 | [],_+1=>F
theorem Ml{α:Type}:∀(n:Y) (l:O α),DF n l=if n≤l.length then E (l.drop n) else G
 | 0,l=>by simp[DF]
 | n+1,[]=>by simp[DF]
 | n+1,c::l=>by simp[DF,Ml n l]
theorem cV{α:Type}:∀(n:Y) (l:O α),Gb n l=if n≤l.length then E (l.take n) else G
 | 0,l=>by simp[Gb]
 | n+1,[]=>by simp[Gb]
 | n+1,c::l=>by simp only[Gb,cV n l]; split<;>simp_all
theorem Ur{α:Type}:∀(l:O α) (n:Y),DP l n=decide (l.length=n)
 | [],0=>by simp[DP]
 | [],n+1=>by simp[DP]
 | _::l,0=>by simp[DP]
 | _::l,n+1=>by simp[DP,Ur l n]
theorem Pk{α:Type}:∀(l:O α) (n:Y),Cd l n=decide (n≤l.length)
 | [],0=>by simp[Cd]
 | [],n+1=>by simp[Cd]
 | _::l,0=>by simp[Cd]
 | _::l,n+1=>by simp[Cd,Pk l n]
theorem nu{α:Type}{l:O α}:DF 0 l=E l:=by cases l<;>rfl
theorem nv{α:Type}{n:Y}{c:α}{l:O α}:DF (n+1) (c::l)=DF n l:=rfl
theorem A2n{α:Type}{l:O α}:Gb 0 l=E []:=by cases l<;>rfl
theorem A2o{α:Type}{n:Y}{c:α}{l:O α}:Gb (n+1) (c::l)=(Gb n l).map (c:: ·):=rfl
theorem vz{α:Type}:DP ([]:O α) 0=T:=rfl
theorem wA{α:Type}{n:Y}{c:α}{l:O α}:DP (c::l) (n+1)=DP l n:=rfl
theorem vu{α:Type}{l:O α}:Cd l 0=T:=by cases l<;>rfl
theorem vw{α:Type}{n:Y}{c:α}{l:O α}:Cd (c::l) (n+1)=Cd l n:=rfl
theorem lf{cs:O AC}{off n:Y}:CY cs off T n=(DF off cs).bind fun l=>(Gb n l).map fun l=> .v (.ag l):=by
 simp only[CY,cond_true,Ml,cV];by_cases h:off≤cs.length
 ·rw[if_pos h];by_cases h2:off+n≤cs.length
  ·rw[if_pos h2,Option.bind_some,if_pos (by simp; omega)]; rfl
  ·rw[if_neg h2,Option.bind_some,if_neg (by simp; omega)]; rfl
 ·rw[if_neg h,if_neg (by omega)]; rfl
theorem A0l{cs:O AC}:BT cs 0 []=cs:=by simp[BT]
theorem A0n{c:AC}{cs ds:O AC}{n:Y}:BT (c::cs) (n+1) ds=c::BT cs n ds:=by
 simp only[BT,List.take_succ_cons,List.cons_append];rw[show n+1+ds.length=(n+ds.length)+1 by omega,List.drop_succ_cons]
theorem A0o{c d:AC}{cs ds:O AC}:BT (c::cs) 0 (d::ds)=d::BT cs 0 ds:=by simp[BT]
theorem K7{α β:Type}{a:α}{f:α→U β}:(E a).bind f=f a:=rfl
theorem lC{α β:Type}{f:α→U β}:(G:U α).bind f=G:=rfl
theorem get_map{α β:Type}{f:α→β}{l:O α}{i:Y}:(A f l)[i]?=(l[i]?).map f:=List.getElem?_map
theorem qy{α:Type}{a:α}{l:O α}:(a::l)[0]?=E a:=rfl
theorem qx{α:Type}{a:α}{l:O α}{n:Y}:(a::l)[n+1]?=l[n]?:=by simp
theorem nh:A AC.dat []= []:=rfl
theorem ng{d:D}{l:O D}:A AC.dat (d::l)= .dat d::A AC.dat l:=rfl
section
variable {P : Program} {k : O Fr} {Q : Xo → St → Prop} {σ : St} {its : O AItem} {env : O (Y × AV)} {bx : O (Y × O AC)} {rows : Rows}
theorem tc{α:Type}{rs:Rows}{sz:Y}{xs:O α}{row:α→O D} [Row row sz]{kd:IntKind}{i:V}:D9 rs sz (.v (.sc (.dat (.sl (A row xs))))) (.v (.sc (.dat (.int kd i))))=(ix xs i).map fun x=> .v (.sc (.dat (.pd (row x)))):=by
 simp only[D9,RP];cases ix xs i with
 | none=>rfl
 | some x=>simp[Row.len (row:=row) (sz:=sz),Row.pos row]
theorem tb{rs:Rows}{sz id:Y}{kd:IntKind}{i:V}:D9 rs sz (.v (.sc (.own id))) (.v (.sc (.dat (.int kd i))))=(A1 rs id).bind fun p=>(ix p.2 i).bind fun _=>bif p.1==sz then E (.v (.sc (.pe id i.toNat 0))) else G:=by
 simp only[D9];cases A1 rs id with
 | none=>rfl
 | some p=>
  obtain⟨a,es⟩:=p;simp only[K7];cases ix es i with
  | none=>rfl
  | some x=>
   by_cases h:a=sz
   ·simp[h]
   ·have h':(a==sz)=F:=by simpa using h
    simp[h,h']
theorem wS{g:W}{n id off:Y}:CR ⟨env,bx,rows⟩ g n (.v (.sc (.pb id off)))=(A1 bx id).bind fun cs=>CY cs off g n:=by
 show(match A1 bx id with | some cs=>_ | none=>G)=_
 cases A1 bx id<;>rfl
theorem wU{g:W}{n id i off:Y}:CR ⟨env,bx,rows⟩ g n (.v (.sc (.pe id i off)))=(A1 rows id).bind fun p=>(p.2[i]?).bind fun d=>CY (A AC.dat d) off g n:=by
 simp only[CR];cases A1 rows id with
 | none=>rfl
 | some p=>
  simp only[K7];cases p.2[i]?<;>rfl
theorem wT{g:W}{n:Y}{cs:O D}:CR σ g n (.v (.sc (.dat (.pd cs))))=CY (A AC.dat cs) 0 g n:=rfl
theorem qJ{rs:Rows}{off id i o:Y}:CB rs off (.v (.sc (.pe id i o)))=(A1 rs id).map fun _=> .v (.sc (.pe id i (o+off))):=by
 simp only[CB];cases A1 rs id<;>rfl
theorem qI{rs:Rows}{off:Y}{cs:O D}:CB rs off (.v (.sc (.dat (.pd cs))))=(DF off cs).map fun cs=> .v (.sc (.dat (.pd cs))):=by
 simp only[CB,Ml];split<;>rfl
theorem qF{l:O V1}{i:Y}:Kk i (.tup l)=(l[i]?).map .v:=rfl
theorem xG{id off:Y}:G2 (.v (.sc (.pb id off)))=E (.v (.sc (.pb id off))):=rfl
theorem xH{cs:O D}:G2 (.v (.sc (.dat (.pd cs))))=E (.v (.sc (.dat (.pd cs)))):=rfl
theorem A3o:A (St.val σ) []= []:=rfl
theorem A3n{x:Opd}{l:O Opd}:A (St.val σ) (x::l)=σ.val x::A (St.val σ) l:=rfl
theorem ww{f:FuncId}:G1 f []=E []:=rfl
theorem wm{f:FuncId}:FZ f []=E (.clo f []):=rfl
theorem wn{f:FuncId}{id:Y}{r:O AV}:FZ f (.v (.sc (.pb id 0))::r)=(G1 f (.v (.sc (.pb id 0))::r)).map (.clo f):=rfl
theorem wk{f:FuncId}{d:D}{r:O AV}:FZ f (.v (.sc (.dat d))::r)=(G0 (.v (.sc (.dat d))::r)).map fun q=> .dat (.clo f q):=rfl
theorem wr:G0 []=E []:=rfl
theorem wq{ds:O D}{r:O AV}:G0 (.v (.sc (.dat (.pd ds)))::r)=(G0 r).map (.pd ds:: ·):=rfl
theorem wu{f:FuncId}{id:Y}{r:O AV}:G1 f (.v (.sc (.pb id 0))::r)=(G1 f r).map (id:: ·):=rfl
def Qb(K:O AC→U (O AC))(off n:Y)(cs:O AC):AV→U (O AC)
 | .v x=>bif DP x.cells n&&Cd cs (off+n) then K (BT cs off x.cells) else G
 | _=>G
def Gi(σ:St):O (Y × Y × Opd)→O AC→U (O AC)
 | [],cs=>E cs
 | (off,n,x)::r,cs=>Qb (Gi σ r) off n cs (σ.val x)
theorem T7:∀(ps:O (Y × Y × Opd)) (cs:O AC),Dr cs (ps.map fun p=>(p.1,p.2.1,σ.val p.2.2))=Gi σ ps cs
 | [],cs=>rfl
 | (off,n,x)::r,cs=>by
  simp only[List.map_cons,Gi];generalize σ.val x=v
  cases v with
  | v y=>
   simp only[Dr,Qb,Ur,Pk];by_cases h1:y.cells.length=n
   ·by_cases h2:off+n≤cs.length
    ·subst h1;simp only[h2,and_self,if_true,decide_true,zA,cond_true];exact T7 r _
    ·simp[h1,h2]
   ·simp[h1]
  | _=>rfl
theorem lG{cs:O AC}:Gi σ [] cs=E cs:=rfl
theorem lF{off n:Y}{x:Opd}{r:O (Y × Y × Opd)}{cs:O AC}:Gi σ ((off,n,x)::r) cs=Qb (Gi σ r) off n cs (σ.val x):=rfl
theorem lE{K:O AC→U (O AC)}{off n:Y}{cs:O AC}{x:V1}:Qb K off n cs (.v x)=bif DP x.cells n&&Cd cs (off+n) then K (BT cs off x.cells) else G:=rfl
theorem rG{d zs ps}:go P (.ops ((G,.build d zs ps)::its)::k) Q .normal (E σ)=go P (.ops its::k) Q .normal (AD σ d ((Gi σ ps zs).map fun cs=> .v (.ag cs))):=by rw[rO,T7]
theorem A1o{d zs ps}:σ.step (.build d zs ps)=AD σ d ((Gi σ ps zs).map fun cs=> .v (.ag cs)):=by rw[bt,T7]
theorem A1x{n id off:Y}{y:V1}:St.storeV ⟨env,bx,rows⟩ n (.v (.sc (.pb id off))) (.v y)=(A1 bx id).bind fun cs=>bif DP y.cells n&&Cd cs (off+n) then E ⟨env,put bx id (BT cs off y.cells),rows⟩ else G:=by
 simp only[St.storeV,Ur,Pk];cases A1 bx id with
 | none=>rfl
 | some cs=>
  simp only[K7];by_cases h1:y.cells.length=n
  ·by_cases h2:off+n≤cs.length
   ·simp[h1,h2]
   ·simp[h1,h2]
  ·simp[h1]
def Sm(sz:Y)(es:O (O D)):W:=es.all fun r=>r.length==sz
theorem zq{α:Type}{sz:Y}{row:α→O D} [Row row sz]{xs:O α}:Sm sz (A row xs)=T:=Wc (Row.len (row:=row)) xs
theorem jf{d sz bytes id:Y}{y:AV}:St.appV ⟨env,bx,rows⟩ d sz bytes (.v (.sc (.own id))) y=bif id / 99999999999==0 then((A1 rows id).bind fun p=>(appSrc rows y).bind fun es'=>
  bif (p.1==sz)&&(Sm sz es'&&A3 p.2.length es'.length bytes) then E ⟨put (env.map fun p=>(p.1,p.2.map (AC.kill id))) d (.v (.sc (.own id))),bx.map fun p=>(p.1,p.2.map (AC.kill id)),put rows id (sz,p.2++es')⟩ else G) else G:=by
 simp only[St.appV];by_cases h0:id / 99999999999=0
 rotate_left
 ·rw[if_neg h0,show(id / 99999999999==0)=F by simpa using h0];rfl
 rw[if_pos h0,show(id / 99999999999==0)=T by simpa using h0,cond_true];cases A1 rows id with
 | none=>rfl
 | some p=>
  obtain⟨a,es⟩:=p;simp only[K7];cases appSrc rows y with
  | none=>rfl
  | some es'=>
   simp only[K7];by_cases h1:a=sz
   ·by_cases h2:Sm sz es'=T
    ·by_cases h3:A3 es.length es'.length bytes=T
     ·have h3':=of_decide_eq_true h3;rw[if_pos ⟨h1,h2,h3'.1,h3'.2⟩];simp only[h1,beq_self_eq_true,h2,h3,zA,cond_true];rfl
     ·have h3':A3 es.length es'.length bytes=F:=by simpa using h3
      rw[if_neg (fun h=>h3 (decide_eq_true ⟨h.2.2.1,h.2.2.2⟩))];simp[h3']
    ·have h2':Sm sz es'=F:=by simpa using h2
     rw[if_neg (fun h=>h2 h.2.1)];simp[h2']
   ·have h1':(a==sz)=F:=by simpa using h1
    rw[if_neg (fun h=>h1 h.1)];simp[h1']
theorem A1f{rs:Rows}{es:O (O D)}:appSrc rs (.v (.sc (.dat (.sl es))))=E es:=rfl
theorem A1g{rs:Rows}:appSrc rs (.v (.sc .nil))=E []:=rfl
theorem A1h{rs:Rows}{id:Y}:appSrc rs (.v (.sc (.own id)))=(A1 rs id).map fun p=>p.2:=by
 simp only[appSrc,toD0];cases A1 rs id<;>rfl
theorem wc{α:Type}{f:α→O D}{a b:O α}:A f a++A f b=A f (a++b):=List.map_append.symm
def Em(σ:St)(n:Y):U Opd→U V
 | none=>E n
 | some x=>C4 (σ.val x)
def Gj(n:Y):U V→U V→U V→U (Y × Y)
 | some m,E h,E l=>bnd m h l n
 | _,_,_=>G
theorem Qc{lo hi mx:U Opd}{n:Y}:E2 σ lo hi mx n=Gj n (Em σ n mx) (Em σ n hi) (match lo with | none=>E 0 | some x=>C4 (σ.val x)):=by
 cases mx<;>cases hi<;>cases lo<;>(simp only[E2,Gj,Em]; first | rfl | (split<;>simp_all[Gj,bnd]))
def Pu(σ:St):U Opd→U V
 | none=>E 0
 | some x=>C4 (σ.val x)
theorem A0v{α:Type}{sz:Y}{lo hi mx:U Opd}{xs:O α}{row:α→O D} [Row row sz]:Dd σ sz (.v (.sc (.dat (.sl (A row xs))))) lo hi mx=(Gj xs.length (Em σ xs.length mx) (Em σ xs.length hi) (Pu σ lo)).map fun p=> .v (.sc (.dat (.sl (A row ((xs.drop p.1).take (p.2 - p.1)))))):=by
 have h:(A row xs).all (fun d=>d.length==sz)=T:=Wc (Row.len (row:=row)) xs;simp only[Dd,h,Row.pos row (sz:=sz),decide_true,zA,if_true,List.length_map,Qc];cases lo<;>simp[Pu,List.map_drop,List.map_take]
theorem A1n{lo hi:U Opd}{s:O UInt8}:Hz σ (.v (.sc (.dat (.str s)))) lo hi=(Gj s.length (Em σ s.length G) (Em σ s.length hi) (Pu σ lo)).map fun p=> .v (.sc (.dat (.str ((s.drop p.1).take (p.2 - p.1))))):=by
 simp only[Hz,Qc];cases lo<;>rfl
theorem xX{n:Y}:Em σ n G=E (n:V):=rfl
theorem xY{n:Y}{x:Opd}:Em σ n (E x)=C4 (σ.val x):=rfl
theorem xV:Pu σ G=E 0:=rfl
theorem xW{x:Opd}:Pu σ (E x)=C4 (σ.val x):=rfl
theorem ji{kd:IntKind}{i:V}:C4 (.v (.sc (.dat (.int kd i))))=E i:=rfl
theorem lJ{n:Y}{m h l:V}:Gj n (E m) (E h) (E l)=bnd m h l n:=rfl
theorem A13{x y:O UInt8}:HA .add x y=bif Fb x.length y.length then E (.str (x++y)) else G:=by
 simp only[HA,Fb];by_cases h:x.length+y.length≤4611686018427387904
 ·simp[h]
 ·simp[h]
theorem ub{k:IntKind}{x y:V}:AN .and k x y=E (.int k (Bd .and k x y)):=rfl
theorem um{k:IntKind}{x y:V}:AN .or k x y=E (.int k (Bd .or k x y)):=rfl
theorem uz{k:IntKind}{x y:V}:AN .xor k x y=E (.int k (Bd .xor k x y)):=rfl
theorem ko:(T==T)=T:=rfl
theorem kn:(T==F)=F:=rfl
theorem kj:(F==T)=F:=rfl
theorem ki:(F==F)=T:=rfl
theorem jT{b:W}:(F&&b)=F:=rfl
end
def aw{α:Type}(k:Y):U α→O (Y × α)→O (Y × α)
 | some v,r=>(k,v)::r
 | none,r=>r
theorem xq{α:Type}{l:O (Y × α)}:Cv l []= []:=rfl
theorem xp{α:Type}{l:O (Y × α)}{k:Y}{ks:O Y}:Cv l (k::ks)=aw k (A1 l k) (Cv l ks):=by
 show(match A1 l k with | some v=>_ | none=>_)=_
 cases A1 l k<;>rfl
theorem xo{α:Type}{k:Y}{v:α}{r:O (Y × α)}:aw k (E v) r=(k,v)::r:=rfl
theorem vG{env bx rows ks bs rs}:(St.mk env bx rows).kept ks bs rs=⟨Cv env ks,Cv bx bs,Cv rows rs⟩:=rfl
theorem rz{P:Program}{k:O Fr}{Q:Xo→St→Prop}{σ:St}{its:O AItem}{ks bs rs:O Y}:go P (.ops ((G,.keep ks bs rs)::its)::k) Q .normal (E σ)=go P (.ops its::k) Q .normal (E (σ.kept ks bs rs)):=B2 rfl
theorem xr{b:W}{x y:AV}:LS (.v (.sc (.dat (.bool b)))) x y=E (bif b then x else y):=rfl
theorem kh{g x y:W}:K6 g (.v (.sc (.dat (.bool x)))) (.v (.sc (.dat (.bool y))))=E (.v (.sc (.dat (.bool (bif g then !(x==y) else x==y))))):=rfl
theorem xB{m:W}{k:IntKind}{x y:V}:JE m (.v (.sc (.dat (.int k x)))) (.v (.sc (.dat (.int k y))))=E (.v (.sc (.dat (.int k (bif m then(if x<y then y else x) else(if y<x then y else x)))))):=by simp[JE]
theorem A3d{k:IntKind}{x:V}:JV .neg (.v (.sc (.dat (.int k x))))=E (.v (.sc (.dat (.int k (k.wrap (0 - x)))))):=rfl
theorem qH{rs:Rows}{off id o:Y}:CB rs off (.v (.sc (.pb id o)))=E (.v (.sc (.pb id (o+off)))):=rfl
theorem wE{rs:Rows}{id:Y}:Eg rs (.v (.sc (.own id)))=(A1 rs id).map fun p=> .v (.sc (.dat (.int .i64 p.2.length))):=by
 show(match A1 rs id with | some (_,es)=>_ | none=>_)=_
 cases A1 rs id<;>rfl
theorem uL{k:Y}:FV k []= []:=rfl
theorem uK{k:Y}{d:DV}{ds:O DV}:FV k (d::ds)=(k,d.av)::FV (k+1) ds:=rfl
theorem uN{ds:O DV}:St.init ds=⟨FV 0 ds,[],[]⟩:=rfl
theorem oh{d:D}:DV.av (.sc d)= .v (.sc (.dat d)):=rfl
theorem oe{ds:O D}:DV.av (.ag ds)= .v (.ag (ds.map .dat)):=rfl
theorem wQ{f:AC→AC}:A (V1.map f) []= []:=rfl
theorem wP{f:AC→AC}{x:V1}{l:O V1}:A (V1.map f) (x::l)=x.map f::A (V1.map f) l:=rfl
theorem vX{f:AC→AC}:A (fun p:Y × AV=>(p.1,p.2.map f)) []= []:=rfl
theorem vW{f:AC→AC}{k:Y}{v:AV}{l:O (Y × AV)}:A (fun p:Y × AV=>(p.1,p.2.map f)) ((k,v)::l)=(k,v.map f)::A (fun p:Y × AV=>(p.1,p.2.map f)) l:=rfl
theorem lI{f:AC→AC}:A (fun p:Y × O AC=>(p.1,p.2.map f)) []= []:=rfl
theorem lH{f:AC→AC}{k:Y}{v:O AC}{l:O (Y × O AC)}:A (fun p:Y × O AC=>(p.1,p.2.map f)) ((k,v)::l)=(k,v.map f)::A (fun p:Y × O AC=>(p.1,p.2.map f)) l:=rfl
theorem mA{f:AC→AC}:A f ([]:O AC)= []:=rfl
theorem lz{f:AC→AC}{c:AC}{l:O AC}:A f (c::l)=f c::A f l:=rfl
theorem wO{α β:Type}{f:α→β}{l:O α}:(A f l).length=l.length:=List.length_map ..
theorem lc{c:AC}:V1.cells (.sc c)= [c]:=rfl
theorem lW{cs:O AC}:V1.cells (.ag cs)=cs:=rfl
theorem wd{f:AC→AC}{env bx rows}:(St.mk env bx rows).map f=⟨env.map fun p=>(p.1,p.2.map f),bx.map fun p=>(p.1,p.2.map f),rows⟩:=rfl
theorem jy{f:AC→AC}{c:AC}:AV.map f (.v (.sc c))= .v (.sc (f c)):=rfl
theorem jx{f:AC→AC}{cs:O AC}:AV.map f (.v (.ag cs))= .v (.ag (cs.map f)):=rfl
theorem ka{f:AC→AC}:AV.map f .undef= .undef:=rfl
theorem jw{f:AC→AC}:AV.map f .no= .no:=rfl
theorem jz{f:AC→AC}{l:O V1}:AV.map f (.tup l)= .tup (l.map (V1.map f)):=rfl
theorem A3j{f:AC→AC}{c:AC}:V1.map f (.sc c)= .sc (f c):=rfl
theorem A3i{f:AC→AC}{cs:O AC}:V1.map f (.ag cs)= .ag (cs.map f):=rfl
theorem vL{id:Y}{d:D}:AC.kill id (.dat d)= .dat d:=rfl
theorem vO{id:Y}:AC.kill id .nil= .nil:=rfl
theorem vS{id:Y}:AC.kill id .undef= .undef:=rfl
theorem vP{id i:Y}:AC.kill id (.own i)=bif i==id then .undef else .own i:=rfl
theorem vR{id i a b:Y}:AC.kill id (.osub i a b)=bif i==id then .undef else .osub i a b:=rfl
theorem vM{id i a b:Y}:AC.kill id (.pe i a b)=bif i==id then .undef else .pe i a b:=rfl
theorem vJ{id i a:Y}:AC.kill id (.pb i a)= .pb i a:=rfl
theorem vK{id f:Y}{is:O Y}:AC.kill id (.clo f is)= .clo f is:=rfl
theorem qd{id:Y}{es:O (O D)}{d:D}:AC.frz id es (.dat d)= .dat d:=rfl
theorem qg{id:Y}{es:O (O D)}:AC.frz id es .nil= .nil:=rfl
theorem qk{id:Y}{es:O (O D)}:AC.frz id es .undef= .undef:=rfl
theorem qh{id i:Y}{es:O (O D)}:AC.frz id es (.own i)=bif i==id then .dat (.sl es) else .own i:=rfl
theorem qj{id i a b:Y}{es:O (O D)}:AC.frz id es (.osub i a b)=bif i==id then .undef else .osub i a b:=rfl
theorem qe{id i a b:Y}{es:O (O D)}:AC.frz id es (.pe i a b)=bif i==id then .undef else .pe i a b:=rfl
theorem qa{id i a:Y}{es:O (O D)}:AC.frz id es (.pb i a)= .pb i a:=rfl
theorem qb{id f:Y}{es:O (O D)}{is:O Y}:AC.frz id es (.clo f is)= .clo f is:=rfl
theorem rj{P:Program}{k:O Fr}{Q:Xo→St→Prop}{σ:St}{its:O AItem}{id sz:Y}{es:O (O D)}(hf:A1 σ.rows id=E (sz,es))(H:go P (.ops its::k) Q .normal (E {(σ.map (AC.frz id es)) with rows:=erase σ.rows [id] }))(h0:(id / 99999999999==0)=T:=by rfl) :
  go P (.ops ((G,.frz id)::its)::k) Q .normal (E σ):=by
 rw[ri];simp only[St.step,hf,h0,zE,I,if_false];exact H
theorem FT{P:Program}{k:O Fr}{Q:Xo→St→Prop}{σ:St}{its:O AItem}{b j id sz:Y}{cs cs':O AC}(h1:σ.has id=F)(h2:A1 σ.bx b=E cs)(h3:cs[j]?=E .nil)(h4:cs.set j (.own id)=cs')
  (H:go P (.ops its::k) Q .normal (E {σ with bx:=put σ.bx b cs',rows:=put σ.rows id (sz,[]) })) (h0:(id / 99999999999==0)=T:=by rfl):go P (.ops ((G,.ownb b j id sz)::its)::k) Q .normal (E σ):=by
 rw[sL];subst h4;simp only[St.step,h1,h2,h3,h0,zE,Bool.or_self,I,if_false];exact H
theorem pw{α:Type}{ks:O Y}:erase ([]:O (Y × α)) ks= []:=rfl
theorem px{α:Type}{k n:Y}{v:α}{r:O (Y × α)}:erase ((k,v)::r) [n]=bif k==n then erase r [n] else(k,v)::erase r [n]:=by
 by_cases h:k=n
 ·simp[erase,h]
 ·have h':(k==n)=F:=by simpa using h
  simp[erase,h,h']
theorem zd{ts:O RV}{rs:O R1}{σ:St}:A8 ts rs .ret σ=(OutVs σ ts rs∧EU (Dz σ ts rs)=T):=rfl
theorem zb{ts:O RV}{rs:O R1}{σ:St}:A8 ts rs .normal σ=(OutVs σ ts rs∧EU (Dz σ ts rs)=T):=rfl
theorem xg{σ:St}{t:RV}{ts:O RV}{r:R1}{rs:O R1}:OutVs σ (t::ts) (r::rs)=(Q3 σ.rows (LO σ t) r∧OutVs σ ts rs):=rfl
theorem xf{σ:St}{t:RV}{ts:O RV}{r:R1}{rs:O R1}:Dz σ (t::ts) (r::rs)=UH (LO σ t) r++Dz σ ts rs:=rfl
theorem xe{σ:St}{a n:Y}{g:W}:LO σ (.c a g n)=(CR σ g n (σ.get a)).getD .undef:=rfl
def PE:=Z @zd (Z @zb (Z @xg (Z @xf @xe)))
set_option maxRecDepth 4000 in
def zu:=Z @sI (Z @sG (Z @sY (Z @sS (Z @rZ (Z @rf (Z @sX (Z @rN (Z @ra (Z @sV (Z @rR (Z @sR (Z @sQ (Z @sN (Z @sP (Z @rH (Z @rM (Z @sK (Z @rY (Z @UO (Z @rv (Z @ru (Z @rq (Z @rp (Z @ro (Z @qU (Z @qT (Z @yg (Z @yf (Z @A3l (Z @A3k (Z @qw (Z @A0p (Z @getD_some (Z @getD_none (Z @map_some (Z @map_none (Z @A0x (Z @wF (Z @A0c (Z @A0b (Z @wC (Z @mF (Z @ku (Z @lB (Z @ua (Z @uy (Z @uj (Z @uo (Z @uq (Z @ud (Z @uk (Z @ui (Z @uh (Z @ug (Z @ue (Z @A14 (Z @A15 (Z @A3e (Z @th (Z @vC (Z @qQ (Z @lX (Z @mC (Z @mB (Z @sF (Z @sJ (Z @sB (Z @sH (Z @rF (Z @rE (Z @si (Z @rT (Z @sZ (Z @sd (Z @rd (Z @re (Z @rx (Z @ry (Z @rc (Z @sA (Z @sW (Z @sb (Z @sE (Z @sC (Z @se (Z @rC (Z @rJ (Z @uW (Z @uO (Z @uP (Z @uT (Z @uS (Z @A56 (Z @A55 (Z @uZ (Z @uX (Z @uY (Z @uV (Z @uR (Z @uQ (Z @zi (Z @zj (Z @zl (Z @lZ (Z @lV (Z @zn (Z @zp (Z @zo (Z @yc (Z @yb (Z @je (Z @jd (Z @lK (Z @kk (Z @mh (Z @mp (Z @mT (Z @mc (Z @mn (Z @mQ (Z @mP (Z @mz (Z @mU (Z @mr (Z @mw (Z @mW (Z @mX (Z @mZ (Z @mN (Z @ma (Z @mV (Z @mb (Z @mq (Z @mu (Z @mg (Z @md (Z @mR (Z @mO (Z @mS (Z @mf (Z @nQ (Z @nS (Z @nD (Z @nM (Z @nR (Z @nC (Z @nB (Z @nY (Z @nE (Z @nU (Z @nW (Z @nG (Z @nH (Z @nJ (Z @nA (Z @nK (Z @nF (Z @nL (Z @nT (Z @nV (Z @nP (Z @nN (Z @na (Z @nZ (Z @nf (Z @nd (Z @nc (Z @wK (Z @wj (Z @wi (Z @vF (Z @vE (Z @vD (Z @A2p (Z @A3g (Z @jl (Z @jm (Z @jp (Z @jq (Z @jr (Z @jk (Z @jj (Z @xL (Z @xM (Z @jX (Z @rh (Z @rD (Z @oS (Z @oU (Z @oC (Z @oN (Z @oT (Z @nz (Z @ny (Z @oc (Z @oF (Z @oW (Z @oY (Z @oH (Z @oI (Z @oK (Z @nw (Z @oL (Z @oG (Z @oM (Z @oV (Z @oX (Z @oR (Z @oO (Z @oA (Z @nx (Z @oB (Z @oQ (Z @oD (Z @oE (Z @cJ (Z @cL (Z @cF (Z @cK (Z @br (Z @bq (Z @cS (Z @bu (Z @cO (Z @cQ (Z @bw (Z @cA (Z @cC (Z @cD (Z @bv (Z @cE (Z @cN (Z @cP (Z @cI (Z @cG (Z @xq (Z @xp (Z @xo (Z @vG (Z @rz (Z @xr (Z @kh (Z @xB (Z @A3d (Z @qH (Z @wE (Z @uL (Z @uK (Z @uN (Z @oh (Z @oe (Z @wO (Z @lc (Z @lW (Z @wd (Z @jy (Z @jx (Z @ka (Z @jz (Z @A3j (Z @A3i (Z @vL (Z @vO (Z @vS (Z @vP (Z @vR (Z @vM (Z @vJ (Z @vK (Z @qd (Z @qg (Z @qk (Z @qh (Z @qj (Z @qe (Z @qa (Z @qb (Z @pw (Z @px (Z @nu (Z @nv (Z @A2n (Z @A2o (Z @vz (Z @wA (Z @vu (Z @vw (Z @lf (Z @A0l (Z @A0n (Z @A0o (Z @K7 (Z @lC (Z @get_map (Z @qy (Z @qx (Z @nh (Z @ng (Z @tc (Z @tb (Z @wS (Z @wU (Z @wT (Z @qJ (Z @qI (Z @qF (Z @xG (Z @xH (Z @A3o (Z @A3n (Z (Z @ww (Z @wm (Z @wn (Z @wk (Z @wr @wq))))) (Z @wu (Z @lG (Z @lF (Z @lE (Z @rG (Z @A1o (Z @A1x (Z @zq (Z @jf (Z @A1f (Z @A1g (Z @A1h (Z @wc (Z @A0v (Z @A1n (Z @xX (Z @xY (Z @xV (Z @xW (Z @ji (Z @lJ (Z @A13 (Z @ub (Z @um (Z @uz (Z @ko (Z @kn (Z @kj (Z @ki (Z @jT (Z @RP (Z @bH (Z @WC (Z @yh (Z @yi (Z @yk (Z @yj (Z @wQ (Z @wP (Z @vX (Z @vW (Z @lI (Z @lH (Z @mA (Z @lz (Z @nb (Z @rn @jw))))))))))))))))))))))))))))))))))))))))))))))))))))))))))))))))))))))))))))))))))))))))))))))))))))))))))))))))))))))))))))))))))))))))))))))))))))))))))))))))))))))))))))))))))))))))))))))))))))))))))))))))))))))))))))))))))))))))))))))))))))))))))))))))))))))))))))))))))))))))))))))))))))))))))))))))))))))))))))))))))))))))))))))))))))))))))))))))))))))
theorem Di{P:Program}(hm:P.follows .mixedOrders=T){f:FuncId}{c:Xj}{ts:O RV}{nt:Y}{xs:O XV}{R0 R1:Aq}{r:D}{ps:O (Y × Y)}{σ:St}(he:B1 P f=E (c.strip,ts,nt))(hl:Nat.ble xs.length nt=T)(hlen:R1.length=R0.length)(hrf:r.flat=T)(hR1:DM R1)(hσ:St.initX xs R0=σ)
  (h:go P [.code c] (E1 ts r R1 ps) .normal (E σ)):Co P f xs R0 R1 r:=eS hm he (zB hl) hlen hrf hR1 (Ro (hσ▸h))
theorem Bu:DM []:=fun p hp=>by simp at hp
theorem AQ{α:Type}{row:α→O D} [FlatRow row]{sz:Y}{xs:O α}{R:Aq}(h:DM R):DM ((sz,A row xs)::R):=fun p hp=>by
 rcases List.mem_cons.1 hp with rfl|hp
 ·intro e he d hd;obtain⟨x,_,rfl⟩:=List.mem_map.1 he;exact FlatRow.flat x d hd
 ·exact h p hp
theorem Dc:DW [] []=T:=rfl
theorem C9{α β:Type}{row:α→O D}{row':β→O D}{z:Y}{xs:O α}{ys:O β}{R R':Aq}(hl:ys.length=xs.length)(h:DW R R'=T):DW ((z,A row xs)::R) ((z,A row' ys)::R')=T:=by
 simp[DW,hl,h]
theorem uU{env:O (Y × AV)}{bx:O (Y × O AC)}{rows:Rows}{d:Y}{ids:O Y}{R1:Aq}{r:D}:St.instX ⟨env,bx,rows⟩ d ids R1 r=⟨put env d (.v (.sc (.dat r))),bx,CT rows ids R1⟩:=rfl
theorem yd{rs:Rows}{id:Y}{ids:O Y}{r:Y × O (O D)}{R:Aq}:CT rs (id::ids) (r::R)=CT (put rs id r) ids R:=rfl
theorem ye{rs:Rows}:CT rs [] []=rs:=rfl
theorem Wq{N:O Y}:AV.avoids N (.v (.sc .z))=T:=by simp[AV.avoids,AV.cells,V1.cells,AC.avoids,AC.uses]
theorem B27{P:Program}{k:O Fr}{Q:Xo→St→Prop}{σ:St}{N:O Y}{d:Y}{its:O B0}:go P (.dops ((E N,G,.zsl d)::its)::k) Q .normal (E σ)=go P (.dops its::k) Q .normal (E (σ.set d (.v (.sc .z)))):=by
 rw[BC rfl];show go P _ Q .normal (bif (((σ.less N).set d (.v (.sc .z))).get d).avoids N then E (σ.set d (((σ.less N).set d (.v (.sc .z))).get d)) else G)=_
 rw[St.get_set_same,Wq];rfl
theorem jv{N:O Y}:AV.avoids N (.tup [])=T:=rfl
theorem ju{N:O Y}{x:V1}{l:O V1}:AV.avoids N (.tup (x::l))=((AV.v x).avoids N&&(AV.tup l).avoids N):=by simp[AV.avoids,AV.cells]
theorem wy{t:TypeId}{d:D}:Hk t (.v (.sc (.dat d)))=E (.v (.sc (.dat (.ifc t d)))):=rfl
theorem A2q{t u:TypeId}{zc:AC}{d:D}:LX t zc (.v (.sc (.dat (.ifc u d))))=bif u==t then E (.tup [.sc (.dat d),.sc (.dat (.bool T))]) else E (.tup [.sc zc,.sc (.dat (.bool F))]):=rfl
theorem qo{id:Y}{ds:O D}{d:D}:AC.frzb id ds (.dat d)= .dat d:=rfl
theorem qq{id:Y}{ds:O D}:AC.frzb id ds .nil= .nil:=rfl
theorem qu{id:Y}{ds:O D}:AC.frzb id ds .undef= .undef:=rfl
theorem qr{id i:Y}{ds:O D}:AC.frzb id ds (.own i)= .own i:=rfl
theorem qt{id i a b:Y}{ds:O D}:AC.frzb id ds (.osub i a b)= .osub i a b:=rfl
theorem qp{id i a b:Y}{ds:O D}:AC.frzb id ds (.pe i a b)= .pe i a b:=rfl
theorem qn{id i a:Y}{ds:O D}:AC.frzb id ds (.pb i a)=bif i==id then .dat (.pd (ds.drop a)) else .pb i a:=rfl
theorem yr{a b:Y}{d:D}:AC.ren a b (.dat d)= .dat d:=rfl
theorem yw{a b:Y}:AC.ren a b .nil= .nil:=rfl
theorem yz{a b:Y}:AC.ren a b .undef= .undef:=rfl
theorem yx{a b i:Y}:AC.ren a b (.own i)= .own (bif i==a then b else i):=rfl
theorem yy{a b i x y:Y}:AC.ren a b (.osub i x y)= .osub (bif i==a then b else i) x y:=rfl
theorem yu{a b i x y:Y}:AC.ren a b (.pe i x y)= .pe (bif i==a then b else i) x y:=rfl
theorem yp{a b i x:Y}:AC.ren a b (.pb i x)= .pb i x:=rfl
theorem sU{P:Program}{k:O Fr}{Q:Xo→St→Prop}{σ:St}{its:O AItem}{a b:Y}{r:Y × O (O D)}(h1:σ.has b=F)(hf:A1 σ.rows a=E r)(H:go P (.ops its::k) Q .normal (E {(σ.map (AC.ren a b)) with rows:=put (erase σ.rows [a]) b r }))
  (h0:(a / 99999999999==0)=T:=by rfl) (h2:(b / 99999999999==0)=T:=by rfl):go P (.ops ((G,.ren a b)::its)::k) Q .normal (E σ):=by
 rw[sT];simp only[St.step,h1,hf,h0,h2,zA,zE,Bool.or_self,I,if_false];exact H
theorem wx{t:TypeId}{a b:D}:Hk t (.v (.ag [.dat a,.dat b]))=E (.v (.sc (.dat (.ifs t [a,b])))):=rfl
def FCq(P:Program)(f:FuncId)(ds:O DV)(rs:O R1):U D→Prop
 | none=>FC P f ds rs
 | some d=>M4 P f ds d
theorem FCq.none{P:Program}{f:FuncId}{ds:O DV}{rs:O R1}{pd:U D}(h:FCq P f ds rs pd)(hp:pd=G):FC P f ds rs:=by subst hp; exact h
theorem FCq.some{P:Program}{f:FuncId}{ds:O DV}{rs:O R1}{pd:U D}{d:D}(h:FCq P f ds rs pd)(hp:pd=E d):M4 P f ds d:=by subst hp; exact h
theorem wz{t:TypeId}{id:Y}:Hk t (.v (.sc (.pb id 0)))=E (.v (.sc (.ipb t id))):=rfl
theorem vN{id i:Y}{t:TypeId}:AC.kill id (.ipb t i)= .ipb t i:=rfl
theorem qf{id i:Y}{t:TypeId}{es:O (O D)}:AC.frz id es (.ipb t i)= .ipb t i:=rfl
theorem Rm{P:Program}{k:O Fr}{Q:Xo→St→Prop}{σ:St}{its:O AItem}{id:Y}{cs:O AC}{ds:O D}(hf:A1 σ.bx id=E cs)(hd:CV cs=E ds)(H:go P (.ops its::k) Q .normal (E (({σ with bx:=erase σ.bx [id]}:St).map (AC.frzb id ds))))(h0:(id / 99999999999==0)=T:=by rfl) :
  go P (.ops ((G,.frzb id)::its)::k) Q .normal (E σ):=by
 rw[rl];simp only[St.step,hf,hd,h0,zE,I,if_false];exact H
theorem qv{g:W}{ks:O FK}{cs ds:O AC}:Lw g ks (.v (.ag cs)) (.v (.ag ds))=(Bt ks cs ds).map fun b=> .v (.sc (.dat (.bool (bif g then !b else b)))):=rfl
theorem pu:Bt [] [] []=E T:=rfl
theorem pr{k:IntKind}{x y:V}{ks:O FK}{cs ds:O AC}:Bt (.i::ks) (.dat (.int k x)::cs) (.dat (.int k y)::ds)=(Bt ks cs ds).map fun b=>(x==y)&&b:=if_pos rfl
theorem pq{x y:W}{ks:O FK}{cs ds:O AC}:Bt (.b::ks) (.dat (.bool x)::cs) (.dat (.bool y)::ds)=(Bt ks cs ds).map fun b=>(x==y)&&b:=rfl
theorem pv{x y:O UInt8}{ks:O FK}{cs ds:O AC}:Bt (.s::ks) (.dat (.str x)::cs) (.dat (.str y)::ds)=(Bt ks cs ds).map fun b=>(x==y)&&b:=rfl
def zw:=Z @Wq (Z @B27 (Z @jv (Z @ju (Z @uU (Z @yd (Z @ye (Z @sD (Z @sg (Z @cH (Z @cR (Z @me (Z @nO (Z @oP (Z @my (Z @nX (Z @oZ (Z @wy (Z @A2q (Z @qo (Z @qq (Z @qu (Z @qr (Z @qt (Z @qp (Z @qn (Z @wz (Z @vN (Z @qf (Z @yr (Z @yw (Z @yz (Z @yx (Z @yy (Z @yu (Z @yp (Z @sM (Z @rQ (Z @sO (Z @rK (Z @wx (Z @cB (Z @rr (Z @mY (Z @nI (Z @oJ (Z @qv (Z @pu (Z @pr (Z @pq @pv)))))))))))))))))))))))))))))))))))))))))))))))))
end Go.Vi
