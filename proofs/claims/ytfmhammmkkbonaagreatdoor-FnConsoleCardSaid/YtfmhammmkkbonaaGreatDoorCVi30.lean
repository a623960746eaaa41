/-
The value level. No condition.
-/
import Derived.Test.YtfmhammmkkbonaaGreatDoorCVi28
namespace Go.Vi
set_option linter.all false
open And renaming intro → Z
open List renaming map → A, mem_singleton → B, replicate → I
open Nat renaming one_pos → zA
open Bool renaming and_self → zB, true → T, false → F
open Option renaming some → E, none → G
open _root_ renaming List → O, Option → U, Int → V, Bool → W, Nat → Y
abbrev S(n:Y):Opd:= .t n
abbrev K(n:V):Opd:= .c (.v (.sc (.dat (.int .i64 n))))
abbrev K8(n:V):Opd:= .c (.v (.sc (.dat (.int .u8 n))))
abbrev KB(b:W):Opd:= .c (.v (.sc (.dat (.bool b))))
abbrev KS(s:O UInt8):Opd:= .c (.v (.sc (.dat (.str s))))
abbrev KN:Opd:= .c (.v (.sc .nil))
abbrev aI(n:V):AC:= .dat (.int .i64 n)
abbrev a8(n:V):AC:= .dat (.int .u8 n)
abbrev aB(b:W):AC:= .dat (.bool b)
abbrev aS(s:O UInt8):AC:= .dat (.str s)
abbrev aL(es:O (O D)):AC:= .dat (.sl es)
abbrev vc(c:AC):AV:= .v (.sc c)
abbrev va(cs:O AC):AV:= .v (.ag cs)
def rI(n:V):O D:= [.int .i64 n]
def r8(n:V):O D:= [.int .u8 n]
def rB(b:W):O D:= [.bool b]
def rS(s:O UInt8):O D:= [.str s]
def rL{α:Type}(row:α→O D)(xs:O α):O D:= [.sl (xs.map row)]
class Row {α:Type} (row:α→O D) (sz:Y):Prop where
 len:∀x,(row x).length=sz
 pos:0<sz
instance:Row rI 1:=⟨fun _=>rfl,zA⟩
instance:Row r8 1:=⟨fun _=>rfl,zA⟩
instance:Row rB 1:=⟨fun _=>rfl,zA⟩
instance:Row rS 1:=⟨fun _=>rfl,zA⟩
instance {α:Type} (row:α→O D):Row (rL row) 1:=⟨fun _=>rfl,zA⟩
theorem XE(n:V):rI n= [.int .i64 n]:=rfl
def xF(n:V):UInt8:=UInt8.ofNat n.toNat
theorem TK:∀{xs:O V},Df (A r8 xs)=E (A xF xs)
 | []=>rfl
 | n::xs=>by
  show(Df (A r8 xs)).map _=_
  rw[TK];rfl
theorem ua(n:V):r8 n= [.int .u8 n]:=rfl
theorem uc(b:W):rB b= [.bool b]:=rfl
theorem ue(s:O UInt8):rS s= [.str s]:=rfl
theorem ud{α:Type}(row:α→O D)(xs:O α):rL row xs= [.sl (xs.map row)]:=rfl
theorem Tj{α:Type}{row:α→O D}{sz:Y}(h:∀x,(row x).length=sz)(xs:O α):(xs.map row).all (fun d=>d.length==sz)=T:=by
 simp[List.all_map,Function.comp_def,h]
@[irreducible] def bigN:Y:=1208925819614629174706176
def bnd(m h l:V)(n:Y):U (Y × Y):=if 0≤l∧l≤h∧h≤m∧m≤n then E (l.toNat,h.toNat) else G
def B2(l c:V)(bytes:Y):U Y:=if 0≤l∧l≤c∧c*bytes≤140737488355328∧c≤4611686018427387904 then E l.toNat else G
def A4(n m bytes:Y):W:=decide ((n+m)*bytes≤140737488355328∧n+m≤4611686018427387904)
def AP(n m:Y):W:=decide (n+m≤4611686018427387904)
theorem P7{α β:Type}{f:α→β}{l:O α}{i:V}:ix (l.map f) i=(ix l i).map f:=by
 unfold ix;split<;>simp
theorem Am{α:Type}{l:O α}{i:V}{x:α}(h:ix l i=E x):l[i.toNat]?=E x:=by
 unfold ix at h;split at h
 ·exact h
 ·cases h
theorem ob{α β:Type}{o:U α}{f:α→U β}{r:β}(h:o.bind f=E r):∃a,o=E a∧f a=E r:=Option.bind_eq_some_iff.1 h
class FlatRow {α:Type} (row:α→O D):Prop where
 flat:∀x,∀d∈row x,d.flat=T
instance:FlatRow rI:=⟨fun _ d h=>by rw[B.1 h]; rfl⟩
instance:FlatRow r8:=⟨fun _ d h=>by rw[B.1 h]; rfl⟩
instance:FlatRow rB:=⟨fun _ d h=>by rw[B.1 h]; rfl⟩
instance:FlatRow rS:=⟨fun _ d h=>by rw[B.1 h]; rfl⟩
def SQ:O RC→Prop
 | []=>True
 | c::cs=>c.flat∧SQ cs
theorem Ea{rs:O R1}{cs:O RC}(h:rs.flatMap R1.cells=cs)(hf:SQ cs):CD rs:=by
 subst h;unfold CD;generalize rs.flatMap R1.cells=l at hf
 induction l with
 | nil=>intro c hc; simp at hc
 | cons a l ih=>
  intro c hc;rcases List.mem_cons.1 hc with rfl|hc
  ·exact hf.1
  ·exact ih hf.2 c hc
theorem Eb{α:Type}{row:α→O D} [FlatRow row]{sz:Y}{xs:O α}:RC.flat (.o sz (A row xs)):=by
 intro r hr;obtain⟨x,_,rfl⟩:=List.mem_map.1 hr;exact FlatRow.flat x
theorem S8{α:Type}{row:α→O D}{z:α}{zs:O D}{n:Y}(h:row z=zs):I n zs=A row (I n z):=by rw[List.map_replicate,h]
theorem AN{α:Type}{b:W}{x:U α}{r:α}(h:(if b=T then x else G)=E r):b=T∧x=E r:=by
 cases b
 ·rw[if_neg Bool.false_ne_true] at h; cases h
 ·exact⟨rfl,by simpa using h⟩
theorem FN{α:Type}{b:W}{x:U α}{r:α}(h:(if b=T then G else x)=E r):b=F∧x=E r:=by
 cases b
 ·exact⟨rfl,by simpa using h⟩
 ·rw[if_pos rfl] at h; cases h
theorem ic{α:Type}{b:W}{x y:U α}{r:α}(h:(if b=T then x else y)=E r):(b=T∧x=E r)∨(b=F∧y=E r):=by
 cases b with
 | true=>exact .inl ⟨rfl,h⟩
 | false=>exact .inr ⟨rfl,h⟩
section
variable {P : Program} {k : O Fr} {Q : Xn → St → Prop} {σ : St} {its : O AItem} {ds : O AT} {o : AOp} {d : Y}
theorem AY{c:Xg}(h:go P (.code c:: .code (.loop c)::k) Q .normal (E σ)):go P (.code (.loop c)::k) Q .normal (E σ):=by
 intro X hX;refine hX σ (Tz c (fun e σ' h=> ?_) h);cases e with
 | normal=>exact h X hX
 | exit id=>exact h
 | ret=>exact h
 | pan d=>exact h
theorem ZU(hm:P.follows .mixedOrders=T){f:FuncId}{c:Xg}{ts:O RV}{nt:Y}{ds:O DV}{rs:O R1}{σ:St}(he:AG P f=E (c.strip,ts,nt))(hl:Nat.ble ds.length nt=T)(hσ:St.init ds=σ)
  (h:go P [.code c] (A6 ts rs) .normal (E σ)):FC P f ds rs:=ZX hm he (Nat.le_of_ble_eq_true hl) fun _=>JS (hσ▸h)
theorem SO(hm:P.follows .mixedOrders=T){f:FuncId}{c:Xg}{ts:O RV}{nt:Y}{ds:O DV}{rs:O R1}(he:AG P f=E (c.strip,ts,nt))(hl:Nat.ble ds.length nt=T)
  (h:go P [.code c] (A6 ts rs) .normal (E (St.init ds))):FC P f ds rs:=ZU hm he hl rfl h
theorem Wp{sz:Y}{es:O (O D)}(hf:σ.fresh d=T):σ.make (.row d sz es)=E {(σ.set d (.v (.sc (.own (d*64))))) with rows:=put σ.rows (d*64) (sz,es)}:=by simp[St.make,hf]
theorem K4{cs:O AC}(hf:σ.fresh d=T)(hu:cs.all (fun c=> !c.uses d)=T):σ.make (.box d cs)=E {(σ.set d (.v (.sc (.pb d 0)))) with bx:=put σ.bx d cs}:=by simp only[St.make,hf,hu,zB,if_true]
theorem OJ{m:Mk}(ho:o.isMade=T)(hm:σ.made o=E m){σ':St}(hs:σ.make m=E σ')(H:go P (.ops its::k) Q .normal (E σ')):go P (.ops ((G,o)::its)::k) Q .normal (E σ):=by
 have hc:o.isCall=F:=by cases o<;>first | rfl | (simp[AOp.isMade] at ho; done)
 rw[B1 hc,wQ ho,hm];show go P (.ops its::k) Q .normal (σ.make m)
 rw[hs];exact H
theorem nZ{X:Opd}{y:V1}(hX:σ.val X= .v y)(hf:σ.fresh d=T)(hu:y.cells.all (fun c=> !c.uses d)=T)(H:go P (.ops its::k) Q .normal (E {(σ.set d (.v (.sc (.pb d 0)))) with bx:=put σ.bx d y.cells })) :
  go P (.ops ((G,.box d X)::its)::k) Q .normal (E σ):=OJ rfl (by simp only[St.made,hX]) (K4 hf hu) H
theorem nN{cs:O AC}(hf:σ.fresh d=T)(hu:cs.all (fun c=> !c.uses d)=T)(H:go P (.ops its::k) Q .normal (E {(σ.set d (.v (.sc (.pb d 0)))) with bx:=put σ.bx d cs })) :
  go P (.ops ((G,.alloc d cs)::its)::k) Q .normal (E σ):=OJ rfl rfl (K4 hf hu) H
theorem DL{sz:Y}{zs:O D}{len:Y}{ps:O (Y × Opd)}{es:O (O D)}(hm:σ.made (.bslice d sz zs len ps)=E (.row d sz es))(hf:σ.fresh d=T)
  (H:go P (.ops its::k) Q .normal (E {(σ.set d (.v (.sc (.own (d*64))))) with rows:=put σ.rows (d*64) (sz,es) })):go P (.ops ((G,.bslice d sz zs len ps)::its)::k) Q .normal (E σ):=OJ rfl hm (Wp hf) H
theorem sP{L C:Opd}{l c:V}{bytes n sz:Y}{zs:O D}{es:O (O D)}(hl:BX (σ.val L)=E l)(hc:BX (σ.val C)=E c)(hb:B2 l c bytes=E n)(hz:zs.length=sz)(he:I n zs=es) :
  σ.made (.mksl d sz bytes zs L C)=E (.row d sz es):=by
 unfold B2 at hb
 split at hb
 ·rename_i h
  cases hb;subst he;simp only[St.made,hl,hc];rw[if_pos ⟨h.1,h.2.1,h.2.2.1,h.2.2.2,hz⟩]
 ·cases hb
theorem QZ{L C:Opd}{l c:V}{bytes n sz:Y}{zs:O D}{es:O (O D)}(hl:BX (σ.val L)=E l)(hc:BX (σ.val C)=E c)(hb:B2 l c bytes=E n)(hz:zs.length=sz)(he:I n zs=es)(hf:σ.fresh d=T)
  (H:go P (.ops its::k) Q .normal (E {(σ.set d (.v (.sc (.own (d*64))))) with rows:=put σ.rows (d*64) (sz,es) })):go P (.ops ((G,.mksl d sz bytes zs L C)::its)::k) Q .normal (E σ):=
 OJ rfl (sP hl hc hb hz he) (Wp hf) H
theorem OK{n:Y}{N:O Y}{m:Mk}(hm:(σ.less (n::N)).made o=E m)(hv:Wx (n::N) m=T){σ':St}(hs:σ.make m=E σ')(H:go P (.dops ds::k) Q .normal (E σ')) :
  go P (.dops ((E (n::N),G,o)::ds)::k) Q .normal (E σ):=nl hm hv hs H
theorem Dq{α:Type}{env bx rows}{id sz i off n:Y}{xs:O α}{row:α→O D}{x y:α}{yv:V1}{dd:O D}(hd:yv.toDs=E dd)(hf:A1 rows id=E (sz,A row xs))
  (hx:xs[i]?=E x) (hn:dd.length=n) (ho:Nat.ble (off+n) (row x).length=T) (hy:FO (row x) off dd=row y) (H:go P k Q .normal (E ⟨env,bx,put rows id (sz,A row (xs.set i y))⟩)) :
  go P k Q .normal (St.storeV ⟨env,bx,rows⟩ n (.v (.sc (.pe id i off))) (.v yv)):=by
 have e:St.storeV ⟨env,bx,rows⟩ n (.v (.sc (.pe id i off))) (.v yv)=E ⟨env,bx,put rows id (sz,A row (xs.set i y))⟩:=by
  simp only[St.storeV,hf,List.getElem?_map,hx,Option.map_some,hd];rw[if_pos ⟨hn,Nat.le_of_ble_eq_true ho⟩,hy,List.map_set]
 rw[e];exact H
end
def DG{α:Type}:Y→O α→U (O α)
 | 0,l=>E l
 | _+1,[]=>G
 | n+1,_::l=>DG n l
def FR{α:Type}:Y→O α→U (O α)
 | 0,_=>E []
 | _+1,[]=>G
 | n+1,c::l=>(FR n l).map (c:: ·)
def DN{α:Type}:O α→Y→W
 | [],0=>T
 | _::l,n+1=>DN l n
 | _,_=>F
def C3{α:Type}:O α→Y→W
 | _,0=>T
 | _::l,n+1=>C3 l n
 | [],_+1=>F
theorem KT{α:Type}:∀(n:Y) (l:O α),DG n l=if n≤l.length then E (l.drop n) else G
 | 0,l=>by simp[DG]
 | n+1,[]=>by simp[DG]
 | n+1,c::l=>by simp[DG,KT n l]
theorem YJ{α:Type}:∀(n:Y) (l:O α),FR n l=if n≤l.length then E (l.take n) else G
 | 0,l=>by simp[FR]
 | n+1,[]=>by simp[FR]
 | n+1,c::l=>by simp only[FR,YJ n l]; split<;>simp_all
theorem Rw{α:Type}:∀(l:O α) (n:Y),DN l n=decide (l.length=n)
 | [],0=>by simp[DN]
 | [],n+1=>by simp[DN]
 | _::l,0=>by simp[DN]
 | _::l,n+1=>by simp[DN,Rw l n]
theorem MH{α:Type}:∀(l:O α) (n:Y),C3 l n=decide (n≤l.length)
 | [],0=>by simp[C3]
 | [],n+1=>by simp[C3]
 | _::l,0=>by simp[C3]
 | _::l,n+1=>by simp[C3,MH l n]
theorem iv{α:Type}{l:O α}:DG 0 l=E l:=by cases l<;>rfl
theorem iw{α:Type}{n:Y}{c:α}{l:O α}:DG (n+1) (c::l)=DG n l:=rfl
theorem wo{α:Type}{l:O α}:FR 0 l=E []:=by cases l<;>rfl
theorem wq{α:Type}{n:Y}{c:α}{l:O α}:FR (n+1) (c::l)=(FR n l).map (c:: ·):=rfl
theorem ro{α:Type}:DN ([]:O α) 0=T:=rfl
theorem rp{α:Type}{n:Y}{c:α}{l:O α}:DN (c::l) (n+1)=DN l n:=rfl
theorem rm{α:Type}{l:O α}:C3 l 0=T:=by cases l<;>rfl
theorem rn{α:Type}{n:Y}{c:α}{l:O α}:C3 (c::l) (n+1)=C3 l n:=rfl
theorem ff{cs:O AC}{off n:Y}:CO cs off T n=(DG off cs).bind fun l=>(FR n l).map fun l=> .v (.ag l):=by
 simp only[CO,cond_true,KT,YJ];by_cases h:off≤cs.length
 ·rw[if_pos h];by_cases h2:off+n≤cs.length
  ·rw[if_pos h2,Option.bind_some,if_pos (by simp; omega)]; rfl
  ·rw[if_neg h2,Option.bind_some,if_neg (by simp; omega)]; rfl
 ·rw[if_neg h,if_neg (by omega)]; rfl
theorem vl{cs:O AC}:BJ cs 0 []=cs:=by simp[BJ]
theorem vo{c:AC}{cs ds:O AC}{n:Y}:BJ (c::cs) (n+1) ds=c::BJ cs n ds:=by
 simp only[BJ,List.take_succ_cons,List.cons_append];rw[show n+1+ds.length=(n+ds.length)+1 by omega,List.drop_succ_cons]
theorem vp{c d:AC}{cs ds:O AC}:BJ (c::cs) 0 (d::ds)=d::BJ cs 0 ds:=by simp[BJ]
theorem IU{α β:Type}{a:α}{f:α→U β}:(E a).bind f=f a:=rfl
theorem en{α β:Type}{f:α→U β}:(G:U α).bind f=G:=rfl
theorem get_map{α β:Type}{f:α→β}{l:O α}{i:Y}:(A f l)[i]?=(l[i]?).map f:=List.getElem?_map
theorem nH{α:Type}{a:α}{l:O α}:(a::l)[0]?=E a:=rfl
theorem nG{α:Type}{a:α}{l:O α}{n:Y}:(a::l)[n+1]?=l[n]?:=by simp
theorem ib:A AC.dat []= []:=rfl
theorem iZ{d:D}{l:O D}:A AC.dat (d::l)= .dat d::A AC.dat l:=rfl
section
variable {P : Program} {k : O Fr} {Q : Xn → St → Prop} {σ : St} {its : O AItem} {env : O (Y × AV)} {bx : O (Y × O AC)} {rows : Rows}
theorem pj{α:Type}{rs:Rows}{sz:Y}{xs:O α}{row:α→O D} [Row row sz]{kd:IntKind}{i:V}:CQ rs sz (.v (.sc (.dat (.sl (A row xs))))) (.v (.sc (.dat (.int kd i))))=(ix xs i).map fun x=> .v (.sc (.dat (.pd (row x)))):=by
 simp only[CQ,P7];cases ix xs i with
 | none=>rfl
 | some x=>simp[Row.len (row:=row) (sz:=sz),Row.pos row]
theorem pi{rs:Rows}{sz id:Y}{kd:IntKind}{i:V}:CQ rs sz (.v (.sc (.own id))) (.v (.sc (.dat (.int kd i))))=(A1 rs id).bind fun p=>(ix p.2 i).bind fun _=>bif p.1==sz then E (.v (.sc (.pe id i.toNat 0))) else G:=by
 simp only[CQ];cases A1 rs id with
 | none=>rfl
 | some p=>
  obtain⟨a,es⟩:=p;simp only[IU];cases ix es i with
  | none=>rfl
  | some x=>
   by_cases h:a=sz
   ·simp[h]
   ·have h':(a==sz)=F:=by simpa using h
    simp[h,h']
theorem sK{g:W}{n id off:Y}:Cq ⟨env,bx,rows⟩ g n (.v (.sc (.pb id off)))=(A1 bx id).bind fun cs=>CO cs off g n:=by
 show(match A1 bx id with | some cs=>_ | none=>G)=_
 cases A1 bx id<;>rfl
theorem sM{g:W}{n id i off:Y}:Cq ⟨env,bx,rows⟩ g n (.v (.sc (.pe id i off)))=(A1 rows id).bind fun p=>(p.2[i]?).bind fun d=>CO (A AC.dat d) off g n:=by
 simp only[Cq];cases A1 rows id with
 | none=>rfl
 | some p=>
  simp only[IU];cases p.2[i]?<;>rfl
theorem sL{g:W}{n:Y}{cs:O D}:Cq σ g n (.v (.sc (.dat (.pd cs))))=CO (A AC.dat cs) 0 g n:=rfl
theorem lI{rs:Rows}{off id i o:Y}:Cl rs off (.v (.sc (.pe id i o)))=(A1 rs id).map fun _=> .v (.sc (.pe id i (o+off))):=by
 simp only[Cl];cases A1 rs id<;>rfl
theorem lH{rs:Rows}{off:Y}{cs:O D}:Cl rs off (.v (.sc (.dat (.pd cs))))=(DG off cs).map fun cs=> .v (.sc (.dat (.pd cs))):=by
 simp only[Cl,KT];split<;>rfl
theorem lE{l:O V1}{i:Y}:J7 i (.tup l)=(l[i]?).map .v:=rfl
theorem tF{id off:Y}:FL (.v (.sc (.pb id off)))=E (.v (.sc (.pb id off))):=rfl
theorem tG{cs:O D}:FL (.v (.sc (.dat (.pd cs))))=E (.v (.sc (.dat (.pd cs)))):=rfl
theorem xb:A (St.val σ) []= []:=rfl
theorem xa{x:Opd}{l:O Opd}:A (St.val σ) (x::l)=σ.val x::A (St.val σ) l:=rfl
theorem si{f:FuncId}:FJ f []=E []:=rfl
theorem sa{f:FuncId}:FH f []=E (.clo f []):=rfl
theorem sb{f:FuncId}{id:Y}{r:O AV}:FH f (.v (.sc (.pb id 0))::r)=(FJ f (.v (.sc (.pb id 0))::r)).map (.clo f):=rfl
theorem sZ{f:FuncId}{d:D}{r:O AV}:FH f (.v (.sc (.dat d))::r)=(FI (.v (.sc (.dat d))::r)).map fun q=> .dat (.clo f q):=rfl
theorem sf:FI []=E []:=rfl
theorem se{ds:O D}{r:O AV}:FI (.v (.sc (.dat (.pd ds)))::r)=(FI r).map (.pd ds:: ·):=rfl
theorem sg{f:FuncId}{id:Y}{r:O AV}:FJ f (.v (.sc (.pb id 0))::r)=(FJ f r).map (id:: ·):=rfl
def NF(K:O AC→U (O AC))(off n:Y)(cs:O AC):AV→U (O AC)
 | .v x=>bif DN x.cells n&&C3 cs (off+n) then K (BJ cs off x.cells) else G
 | _=>G
def G0(σ:St):O (Y × Y × Opd)→O AC→U (O AC)
 | [],cs=>E cs
 | (off,n,x)::r,cs=>NF (G0 σ r) off n cs (σ.val x)
theorem Qi:∀(ps:O (Y × Y × Opd)) (cs:O AC),Dp cs (ps.map fun p=>(p.1,p.2.1,σ.val p.2.2))=G0 σ ps cs
 | [],cs=>rfl
 | (off,n,x)::r,cs=>by
  simp only[List.map_cons,G0];generalize σ.val x=v
  cases v with
  | v y=>
   simp only[Dp,NF,Rw,MH];by_cases h1:y.cells.length=n
   ·by_cases h2:off+n≤cs.length
    ·subst h1;simp only[h2,and_self,if_true,decide_true,zB,cond_true];exact Qi r _
    ·simp[h1,h2]
   ·simp[h1]
  | _=>rfl
theorem fB{cs:O AC}:G0 σ [] cs=E cs:=rfl
theorem fA{off n:Y}{x:Opd}{r:O (Y × Y × Opd)}{cs:O AC}:G0 σ ((off,n,x)::r) cs=NF (G0 σ r) off n cs (σ.val x):=rfl
theorem eu{K:O AC→U (O AC)}{off n:Y}{cs:O AC}{x:V1}:NF K off n cs (.v x)=bif DN x.cells n&&C3 cs (off+n) then K (BJ cs off x.cells) else G:=rfl
theorem nS{d zs ps}:go P (.ops ((G,.build d zs ps)::its)::k) Q .normal (E σ)=go P (.ops its::k) Q .normal (Ax σ d ((G0 σ ps zs).map fun cs=> .v (.ag cs))):=by rw[nY,Qi]
theorem wM{d zs ps}:σ.step (.build d zs ps)=Ax σ d ((G0 σ ps zs).map fun cs=> .v (.ag cs)):=by rw[Ye,Qi]
theorem wU{n id off:Y}{y:V1}:St.storeV ⟨env,bx,rows⟩ n (.v (.sc (.pb id off))) (.v y)=(A1 bx id).bind fun cs=>bif DN y.cells n&&C3 cs (off+n) then E ⟨env,put bx id (BJ cs off y.cells),rows⟩ else G:=by
 simp only[St.storeV,Rw,MH];cases A1 bx id with
 | none=>rfl
 | some cs=>
  simp only[IU];by_cases h1:y.cells.length=n
  ·by_cases h2:off+n≤cs.length
   ·simp[h1,h2]
   ·simp[h1,h2]
  ·simp[h1]
def Px(sz:Y)(es:O (O D)):W:=es.all fun r=>r.length==sz
theorem vL{α:Type}{sz:Y}{row:α→O D} [Row row sz]{xs:O α}:Px sz (A row xs)=T:=Tj (Row.len (row:=row)) xs
theorem db{d sz bytes id:Y}{y:AV}:St.appV ⟨env,bx,rows⟩ d sz bytes (.v (.sc (.own id))) y=bif id / 99999999999==0 then((A1 rows id).bind fun p=>(appSrc rows y).bind fun es'=>
  bif (p.1==sz)&&(Px sz es'&&A4 p.2.length es'.length bytes) then E ⟨put (env.map fun p=>(p.1,p.2.map (AC.kill id))) d (.v (.sc (.own id))),bx.map fun p=>(p.1,p.2.map (AC.kill id)),put rows id (sz,p.2++es')⟩ else G) else G:=by
 simp only[St.appV];by_cases h0:id / 99999999999=0
 rotate_left
 ·rw[if_neg h0,show(id / 99999999999==0)=F by simpa using h0];rfl
 rw[if_pos h0,show(id / 99999999999==0)=T by simpa using h0,cond_true];cases A1 rows id with
 | none=>rfl
 | some p=>
  obtain⟨a,es⟩:=p;simp only[IU];cases appSrc rows y with
  | none=>rfl
  | some es'=>
   simp only[IU];by_cases h1:a=sz
   ·by_cases h2:Px sz es'=T
    ·by_cases h3:A4 es.length es'.length bytes=T
     ·have h3':=of_decide_eq_true h3;rw[if_pos ⟨h1,h2,h3'.1,h3'.2⟩];simp only[h1,beq_self_eq_true,h2,h3,zB,cond_true];rfl
     ·have h3':A4 es.length es'.length bytes=F:=by simpa using h3
      rw[if_neg (fun h=>h3 (decide_eq_true ⟨h.2.2.1,h.2.2.2⟩))];simp[h3']
    ·have h2':Px sz es'=F:=by simpa using h2
     rw[if_neg (fun h=>h2 h.2.1)];simp[h2']
   ·have h1':(a==sz)=F:=by simpa using h1
    rw[if_neg (fun h=>h1 h.1)];simp[h1']
theorem wF{rs:Rows}{es:O (O D)}:appSrc rs (.v (.sc (.dat (.sl es))))=E es:=rfl
theorem wG{rs:Rows}:appSrc rs (.v (.sc .nil))=E []:=rfl
theorem wH{rs:Rows}{id:Y}:appSrc rs (.v (.sc (.own id)))=(A1 rs id).map fun p=>p.2:=by
 simp only[appSrc,toD0];cases A1 rs id<;>rfl
theorem sT{α:Type}{f:α→O D}{a b:O α}:A f a++A f b=A f (a++b):=List.map_append.symm
def ET(σ:St)(n:Y):U Opd→U V
 | none=>E n
 | some x=>BX (σ.val x)
def H3(n:Y):U V→U V→U V→U (Y × Y)
 | some m,E h,E l=>bnd m h l n
 | _,_,_=>G
theorem Qj{lo hi mx:U Opd}{n:Y}:E0 σ lo hi mx n=H3 n (ET σ n mx) (ET σ n hi) (match lo with | none=>E 0 | some x=>BX (σ.val x)):=by
 cases mx<;>cases hi<;>cases lo<;>(simp only[E0,H3,ET]; first | rfl | (split<;>simp_all[H3,bnd]))
def MQ(σ:St):U Opd→U V
 | none=>E 0
 | some x=>BX (σ.val x)
theorem wA{α:Type}{sz:Y}{lo hi mx:U Opd}{xs:O α}{row:α→O D} [Row row sz]:Eh σ sz (.v (.sc (.dat (.sl (A row xs))))) lo hi mx=(H3 xs.length (ET σ xs.length mx) (ET σ xs.length hi) (MQ σ lo)).map fun p=> .v (.sc (.dat (.sl (A row ((xs.drop p.1).take (p.2 - p.1)))))):=by
 have h:(A row xs).all (fun d=>d.length==sz)=T:=Tj (Row.len (row:=row)) xs;simp only[Eh,h,Row.pos row (sz:=sz),decide_true,zB,if_true,List.length_map,Qj];cases lo<;>simp[MQ,List.map_drop,List.map_take]
theorem wL{lo hi:U Opd}{s:O UInt8}:GO σ (.v (.sc (.dat (.str s)))) lo hi=(H3 s.length (ET σ s.length G) (ET σ s.length hi) (MQ σ lo)).map fun p=> .v (.sc (.dat (.str ((s.drop p.1).take (p.2 - p.1))))):=by
 simp only[GO,Qj];cases lo<;>rfl
theorem tY{n:Y}:ET σ n G=E (n:V):=rfl
theorem tZ{n:Y}{x:Opd}:ET σ n (E x)=BX (σ.val x):=rfl
theorem tW:MQ σ G=E 0:=rfl
theorem tX{x:Opd}:MQ σ (E x)=BX (σ.val x):=rfl
theorem dj{kd:IntKind}{i:V}:BX (.v (.sc (.dat (.int kd i))))=E i:=rfl
theorem fE{n:Y}{m h l:V}:H3 n (E m) (E h) (E l)=bnd m h l n:=rfl
theorem wa{x y:O UInt8}:GP .add x y=bif AP x.length y.length then E (.str (x++y)) else G:=by
 simp only[GP,AP];by_cases h:x.length+y.length≤4611686018427387904
 ·simp[h]
 ·simp[h]
theorem qY{k:IntKind}{x y:V}:AI .and k x y=E (.int k (AM .and k x y)):=rfl
theorem qh{k:IntKind}{x y:V}:AI .or k x y=E (.int k (AM .or k x y)):=rfl
theorem qu{k:IntKind}{x y:V}:AI .xor k x y=E (.int k (AM .xor k x y)):=rfl
theorem eU:(T==T)=T:=rfl
theorem eT:(T==F)=F:=rfl
theorem eR:(F==T)=F:=rfl
theorem eQ:(F==F)=T:=rfl
theorem dM{b:W}:(F&&b)=F:=rfl
end
def WT{α:Type}(k:Y):U α→O (Y × α)→O (Y × α)
 | some v,r=>(k,v)::r
 | none,r=>r
theorem uE{α:Type}{l:O (Y × α)}:Cf l []= []:=rfl
theorem uD{α:Type}{l:O (Y × α)}{k:Y}{ks:O Y}:Cf l (k::ks)=WT k (A1 l k) (Cf l ks):=by
 show(match A1 l k with | some v=>_ | none=>_)=_
 cases A1 l k<;>rfl
theorem uC{α:Type}{k:Y}{v:α}{r:O (Y × α)}:WT k (E v) r=(k,v)::r:=rfl
theorem rE{env bx rows ks bs rs}:(St.mk env bx rows).kept ks bs rs=⟨Cf env ks,Cf bx bs,Cf rows rs⟩:=rfl
theorem oM{P:Program}{k:O Fr}{Q:Xn→St→Prop}{σ:St}{its:O AItem}{ks bs rs:O Y}:go P (.ops ((G,.keep ks bs rs)::its)::k) Q .normal (E σ)=go P (.ops its::k) Q .normal (E (σ.kept ks bs rs)):=B1 rfl
theorem uG{b:W}{x y:AV}:GJ (.v (.sc (.dat (.bool b)))) x y=E (bif b then x else y):=rfl
theorem eP{g x y:W}:IS g (.v (.sc (.dat (.bool x)))) (.v (.sc (.dat (.bool y))))=E (.v (.sc (.dat (.bool (bif g then !(x==y) else x==y))))):=rfl
theorem su{m:W}{k:IntKind}{x y:V}:Il m (.v (.sc (.dat (.int k x)))) (.v (.sc (.dat (.int k y))))=E (.v (.sc (.dat (.int k (bif m then(if x<y then y else x) else(if y<x then y else x)))))):=by simp[Il]
theorem xO{k:IntKind}{x:V}:GU .neg (.v (.sc (.dat (.int k x))))=E (.v (.sc (.dat (.int k (k.wrap (0 - x)))))):=rfl
theorem lG{rs:Rows}{off id o:Y}:Cl rs off (.v (.sc (.pb id o)))=E (.v (.sc (.pb id (o+off)))):=rfl
theorem rv{rs:Rows}{id:Y}:Cp rs (.v (.sc (.own id)))=(A1 rs id).map fun p=> .v (.sc (.dat (.int .i64 p.2.length))):=by
 show(match A1 rs id with | some (_,es)=>_ | none=>_)=_
 cases A1 rs id<;>rfl
theorem qJ{k:Y}:FE k []= []:=rfl
theorem qI{k:Y}{d:DV}{ds:O DV}:FE k (d::ds)=(k,d.av)::FE (k+1) ds:=rfl
theorem qK{ds:O DV}:St.init ds=⟨FE 0 ds,[],[]⟩:=rfl
theorem jf{d:D}:DV.av (.sc d)= .v (.sc (.dat d)):=rfl
theorem je{ds:O D}:DV.av (.ag ds)= .v (.ag (ds.map .dat)):=rfl
theorem sI{f:AC→AC}:A (V1.map f) []= []:=rfl
theorem sH{f:AC→AC}{x:V1}{l:O V1}:A (V1.map f) (x::l)=x.map f::A (V1.map f) l:=rfl
theorem rX{f:AC→AC}:A (fun p:Y × AV=>(p.1,p.2.map f)) []= []:=rfl
theorem rW{f:AC→AC}{k:Y}{v:AV}{l:O (Y × AV)}:A (fun p:Y × AV=>(p.1,p.2.map f)) ((k,v)::l)=(k,v.map f)::A (fun p:Y × AV=>(p.1,p.2.map f)) l:=rfl
theorem fD{f:AC→AC}:A (fun p:Y × O AC=>(p.1,p.2.map f)) []= []:=rfl
theorem fC{f:AC→AC}{k:Y}{v:O AC}{l:O (Y × O AC)}:A (fun p:Y × O AC=>(p.1,p.2.map f)) ((k,v)::l)=(k,v.map f)::A (fun p:Y × O AC=>(p.1,p.2.map f)) l:=rfl
theorem fz{f:AC→AC}:A f ([]:O AC)= []:=rfl
theorem fy{f:AC→AC}{c:AC}{l:O AC}:A f (c::l)=f c::A f l:=rfl
theorem sG{α β:Type}{f:α→β}{l:O α}:(A f l).length=l.length:=List.length_map ..
theorem fc{c:AC}:V1.cells (.sc c)= [c]:=rfl
theorem fX{cs:O AC}:V1.cells (.ag cs)=cs:=rfl
theorem sU{f:AC→AC}{env bx rows}:(St.mk env bx rows).map f=⟨env.map fun p=>(p.1,p.2.map f),bx.map fun p=>(p.1,p.2.map f),rows⟩:=rfl
theorem eC{f:AC→AC}{c:AC}:AV.map f (.v (.sc c))= .v (.sc (f c)):=rfl
theorem eB{f:AC→AC}{cs:O AC}:AV.map f (.v (.ag cs))= .v (.ag (cs.map f)):=rfl
theorem eF{f:AC→AC}:AV.map f .undef= .undef:=rfl
theorem eA{f:AC→AC}:AV.map f .no= .no:=rfl
theorem eD{f:AC→AC}{l:O V1}:AV.map f (.tup l)= .tup (l.map (V1.map f)):=rfl
theorem xU{f:AC→AC}{c:AC}:V1.map f (.sc c)= .sc (f c):=rfl
theorem xT{f:AC→AC}{cs:O AC}:V1.map f (.ag cs)= .ag (cs.map f):=rfl
theorem rK{id:Y}{d:D}:AC.kill id (.dat d)= .dat d:=rfl
theorem rO{id:Y}:AC.kill id .nil= .nil:=rfl
theorem rT{id:Y}:AC.kill id .undef= .undef:=rfl
theorem rP{id i:Y}:AC.kill id (.own i)=bif i==id then .undef else .own i:=rfl
theorem rR{id i a b:Y}:AC.kill id (.osub i a b)=bif i==id then .undef else .osub i a b:=rfl
theorem rM{id i a b:Y}:AC.kill id (.pe i a b)=bif i==id then .undef else .pe i a b:=rfl
theorem rH{id i a:Y}:AC.kill id (.pb i a)= .pb i a:=rfl
theorem rJ{id f:Y}{is:O Y}:AC.kill id (.clo f is)= .clo f is:=rfl
theorem lh{id:Y}{es:O (O D)}{d:D}:AC.frz id es (.dat d)= .dat d:=rfl
theorem lm{id:Y}{es:O (O D)}:AC.frz id es .nil= .nil:=rfl
theorem lu{id:Y}{es:O (O D)}:AC.frz id es .undef= .undef:=rfl
theorem lp{id i:Y}{es:O (O D)}:AC.frz id es (.own i)=bif i==id then .dat (.sl es) else .own i:=rfl
theorem lr{id i a b:Y}{es:O (O D)}:AC.frz id es (.osub i a b)=bif i==id then .undef else .osub i a b:=rfl
theorem lj{id i a b:Y}{es:O (O D)}:AC.frz id es (.pe i a b)=bif i==id then .undef else .pe i a b:=rfl
theorem lc{id i a:Y}{es:O (O D)}:AC.frz id es (.pb i a)= .pb i a:=rfl
theorem lf{id f:Y}{es:O (O D)}{is:O Y}:AC.frz id es (.clo f is)= .clo f is:=rfl
theorem oC{P:Program}{k:O Fr}{Q:Xn→St→Prop}{σ:St}{its:O AItem}{id sz:Y}{es:O (O D)}(hf:A1 σ.rows id=E (sz,es))(H:go P (.ops its::k) Q .normal (E {(σ.map (AC.frz id es)) with rows:=erase σ.rows [id] }))(h0:(id / 99999999999==0)=T:=by rfl) :
  go P (.ops ((G,.frz id)::its)::k) Q .normal (E σ):=by
 rw[UA];simp only[St.step,hf,h0,Bool.not_true,Bool.false_eq_true,if_false];exact H
theorem EK{P:Program}{k:O Fr}{Q:Xn→St→Prop}{σ:St}{its:O AItem}{b j id sz:Y}{cs cs':O AC}(h1:σ.has id=F)(h2:A1 σ.bx b=E cs)(h3:cs[j]?=E .nil)(h4:cs.set j (.own id)=cs')
  (H:go P (.ops its::k) Q .normal (E {σ with bx:=put σ.bx b cs',rows:=put σ.rows id (sz,[]) })) (h0:(id / 99999999999==0)=T:=by rfl):go P (.ops ((G,.ownb b j id sz)::its)::k) Q .normal (E σ):=by
 rw[oY];subst h4;simp only[St.step,h1,h2,h3,h0,Bool.not_true,Bool.or_self,Bool.false_eq_true,if_false];exact H
theorem kv{α:Type}{ks:O Y}:erase ([]:O (Y × α)) ks= []:=rfl
theorem kw{α:Type}{k n:Y}{v:α}{r:O (Y × α)}:erase ((k,v)::r) [n]=bif k==n then erase r [n] else(k,v)::erase r [n]:=by
 by_cases h:k=n
 ·simp[erase,h]
 ·have h':(k==n)=F:=by simpa using h
  simp[erase,h,h']
theorem uz{ts:O RV}{rs:O R1}{σ:St}:A6 ts rs .ret σ=(OutVs σ ts rs∧ER (Dz σ ts rs)=T):=rfl
theorem uy{ts:O RV}{rs:O R1}{σ:St}:A6 ts rs .normal σ=(OutVs σ ts rs∧ER (Dz σ ts rs)=T):=rfl
theorem tf{σ:St}{t:RV}{ts:O RV}{r:R1}{rs:O R1}:OutVs σ (t::ts) (r::rs)=(Nq σ.rows (Ke σ t) r∧OutVs σ ts rs):=rfl
theorem td{σ:St}{t:RV}{ts:O RV}{r:R1}{rs:O R1}:Dz σ (t::ts) (r::rs)=RU (Ke σ t) r++Dz σ ts rs:=rfl
theorem tc{σ:St}{a n:Y}{g:W}:Ke σ (.c a g n)=(Cq σ g n (σ.get a)).getD .undef:=rfl
def DT:=Z @uz (Z @uy (Z @tf (Z @td @tc)))
set_option maxRecDepth 4000 in
def vN:=Z @oV (Z @oT (Z @oq (Z @oj (Z @nr (Z @ny (Z @oo (Z @nX (Z @nu (Z @ol (Z @ng (Z @oi (Z @oh (Z @oc (Z @oe (Z @nT (Z @nW (Z @oX (Z @nq (Z @Xz (Z @oJ (Z @oI (Z @oG (Z @oF (Z @oE (Z @lS (Z @lR (Z @uZ (Z @uY (Z @xW (Z @xV (Z @nF (Z @vq (Z @getD_some (Z @nE (Z @map_some (Z @map_none (Z @wC (Z @rx (Z @vY (Z @vX (Z @rr (Z @gF (Z @eY (Z @em (Z @qX (Z @qt (Z @qf (Z @qi (Z @qj (Z @qa (Z @qg (Z @qe (Z @qd (Z @qc (Z @qb (Z @wb (Z @wc (Z @xP (Z @pq (Z @qy (Z @lO (Z @fY (Z @gC (Z @gB (Z @oS (Z @oW (Z @oO (Z @oU (Z @nR (Z @nQ (Z @oy (Z @nh (Z @ot (Z @ov (Z @nw (Z @nx (Z @oK (Z @oL (Z @nv (Z @oN (Z @om (Z @ou (Z @oR (Z @oP (Z @ow (Z @nO (Z @nU (Z @qT (Z @qL (Z @qM (Z @qQ (Z @qP (Z @A0v (Z @A0u (Z @qW (Z @qU (Z @qV (Z @qS (Z @qO (Z @qN (Z @vE (Z @vF (Z @vH (Z @fb (Z @fW (Z @vI (Z @vK (Z @vJ (Z @uV (Z @uU (Z @da (Z @dZ (Z @fF (Z @eS (Z @gn (Z @gr (Z @gW (Z @gi (Z @gp (Z @gT (Z @gS (Z @gz (Z @gX (Z @gu (Z @gx (Z @gZ (Z @ga (Z @gf (Z @gQ (Z @gg (Z @gY (Z @gh (Z @gt (Z @gw (Z @gm (Z @gj (Z @gU (Z @gR (Z @gV (Z @gl (Z @iK (Z @iM (Z @hP (Z @iG (Z @iL (Z @hO (Z @hI (Z @iS (Z @hU (Z @iO (Z @iQ (Z @iA (Z @iB (Z @iD (Z @hD (Z @iE (Z @hZ (Z @iF (Z @iN (Z @iP (Z @iJ (Z @iH (Z @iU (Z @iT (Z @iY (Z @iX (Z @iW (Z @sC (Z @sY (Z @sX (Z @rD (Z @rC (Z @qz (Z @wt (Z @xR (Z @dr (Z @dt (Z @dv (Z @dw (Z @dx (Z @dq (Z @dp (Z @tM (Z @tN (Z @dR (Z @oB (Z @nP (Z @jU (Z @jW (Z @jE (Z @jP (Z @jV (Z @jB (Z @jA (Z @jc (Z @jH (Z @jY (Z @ja (Z @jJ (Z @jK (Z @jM (Z @iy (Z @jN (Z @jI (Z @jO (Z @jX (Z @jZ (Z @jT (Z @jQ (Z @jC (Z @iz (Z @jD (Z @jS (Z @jF (Z @jG (Z @Yr (Z @Yt (Z @Yn (Z @Ys (Z @Yd (Z @Yc (Z @YA (Z @Yf (Z @Yw (Z @Yy (Z @Yh (Z @Yi (Z @Yk (Z @Yl (Z @Yg (Z @Ym (Z @Yv (Z @Yx (Z @Yq (Z @Yo (Z @uE (Z @uD (Z @uC (Z @rE (Z @oM (Z @uG (Z @eP (Z @su (Z @xO (Z @lG (Z @rv (Z @qJ (Z @qI (Z @qK (Z @jf (Z @je (Z @sG (Z @fc (Z @fX (Z @sU (Z @eC (Z @eB (Z @eF (Z @eD (Z @xU (Z @xT (Z @rK (Z @rO (Z @rT (Z @rP (Z @rR (Z @rM (Z @rH (Z @rJ (Z @lh (Z @lm (Z @lu (Z @lp (Z @lr (Z @lj (Z @lc (Z @lf (Z @kv (Z @kw (Z @iv (Z @iw (Z @wo (Z @wq (Z @ro (Z @rp (Z @rm (Z @rn (Z @ff (Z @vl (Z @vo (Z @vp (Z @IU (Z @en (Z @get_map (Z @nH (Z @nG (Z @ib (Z @iZ (Z @pj (Z @pi (Z @sK (Z @sM (Z @sL (Z @lI (Z @lH (Z @lE (Z @tF (Z @tG (Z @xb (Z @xa (Z (Z @si (Z @sa (Z @sb (Z @sZ (Z @sf @se))))) (Z @sg (Z @fB (Z @fA (Z @eu (Z @nS (Z @wM (Z @wU (Z @vL (Z @db (Z @wF (Z @wG (Z @wH (Z @sT (Z @wA (Z @wL (Z @tY (Z @tZ (Z @tW (Z @tX (Z @dj (Z @fE (Z @wa (Z @qY (Z @qh (Z @qu (Z @eU (Z @eT (Z @eR (Z @eQ (Z @dM (Z @P7 (Z @XE (Z @TK (Z @ua (Z @uc (Z @ue (Z @ud (Z @sI (Z @sH (Z @rX (Z @rW (Z @fD (Z @fC (Z @fz (Z @fy (Z @iV (Z @oD @eA))))))))))))))))))))))))))))))))))))))))))))))))))))))))))))))))))))))))))))))))))))))))))))))))))))))))))))))))))))))))))))))))))))))))))))))))))))))))))))))))))))))))))))))))))))))))))))))))))))))))))))))))))))))))))))))))))))))))))))))))))))))))))))))))))))))))))))))))))))))))))))))))))))))))))))))))))))))))))))))))))))))))))))))))))))))))))))))))))))))
theorem qR{env:O (Y × AV)}{bx:O (Y × O AC)}{rows:Rows}{d:Y}{ids:O Y}{R1:As}{r:D}:St.instX ⟨env,bx,rows⟩ d ids R1 r=⟨put env d (.v (.sc (.dat r))),bx,CE rows ids R1⟩:=rfl
theorem uW{rs:Rows}{id:Y}{ids:O Y}{r:Y × O (O D)}{R:As}:CE rs (id::ids) (r::R)=CE (put rs id r) ids R:=rfl
theorem uX{rs:Rows}:CE rs [] []=rs:=rfl
theorem Ty{N:O Y}:AV.avoids N (.v (.sc .z))=T:=by simp[AV.avoids,AV.cells,V1.cells,AC.avoids,AC.uses]
theorem A5i{P:Program}{k:O Fr}{Q:Xn→St→Prop}{σ:St}{N:O Y}{d:Y}{its:O AT}:go P (.dops ((E N,G,.zsl d)::its)::k) Q .normal (E σ)=go P (.dops its::k) Q .normal (E (σ.set d (.v (.sc .z)))):=by
 rw[Bu rfl];show go P _ Q .normal (bif (((σ.less N).set d (.v (.sc .z))).get d).avoids N then E (σ.set d (((σ.less N).set d (.v (.sc .z))).get d)) else G)=_
 rw[St.get_set_same,Ty];rfl
theorem dz{N:O Y}:AV.avoids N (.tup [])=T:=rfl
theorem dy{N:O Y}{x:V1}{l:O V1}:AV.avoids N (.tup (x::l))=((AV.v x).avoids N&&(AV.tup l).avoids N):=by simp[AV.avoids,AV.cells]
theorem sq{t:TypeId}{d:D}:GG t (.v (.sc (.dat d)))=E (.v (.sc (.dat (.ifc t d)))):=rfl
theorem wu{t u:TypeId}{zc:AC}{d:D}:GR t zc (.v (.sc (.dat (.ifc u d))))=bif u==t then E (.tup [.sc (.dat d),.sc (.dat (.bool T))]) else E (.tup [.sc zc,.sc (.dat (.bool F))]):=rfl
theorem ly{id:Y}{ds:O D}{d:D}:AC.frzb id ds (.dat d)= .dat d:=rfl
theorem mA{id:Y}{ds:O D}:AC.frzb id ds .nil= .nil:=rfl
theorem mD{id:Y}{ds:O D}:AC.frzb id ds .undef= .undef:=rfl
theorem mB{id i:Y}{ds:O D}:AC.frzb id ds (.own i)= .own i:=rfl
theorem mC{id i a b:Y}{ds:O D}:AC.frzb id ds (.osub i a b)= .osub i a b:=rfl
theorem lz{id i a b:Y}{ds:O D}:AC.frzb id ds (.pe i a b)= .pe i a b:=rfl
theorem lx{id i a:Y}{ds:O D}:AC.frzb id ds (.pb i a)=bif i==id then .dat (.pd (ds.drop a)) else .pb i a:=rfl
theorem ur{a b:Y}{d:D}:AC.ren a b (.dat d)= .dat d:=rfl
theorem uu{a b:Y}:AC.ren a b .nil= .nil:=rfl
theorem ux{a b:Y}:AC.ren a b .undef= .undef:=rfl
theorem uv{a b i:Y}:AC.ren a b (.own i)= .own (bif i==a then b else i):=rfl
theorem uw{a b i x y:Y}:AC.ren a b (.osub i x y)= .osub (bif i==a then b else i) x y:=rfl
theorem ut{a b i x y:Y}:AC.ren a b (.pe i x y)= .pe (bif i==a then b else i) x y:=rfl
theorem up_{a b i x:Y}:AC.ren a b (.pb i x)= .pb i x:=rfl
theorem sj{t:TypeId}{a b:D}:GG t (.v (.ag [.dat a,.dat b]))=E (.v (.sc (.dat (.ifs t [a,b])))):=rfl
def FCq(P:Program)(f:FuncId)(ds:O DV)(rs:O R1):U D→Prop
 | none=>FC P f ds rs
 | some d=>Kv P f ds d
theorem FCq.none{P:Program}{f:FuncId}{ds:O DV}{rs:O R1}{pd:U D}(h:FCq P f ds rs pd)(hp:pd=G):FC P f ds rs:=by subst hp; exact h
theorem FCq.some{P:Program}{f:FuncId}{ds:O DV}{rs:O R1}{pd:U D}{d:D}(h:FCq P f ds rs pd)(hp:pd=E d):Kv P f ds d:=by subst hp; exact h
theorem sr{t:TypeId}{id:Y}:GG t (.v (.sc (.pb id 0)))=E (.v (.sc (.ipb t id))):=rfl
theorem rN{id i:Y}{t:TypeId}:AC.kill id (.ipb t i)= .ipb t i:=rfl
theorem lk{id i:Y}{t:TypeId}{es:O (O D)}:AC.frz id es (.ipb t i)= .ipb t i:=rfl
theorem nD{g:W}{ks:O FK}{cs ds:O AC}:JP g ks (.v (.ag cs)) (.v (.ag ds))=(Bj ks cs ds).map fun b=> .v (.sc (.dat (.bool (bif g then !b else b)))):=rfl
theorem kq:Bj [] [] []=E T:=rfl
theorem kp{k:IntKind}{x y:V}{ks:O FK}{cs ds:O AC}:Bj (.i::ks) (.dat (.int k x)::cs) (.dat (.int k y)::ds)=(Bj ks cs ds).map fun b=>(x==y)&&b:=if_pos rfl
theorem ko{x y:W}{ks:O FK}{cs ds:O AC}:Bj (.b::ks) (.dat (.bool x)::cs) (.dat (.bool y)::ds)=(Bj ks cs ds).map fun b=>(x==y)&&b:=rfl
theorem kr{x y:O UInt8}{ks:O FK}{cs ds:O AC}:Bj (.s::ks) (.dat (.str x)::cs) (.dat (.str y)::ds)=(Bj ks cs ds).map fun b=>(x==y)&&b:=rfl
def vP:=Z @Ty (Z @A5i (Z @dz (Z @dy (Z @qR (Z @uW (Z @uX (Z @oQ (Z @ox (Z @Yp (Z @Yz (Z @gk (Z @iI (Z @jR (Z @gy (Z @iR (Z @jb (Z @sq (Z @wu (Z @ly (Z @mA (Z @mD (Z @mB (Z @mC (Z @lz (Z @lx (Z @sr (Z @rN (Z @lk (Z @ur (Z @uu (Z @ux (Z @uv (Z @uw (Z @ut (Z @up_ (Z @oZ (Z @na (Z @od (Z @nV (Z @sj (Z @Yj (Z @oH (Z @gb (Z @iC (Z @jL (Z @nD (Z @kq (Z @kp (Z @ko @kr)))))))))))))))))))))))))))))))))))))))))))))))))
end Go.Vi
