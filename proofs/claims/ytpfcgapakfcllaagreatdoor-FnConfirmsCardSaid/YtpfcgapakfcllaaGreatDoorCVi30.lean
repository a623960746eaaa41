/-
The value level. No condition.
-/
import Derived.Test.YtpfcgapakfcllaaGreatDoorCVi28
namespace Go.Vi
set_option linter.all false
open And renaming intro → Z
open List renaming map → A, mem_singleton → B, replicate → I
open Nat renaming one_pos → zA
open Bool renaming and_self → zB, true → T, false → F
open Option renaming some → E, none → G
open _root_ renaming List → O, Option → U, Int → V, Bool → W, Nat → Y
abbrev S(n:Y):Opd:= .t n
abbrev K(n:V):Opd:= .c (.v (.sc (.dat (.int .i64 n))))
abbrev K8(n:V):Opd:= .c (.v (.sc (.dat (.int .u8 n))))
abbrev KB(b:W):Opd:= .c (.v (.sc (.dat (.bool b))))
abbrev KS(s:O UInt8):Opd:= .c (.v (.sc (.dat (.str s))))
abbrev KN:Opd:= .c (.v (.sc .nil))
abbrev aI(n:V):AC:= .dat (.int .i64 n)
abbrev a8(n:V):AC:= .dat (.int .u8 n)
abbrev aB(b:W):AC:= .dat (.bool b)
abbrev aS(s:O UInt8):AC:= .dat (.str s)
abbrev aL(es:O (O D)):AC:= .dat (.sl es)
abbrev vc(c:AC):AV:= .v (.sc c)
abbrev va(cs:O AC):AV:= .v (.ag cs)
def rI(n:V):O D:= [.int .i64 n]
def r8(n:V):O D:= [.int .u8 n]
def rB(b:W):O D:= [.bool b]
def rS(s:O UInt8):O D:= [.str s]
def rL{α:Type}(row:α→O D)(xs:O α):O D:= [.sl (xs.map row)]
class Row {α:Type} (row:α→O D) (sz:Y):Prop where
 len:∀x,(row x).length=sz
 pos:0<sz
instance:Row rI 1:=⟨fun _=>rfl,zA⟩
instance:Row r8 1:=⟨fun _=>rfl,zA⟩
instance:Row rB 1:=⟨fun _=>rfl,zA⟩
instance:Row rS 1:=⟨fun _=>rfl,zA⟩
instance {α:Type} (row:α→O D):Row (rL row) 1:=⟨fun _=>rfl,zA⟩
theorem SN(n:V):rI n= [.int .i64 n]:=rfl
def mn(n:V):UInt8:=UInt8.ofNat n.toNat
theorem PR:∀{xs:O V},Cs (A r8 xs)=E (A mn xs)
 | []=>rfl
 | n::xs=>by
  show(Cs (A r8 xs)).map _=_
  rw[PR];rfl
theorem kb(n:V):r8 n= [.int .u8 n]:=rfl
theorem kf(b:W):rB b= [.bool b]:=rfl
theorem kh(s:O UInt8):rS s= [.str s]:=rfl
theorem kg{α:Type}(row:α→O D)(xs:O α):rL row xs= [.sl (xs.map row)]:=rfl
theorem Px{α:Type}{row:α→O D}{sz:Y}(h:∀x,(row x).length=sz)(xs:O α):(xs.map row).all (fun d=>d.length==sz)=T:=by
 simp[List.all_map,Function.comp_def,h]
@[irreducible] def bigN:Y:=1208925819614629174706176
def bnd(m h l:V)(n:Y):U (Y × Y):=if 0≤l∧l≤h∧h≤m∧m≤n then E (l.toNat,h.toNat) else G
def Bx(l c:V)(bytes:Y):U Y:=if 0≤l∧l≤c∧c*bytes≤140737488355328∧c≤4611686018427387904 then E l.toNat else G
def Aa(n m bytes:Y):W:=decide ((n+m)*bytes≤140737488355328∧n+m≤4611686018427387904)
def AZ(n m:Y):W:=decide (n+m≤4611686018427387904)
theorem Li{α β:Type}{f:α→β}{l:O α}{i:V}:ix (l.map f) i=(ix l i).map f:=by
 unfold ix;split<;>simp
theorem Ah{α:Type}{l:O α}{i:V}{x:α}(h:ix l i=E x):l[i.toNat]?=E x:=by
 unfold ix at h;split at h
 ·exact h
 ·cases h
theorem ob{α β:Type}{o:U α}{f:α→U β}{r:β}(h:o.bind f=E r):∃a,o=E a∧f a=E r:=Option.bind_eq_some_iff.1 h
class FlatRow {α:Type} (row:α→O D):Prop where
 flat:∀x,∀d∈row x,d.flat=T
instance:FlatRow rI:=⟨fun _ d h=>by rw[B.1 h]; rfl⟩
instance:FlatRow r8:=⟨fun _ d h=>by rw[B.1 h]; rfl⟩
instance:FlatRow rB:=⟨fun _ d h=>by rw[B.1 h]; rfl⟩
instance:FlatRow rS:=⟨fun _ d h=>by rw[B.1 h]; rfl⟩
def P5:O RC→Prop
 | []=>True
 | c::cs=>c.flat∧P5 cs
theorem D9{rs:O R1}{cs:O RC}(h:rs.flatMap R1.cells=cs)(hf:P5 cs):BX rs:=by
 subst h;unfold BX;generalize rs.flatMap R1.cells=l at hf
 induction l with
 | nil=>intro c hc; simp at hc
 | cons a l ih=>
  intro c hc;rcases List.mem_cons.1 hc with rfl|hc
  ·exact hf.1
  ·exact ih hf.2 c hc
theorem Da{α:Type}{row:α→O D} [FlatRow row]{sz:Y}{xs:O α}:RC.flat (.o sz (A row xs)):=by
 intro r hr;obtain⟨x,_,rfl⟩:=List.mem_map.1 hr;exact FlatRow.flat x
theorem Ox{α:Type}{row:α→O D}{z:α}{zs:O D}{n:Y}(h:row z=zs):I n zs=A row (I n z):=by rw[List.map_replicate,h]
theorem Az{α:Type}{b:W}{x:U α}{r:α}(h:(if b=T then x else G)=E r):b=T∧x=E r:=by
 cases b
 ·rw[if_neg Bool.false_ne_true] at h; cases h
 ·exact⟨rfl,by simpa using h⟩
theorem F6{α:Type}{b:W}{x:U α}{r:α}(h:(if b=T then G else x)=E r):b=F∧x=E r:=by
 cases b
 ·exact⟨rfl,by simpa using h⟩
 ·rw[if_pos rfl] at h; cases h
theorem ic{α:Type}{b:W}{x y:U α}{r:α}(h:(if b=T then x else y)=E r):(b=T∧x=E r)∨(b=F∧y=E r):=by
 cases b with
 | true=>exact .inl ⟨rfl,h⟩
 | false=>exact .inr ⟨rfl,h⟩
section
variable {P : Program} {k : O Fr} {Q : Xj → St → Prop} {σ : St} {its : O AItem} {ds : O AD} {o : AOp} {d : Y}
theorem AF{c:Xe}(h:go P (.code c:: .code (.loop c)::k) Q .normal (E σ)):go P (.code (.loop c)::k) Q .normal (E σ):=by
 intro X hX;refine hX σ (PI c (fun e σ' h=> ?_) h);cases e with
 | normal=>exact h X hX
 | exit id=>exact h
 | ret=>exact h
 | pan d=>exact h
theorem UH(hm:P.follows .mixedOrders=T){f:FuncId}{c:Xe}{ts:O RV}{nt:Y}{ds:O DV}{rs:O R1}{σ:St}(he:AB P f=E (c.strip,ts,nt))(hl:Nat.ble ds.length nt=T)(hσ:St.init ds=σ)
  (h:go P [.code c] (A4 ts rs) .normal (E σ)):FC P f ds rs:=UK hm he (Nat.le_of_ble_eq_true hl) fun _=>Gn (hσ▸h)
theorem P2(hm:P.follows .mixedOrders=T){f:FuncId}{c:Xe}{ts:O RV}{nt:Y}{ds:O DV}{rs:O R1}(he:AB P f=E (c.strip,ts,nt))(hl:Nat.ble ds.length nt=T)
  (h:go P [.code c] (A4 ts rs) .normal (E (St.init ds))):FC P f ds rs:=UH hm he hl rfl h
theorem Sc{sz:Y}{es:O (O D)}(hf:σ.fresh d=T):σ.make (.row d sz es)=E {(σ.set d (.v (.sc (.own (d*64))))) with rows:=put σ.rows (d*64) (sz,es)}:=by simp[St.make,hf]
theorem Lt{cs:O AC}(hf:σ.fresh d=T)(hu:cs.all (fun c=> !c.uses d)=T):σ.make (.box d cs)=E {(σ.set d (.v (.sc (.pb d 0)))) with bx:=put σ.bx d cs}:=by simp only[St.make,hf,hu,zB,if_true]
theorem L2{m:Mk}(ho:o.isMade=T)(hm:σ.made o=E m){σ':St}(hs:σ.make m=E σ')(H:go P (.ops its::k) Q .normal (E σ')):go P (.ops ((G,o)::its)::k) Q .normal (E σ):=by
 have hc:o.isCall=F:=by cases o<;>first | rfl | (simp[AOp.isMade] at ho; done)
 rw[AK hc,mI ho,hm];show go P (.ops its::k) Q .normal (σ.make m)
 rw[hs];exact H
theorem dN{X:Opd}{y:V1}(hX:σ.val X= .v y)(hf:σ.fresh d=T)(hu:y.cells.all (fun c=> !c.uses d)=T)(H:go P (.ops its::k) Q .normal (E {(σ.set d (.v (.sc (.pb d 0)))) with bx:=put σ.bx d y.cells })) :
  go P (.ops ((G,.box d X)::its)::k) Q .normal (E σ):=L2 rfl (by simp only[St.made,hX]) (Lt hf hu) H
theorem dB{cs:O AC}(hf:σ.fresh d=T)(hu:cs.all (fun c=> !c.uses d)=T)(H:go P (.ops its::k) Q .normal (E {(σ.set d (.v (.sc (.pb d 0)))) with bx:=put σ.bx d cs })) :
  go P (.ops ((G,.alloc d cs)::its)::k) Q .normal (E σ):=L2 rfl rfl (Lt hf hu) H
theorem CR{sz:Y}{zs:O D}{len:Y}{ps:O (Y × Opd)}{es:O (O D)}(hm:σ.made (.bslice d sz zs len ps)=E (.row d sz es))(hf:σ.fresh d=T)
  (H:go P (.ops its::k) Q .normal (E {(σ.set d (.v (.sc (.own (d*64))))) with rows:=put σ.rows (d*64) (sz,es) })):go P (.ops ((G,.bslice d sz zs len ps)::its)::k) Q .normal (E σ):=L2 rfl hm (Sc hf) H
theorem iP{L C:Opd}{l c:V}{bytes n sz:Y}{zs:O D}{es:O (O D)}(hl:Bu (σ.val L)=E l)(hc:Bu (σ.val C)=E c)(hb:Bx l c bytes=E n)(hz:zs.length=sz)(he:I n zs=es) :
  σ.made (.mksl d sz bytes zs L C)=E (.row d sz es):=by
 unfold Bx at hb
 split at hb
 ·rename_i h
  cases hb;subst he;simp only[St.made,hl,hc];rw[if_pos ⟨h.1,h.2.1,h.2.2.1,h.2.2.2,hz⟩]
 ·cases hb
theorem NM{L C:Opd}{l c:V}{bytes n sz:Y}{zs:O D}{es:O (O D)}(hl:Bu (σ.val L)=E l)(hc:Bu (σ.val C)=E c)(hb:Bx l c bytes=E n)(hz:zs.length=sz)(he:I n zs=es)(hf:σ.fresh d=T)
  (H:go P (.ops its::k) Q .normal (E {(σ.set d (.v (.sc (.own (d*64))))) with rows:=put σ.rows (d*64) (sz,es) })):go P (.ops ((G,.mksl d sz bytes zs L C)::its)::k) Q .normal (E σ):=
 L2 rfl (iP hl hc hb hz he) (Sc hf) H
theorem Qz{n:Y}{N:O Y}{m:Mk}(hm:(σ.less (n::N)).made o=E m)(hv:Sj (n::N) m=T){σ':St}(hs:σ.make m=E σ')(H:go P (.dops ds::k) Q .normal (E σ')) :
  go P (.dops ((E (n::N),G,o)::ds)::k) Q .normal (E σ):=dX hm hv hs H
theorem CC{α:Type}{env bx rows}{id sz i off n:Y}{xs:O α}{row:α→O D}{x y:α}{yv:V1}{dd:O D}(hd:yv.toDs=E dd)(hf:A1 rows id=E (sz,A row xs))
  (hx:xs[i]?=E x) (hn:dd.length=n) (ho:Nat.ble (off+n) (row x).length=T) (hy:DX (row x) off dd=row y) (H:go P k Q .normal (E ⟨env,bx,put rows id (sz,A row (xs.set i y))⟩)) :
  go P k Q .normal (St.storeV ⟨env,bx,rows⟩ n (.v (.sc (.pe id i off))) (.v yv)):=by
 have e:St.storeV ⟨env,bx,rows⟩ n (.v (.sc (.pe id i off))) (.v yv)=E ⟨env,bx,put rows id (sz,A row (xs.set i y))⟩:=by
  simp only[St.storeV,hf,List.getElem?_map,hx,Option.map_some,hd];rw[if_pos ⟨hn,Nat.le_of_ble_eq_true ho⟩,hy,List.map_set]
 rw[e];exact H
end
def CN{α:Type}:Y→O α→U (O α)
 | 0,l=>E l
 | _+1,[]=>G
 | n+1,_::l=>CN n l
def DZ{α:Type}:Y→O α→U (O α)
 | 0,_=>E []
 | _+1,[]=>G
 | n+1,c::l=>(DZ n l).map (c:: ·)
def CT{α:Type}:O α→Y→W
 | [],0=>T
 | _::l,n+1=>CT l n
 | _,_=>F
def Bw{α:Type}:O α→Y→W
 | _,0=>T
 | _::l,n+1=>Bw l n
 | [],_+1=>F
theorem H2{α:Type}:∀(n:Y) (l:O α),CN n l=if n≤l.length then E (l.drop n) else G
 | 0,l=>by simp[CN]
 | n+1,[]=>by simp[CN]
 | n+1,c::l=>by simp[CN,H2 n l]
theorem TB{α:Type}:∀(n:Y) (l:O α),DZ n l=if n≤l.length then E (l.take n) else G
 | 0,l=>by simp[DZ]
 | n+1,[]=>by simp[DZ]
 | n+1,c::l=>by simp only[DZ,TB n l]; split<;>simp_all
theorem O8{α:Type}:∀(l:O α) (n:Y),CT l n=decide (l.length=n)
 | [],0=>by simp[CT]
 | [],n+1=>by simp[CT]
 | _::l,0=>by simp[CT]
 | _::l,n+1=>by simp[CT,O8 l n]
theorem Ix{α:Type}:∀(l:O α) (n:Y),Bw l n=decide (n≤l.length)
 | [],0=>by simp[Bw]
 | [],n+1=>by simp[Bw]
 | _::l,0=>by simp[Bw]
 | _::l,n+1=>by simp[Bw,Ix l n]
theorem ZR{α:Type}{l:O α}:CN 0 l=E l:=by cases l<;>rfl
theorem ZS{α:Type}{n:Y}{c:α}{l:O α}:CN (n+1) (c::l)=CN n l:=rfl
theorem mY{α:Type}{l:O α}:DZ 0 l=E []:=by cases l<;>rfl
theorem mZ{α:Type}{n:Y}{c:α}{l:O α}:DZ (n+1) (c::l)=(DZ n l).map (c:: ·):=rfl
theorem gt{α:Type}:CT ([]:O α) 0=T:=rfl
theorem gu{α:Type}{n:Y}{c:α}{l:O α}:CT (c::l) (n+1)=CT l n:=rfl
theorem gp{α:Type}{l:O α}:Bw l 0=T:=by cases l<;>rfl
theorem gr{α:Type}{n:Y}{c:α}{l:O α}:Bw (c::l) (n+1)=Bw l n:=rfl
theorem YB{cs:O AC}{off n:Y}:Ca cs off T n=(CN off cs).bind fun l=>(DZ n l).map fun l=> .v (.ag l):=by
 simp only[Ca,cond_true,H2,TB];by_cases h:off≤cs.length
 ·rw[if_pos h];by_cases h2:off+n≤cs.length
  ·rw[if_pos h2,Option.bind_some,if_pos (by simp; omega)]; rfl
  ·rw[if_neg h2,Option.bind_some,if_neg (by simp; omega)]; rfl
 ·rw[if_neg h,if_neg (by omega)]; rfl
theorem lZ{cs:O AC}:Bm cs 0 []=cs:=by simp[Bm]
theorem lb{c:AC}{cs ds:O AC}{n:Y}:Bm (c::cs) (n+1) ds=c::Bm cs n ds:=by
 simp only[Bm,List.take_succ_cons,List.cons_append];rw[show n+1+ds.length=(n+ds.length)+1 by omega,List.drop_succ_cons]
theorem lc{c d:AC}{cs ds:O AC}:Bm (c::cs) 0 (d::ds)=d::Bm cs 0 ds:=by simp[Bm]
theorem Fw{α β:Type}{a:α}{f:α→U β}:(E a).bind f=f a:=rfl
theorem Yd{α β:Type}{f:α→U β}:(G:U α).bind f=G:=rfl
theorem get_map{α β:Type}{f:α→β}{l:O α}{i:Y}:(A f l)[i]?=(l[i]?).map f:=List.getElem?_map
theorem cz{α:Type}{a:α}{l:O α}:(a::l)[0]?=E a:=rfl
theorem cy{α:Type}{a:α}{l:O α}{n:Y}:(a::l)[n+1]?=l[n]?:=by simp
theorem ZJ:A AC.dat []= []:=rfl
theorem ZI{d:D}{l:O D}:A AC.dat (d::l)= .dat d::A AC.dat l:=rfl
section
variable {P : Program} {k : O Fr} {Q : Xj → St → Prop} {σ : St} {its : O AItem} {env : O (Y × AV)} {bx : O (Y × O AC)} {rows : Rows}
theorem fJ{α:Type}{rs:Rows}{sz:Y}{xs:O α}{row:α→O D} [Row row sz]{kd:IntKind}{i:V}:Cc rs sz (.v (.sc (.dat (.sl (A row xs))))) (.v (.sc (.dat (.int kd i))))=(ix xs i).map fun x=> .v (.sc (.dat (.pd (row x)))):=by
 simp only[Cc,Li];cases ix xs i with
 | none=>rfl
 | some x=>simp[Row.len (row:=row) (sz:=sz),Row.pos row]
theorem fI{rs:Rows}{sz id:Y}{kd:IntKind}{i:V}:Cc rs sz (.v (.sc (.own id))) (.v (.sc (.dat (.int kd i))))=(A1 rs id).bind fun p=>(ix p.2 i).bind fun _=>bif p.1==sz then E (.v (.sc (.pe id i.toNat 0))) else G:=by
 simp only[Cc];cases A1 rs id with
 | none=>rfl
 | some p=>
  obtain⟨a,es⟩:=p;simp only[Fw];cases ix es i with
  | none=>rfl
  | some x=>
   by_cases h:a=sz
   ·simp[h]
   ·have h':(a==sz)=F:=by simpa using h
    simp[h,h']
theorem iJ{g:W}{n id off:Y}:BQ ⟨env,bx,rows⟩ g n (.v (.sc (.pb id off)))=(A1 bx id).bind fun cs=>Ca cs off g n:=by
 show(match A1 bx id with | some cs=>_ | none=>G)=_
 cases A1 bx id<;>rfl
theorem iL{g:W}{n id i off:Y}:BQ ⟨env,bx,rows⟩ g n (.v (.sc (.pe id i off)))=(A1 rows id).bind fun p=>(p.2[i]?).bind fun d=>Ca (A AC.dat d) off g n:=by
 simp only[BQ];cases A1 rows id with
 | none=>rfl
 | some p=>
  simp only[Fw];cases p.2[i]?<;>rfl
theorem iK{g:W}{n:Y}{cs:O D}:BQ σ g n (.v (.sc (.dat (.pd cs))))=Ca (A AC.dat cs) 0 g n:=rfl
theorem bg{rs:Rows}{off id i o:Y}:BM rs off (.v (.sc (.pe id i o)))=(A1 rs id).map fun _=> .v (.sc (.pe id i (o+off))):=by
 simp only[BM];cases A1 rs id<;>rfl
theorem bf{rs:Rows}{off:Y}{cs:O D}:BM rs off (.v (.sc (.dat (.pd cs))))=(CN off cs).map fun cs=> .v (.sc (.dat (.pd cs))):=by
 simp only[BM,H2];split<;>rfl
theorem bZ{l:O V1}{i:Y}:FH i (.tup l)=(l[i]?).map .v:=rfl
theorem iy{id off:Y}:DU (.v (.sc (.pb id off)))=E (.v (.sc (.pb id off))):=rfl
theorem iz{cs:O D}:DU (.v (.sc (.dat (.pd cs))))=E (.v (.sc (.dat (.pd cs)))):=rfl
theorem nK:A (St.val σ) []= []:=rfl
theorem nJ{x:Opd}{l:O Opd}:A (St.val σ) (x::l)=σ.val x::A (St.val σ) l:=rfl
theorem il{f:FuncId}:DT f []=E []:=rfl
theorem iZ{f:FuncId}:DR f []=E (.clo f []):=rfl
theorem ib{f:FuncId}{id:Y}{r:O AV}:DR f (.v (.sc (.pb id 0))::r)=(DT f (.v (.sc (.pb id 0))::r)).map (.clo f):=rfl
theorem iY{f:FuncId}{d:D}{r:O AV}:DR f (.v (.sc (.dat d))::r)=(DS (.v (.sc (.dat d))::r)).map fun q=> .dat (.clo f q):=rfl
theorem ij:DS []=E []:=rfl
theorem ii{ds:O D}{r:O AV}:DS (.v (.sc (.dat (.pd ds)))::r)=(DS r).map (.pd ds:: ·):=rfl
theorem ik{f:FuncId}{id:Y}{r:O AV}:DT f (.v (.sc (.pb id 0))::r)=(DT f r).map (id:: ·):=rfl
def Je(K:O AC→U (O AC))(off n:Y)(cs:O AC):AV→U (O AC)
 | .v x=>bif CT x.cells n&&Bw cs (off+n) then K (Bm cs off x.cells) else G
 | _=>G
def E5(σ:St):O (Y × Y × Opd)→O AC→U (O AC)
 | [],cs=>E cs
 | (off,n,x)::r,cs=>Je (E5 σ r) off n cs (σ.val x)
theorem Mg:∀(ps:O (Y × Y × Opd)) (cs:O AC),CB cs (ps.map fun p=>(p.1,p.2.1,σ.val p.2.2))=E5 σ ps cs
 | [],cs=>rfl
 | (off,n,x)::r,cs=>by
  simp only[List.map_cons,E5];generalize σ.val x=v
  cases v with
  | v y=>
   simp only[CB,Je,O8,Ix];by_cases h1:y.cells.length=n
   ·by_cases h2:off+n≤cs.length
    ·subst h1;simp only[h2,and_self,if_true,decide_true,zB,cond_true];exact Mg r _
    ·simp[h1,h2]
   ·simp[h1]
  | _=>rfl
theorem Yg{cs:O AC}:E5 σ [] cs=E cs:=rfl
theorem Yf{off n:Y}{x:Opd}{r:O (Y × Y × Opd)}{cs:O AC}:E5 σ ((off,n,x)::r) cs=Je (E5 σ r) off n cs (σ.val x):=rfl
theorem Ye{K:O AC→U (O AC)}{off n:Y}{cs:O AC}{x:V1}:Je K off n cs (.v x)=bif CT x.cells n&&Bw cs (off+n) then K (Bm cs off x.cells) else G:=rfl
theorem dG{d zs ps}:go P (.ops ((G,.build d zs ps)::its)::k) Q .normal (E σ)=go P (.ops its::k) Q .normal (Al σ d ((E5 σ ps zs).map fun cs=> .v (.ag cs))):=by rw[dM,Mg]
theorem mE{d zs ps}:σ.step (.build d zs ps)=Al σ d ((E5 σ ps zs).map fun cs=> .v (.ag cs)):=by rw[Ta,Mg]
theorem mM{n id off:Y}{y:V1}:St.storeV ⟨env,bx,rows⟩ n (.v (.sc (.pb id off))) (.v y)=(A1 bx id).bind fun cs=>bif CT y.cells n&&Bw cs (off+n) then E ⟨env,put bx id (Bm cs off y.cells),rows⟩ else G:=by
 simp only[St.storeV,O8,Ix];cases A1 bx id with
 | none=>rfl
 | some cs=>
  simp only[Fw];by_cases h1:y.cells.length=n
  ·by_cases h2:off+n≤cs.length
   ·simp[h1,h2]
   ·simp[h1,h2]
  ·simp[h1]
def LD(sz:Y)(es:O (O D)):W:=es.all fun r=>r.length==sz
theorem lK{α:Type}{sz:Y}{row:α→O D} [Row row sz]{xs:O α}:LD sz (A row xs)=T:=Px (Row.len (row:=row)) xs
theorem WW{d sz bytes id:Y}{y:AV}:St.appV ⟨env,bx,rows⟩ d sz bytes (.v (.sc (.own id))) y=bif id / 99999999999==0 then((A1 rows id).bind fun p=>(appSrc rows y).bind fun es'=>
  bif (p.1==sz)&&(LD sz es'&&Aa p.2.length es'.length bytes) then E ⟨put (env.map fun p=>(p.1,p.2.map (AC.kill id))) d (.v (.sc (.own id))),bx.map fun p=>(p.1,p.2.map (AC.kill id)),put rows id (sz,p.2++es')⟩ else G) else G:=by
 simp only[St.appV];by_cases h0:id / 99999999999=0
 rotate_left
 ·rw[if_neg h0,show(id / 99999999999==0)=F by simpa using h0];rfl
 rw[if_pos h0,show(id / 99999999999==0)=T by simpa using h0,cond_true];cases A1 rows id with
 | none=>rfl
 | some p=>
  obtain⟨a,es⟩:=p;simp only[Fw];cases appSrc rows y with
  | none=>rfl
  | some es'=>
   simp only[Fw];by_cases h1:a=sz
   ·by_cases h2:LD sz es'=T
    ·by_cases h3:Aa es.length es'.length bytes=T
     ·have h3':=of_decide_eq_true h3;rw[if_pos ⟨h1,h2,h3'.1,h3'.2⟩];simp only[h1,beq_self_eq_true,h2,h3,zB,cond_true];rfl
     ·have h3':Aa es.length es'.length bytes=F:=by simpa using h3
      rw[if_neg (fun h=>h3 (decide_eq_true ⟨h.2.2.1,h.2.2.2⟩))];simp[h3']
    ·have h2':LD sz es'=F:=by simpa using h2
     rw[if_neg (fun h=>h2 h.2.1)];simp[h2']
   ·have h1':(a==sz)=F:=by simpa using h1
    rw[if_neg (fun h=>h1 h.1)];simp[h1']
theorem lr{rs:Rows}{es:O (O D)}:appSrc rs (.v (.sc (.dat (.sl es))))=E es:=rfl
theorem ls{rs:Rows}:appSrc rs (.v (.sc .nil))=E []:=rfl
theorem lu{rs:Rows}{id:Y}:appSrc rs (.v (.sc (.own id)))=(A1 rs id).map fun p=>p.2:=by
 simp only[appSrc,toD0];cases A1 rs id<;>rfl
theorem iT{α:Type}{f:α→O D}{a b:O α}:A f a++A f b=A f (a++b):=List.map_append.symm
def Dx(σ:St)(n:Y):U Opd→U V
 | none=>E n
 | some x=>Bu (σ.val x)
def ED(n:Y):U V→U V→U V→U (Y × Y)
 | some m,E h,E l=>bnd m h l n
 | _,_,_=>G
theorem Mh{lo hi mx:U Opd}{n:Y}:D3 σ lo hi mx n=ED n (Dx σ n mx) (Dx σ n hi) (match lo with | none=>E 0 | some x=>Bu (σ.val x)):=by
 cases mx<;>cases hi<;>cases lo<;>(simp only[D3,ED,Dx]; first | rfl | (split<;>simp_all[ED,bnd]))
def IG(σ:St):U Opd→U V
 | none=>E 0
 | some x=>Bu (σ.val x)
theorem lm{α:Type}{sz:Y}{lo hi mx:U Opd}{xs:O α}{row:α→O D} [Row row sz]:Dd σ sz (.v (.sc (.dat (.sl (A row xs))))) lo hi mx=(ED xs.length (Dx σ xs.length mx) (Dx σ xs.length hi) (IG σ lo)).map fun p=> .v (.sc (.dat (.sl (A row ((xs.drop p.1).take (p.2 - p.1)))))):=by
 have h:(A row xs).all (fun d=>d.length==sz)=T:=Px (Row.len (row:=row)) xs;simp only[Dd,h,Row.pos row (sz:=sz),decide_true,zB,if_true,List.length_map,Mh];cases lo<;>simp[IG,List.map_drop,List.map_take]
theorem lx{lo hi:U Opd}{s:O UInt8}:Er σ (.v (.sc (.dat (.str s)))) lo hi=(ED s.length (Dx σ s.length G) (Dx σ s.length hi) (IG σ lo)).map fun p=> .v (.sc (.dat (.str ((s.drop p.1).take (p.2 - p.1))))):=by
 simp only[Er,Mh];cases lo<;>rfl
theorem jP{n:Y}:Dx σ n G=E (n:V):=rfl
theorem jQ{n:Y}{x:Opd}:Dx σ n (E x)=Bu (σ.val x):=rfl
theorem jN:IG σ G=E 0:=rfl
theorem jO{x:Opd}:IG σ (E x)=Bu (σ.val x):=rfl
theorem WY{kd:IntKind}{i:V}:Bu (.v (.sc (.dat (.int kd i))))=E i:=rfl
theorem Yj{n:Y}{m h l:V}:ED n (E m) (E h) (E l)=bnd m h l n:=rfl
theorem mS{x y:O UInt8}:Es .add x y=bif AZ x.length y.length then E (.str (x++y)) else G:=by
 simp only[Es,AZ];by_cases h:x.length+y.length≤4611686018427387904
 ·simp[h]
 ·simp[h]
theorem fj{k:IntKind}{x y:V}:Au .and k x y=E (.int k (AH .and k x y)):=rfl
theorem fw{k:IntKind}{x y:V}:Au .or k x y=E (.int k (AH .or k x y)):=rfl
theorem gH{k:IntKind}{x y:V}:Au .xor k x y=E (.int k (AH .xor k x y)):=rfl
theorem Y2:(T==T)=T:=rfl
theorem Y1:(T==F)=F:=rfl
theorem XZ:(F==T)=F:=rfl
theorem XY:(F==F)=T:=rfl
theorem WN{b:W}:(F&&b)=F:=rfl
end
def SD{α:Type}(k:Y):U α→O (Y × α)→O (Y × α)
 | some v,r=>(k,v)::r
 | none,r=>r
theorem jg{α:Type}{l:O (Y × α)}:BJ l []= []:=rfl
theorem jf{α:Type}{l:O (Y × α)}{k:Y}{ks:O Y}:BJ l (k::ks)=SD k (A1 l k) (BJ l ks):=by
 show(match A1 l k with | some v=>_ | none=>_)=_
 cases A1 l k<;>rfl
theorem je{α:Type}{k:Y}{v:α}{r:O (Y × α)}:SD k (E v) r=(k,v)::r:=rfl
theorem gQ{env bx rows ks bs rs}:(St.mk env bx rows).kept ks bs rs=⟨BJ env ks,BJ bx bs,BJ rows rs⟩:=rfl
theorem dw{P:Program}{k:O Fr}{Q:Xj→St→Prop}{σ:St}{its:O AItem}{ks bs rs:O Y}:go P (.ops ((G,.keep ks bs rs)::its)::k) Q .normal (E σ)=go P (.ops its::k) Q .normal (E (σ.kept ks bs rs)):=AK rfl
theorem jh{b:W}{x y:AV}:En (.v (.sc (.dat (.bool b)))) x y=E (bif b then x else y):=rfl
theorem XX{g x y:W}:Fv g (.v (.sc (.dat (.bool x)))) (.v (.sc (.dat (.bool y))))=E (.v (.sc (.dat (.bool (bif g then !(x==y) else x==y))))):=rfl
theorem ir{m:W}{k:IntKind}{x y:V}:F5 m (.v (.sc (.dat (.int k x)))) (.v (.sc (.dat (.int k y))))=E (.v (.sc (.dat (.int k (bif m then(if x<y then y else x) else(if y<x then y else x)))))):=by simp[F5]
theorem mw{k:IntKind}{x:V}:Ew .neg (.v (.sc (.dat (.int k x))))=E (.v (.sc (.dat (.int k (k.wrap (0 - x)))))):=rfl
theorem be{rs:Rows}{off id o:Y}:BM rs off (.v (.sc (.pb id o)))=E (.v (.sc (.pb id (o+off)))):=rfl
theorem gy{rs:Rows}{id:Y}:BP rs (.v (.sc (.own id)))=(A1 rs id).map fun p=> .v (.sc (.dat (.int .i64 p.2.length))):=by
 show(match A1 rs id with | some (_,es)=>_ | none=>_)=_
 cases A1 rs id<;>rfl
theorem fS{k:Y}:DP k []= []:=rfl
theorem fR{k:Y}{d:DV}{ds:O DV}:DP k (d::ds)=(k,d.av)::DP (k+1) ds:=rfl
theorem fT{ds:O DV}:St.init ds=⟨DP 0 ds,[],[]⟩:=rfl
theorem aj{d:D}:DV.av (.sc d)= .v (.sc (.dat d)):=rfl
theorem ah{ds:O D}:DV.av (.ag ds)= .v (.ag (ds.map .dat)):=rfl
theorem iH{f:AC→AC}:A (V1.map f) []= []:=rfl
theorem iG{f:AC→AC}{x:V1}{l:O V1}:A (V1.map f) (x::l)=x.map f::A (V1.map f) l:=rfl
theorem gh{f:AC→AC}:A (fun p:Y × AV=>(p.1,p.2.map f)) []= []:=rfl
theorem gg{f:AC→AC}{k:Y}{v:AV}{l:O (Y × AV)}:A (fun p:Y × AV=>(p.1,p.2.map f)) ((k,v)::l)=(k,v.map f)::A (fun p:Y × AV=>(p.1,p.2.map f)) l:=rfl
theorem Yi{f:AC→AC}:A (fun p:Y × O AC=>(p.1,p.2.map f)) []= []:=rfl
theorem Yh{f:AC→AC}{k:Y}{v:O AC}{l:O (Y × O AC)}:A (fun p:Y × O AC=>(p.1,p.2.map f)) ((k,v)::l)=(k,v.map f)::A (fun p:Y × O AC=>(p.1,p.2.map f)) l:=rfl
theorem YE{f:AC→AC}:A f ([]:O AC)= []:=rfl
theorem YD{f:AC→AC}{c:AC}{l:O AC}:A f (c::l)=f c::A f l:=rfl
theorem iF{α β:Type}{f:α→β}{l:O α}:(A f l).length=l.length:=List.length_map ..
theorem YA{c:AC}:V1.cells (.sc c)= [c]:=rfl
theorem Yw{cs:O AC}:V1.cells (.ag cs)=cs:=rfl
theorem iU{f:AC→AC}{env bx rows}:(St.mk env bx rows).map f=⟨env.map fun p=>(p.1,p.2.map f),bx.map fun p=>(p.1,p.2.map f),rows⟩:=rfl
theorem XM{f:AC→AC}{c:AC}:AV.map f (.v (.sc c))= .v (.sc (f c)):=rfl
theorem XL{f:AC→AC}{cs:O AC}:AV.map f (.v (.ag cs))= .v (.ag (cs.map f)):=rfl
theorem XO{f:AC→AC}:AV.map f .undef= .undef:=rfl
theorem XK{f:AC→AC}:AV.map f .no= .no:=rfl
theorem XN{f:AC→AC}{l:O V1}:AV.map f (.tup l)= .tup (l.map (V1.map f)):=rfl
theorem nD{f:AC→AC}{c:AC}:V1.map f (.sc c)= .sc (f c):=rfl
theorem nC{f:AC→AC}{cs:O AC}:V1.map f (.ag cs)= .ag (cs.map f):=rfl
theorem gV{id:Y}{d:D}:AC.kill id (.dat d)= .dat d:=rfl
theorem gY{id:Y}:AC.kill id .nil= .nil:=rfl
theorem ge{id:Y}:AC.kill id .undef= .undef:=rfl
theorem gZ{id i:Y}:AC.kill id (.own i)=bif i==id then .undef else .own i:=rfl
theorem gb{id i a b:Y}:AC.kill id (.osub i a b)=bif i==id then .undef else .osub i a b:=rfl
theorem gW{id i a b:Y}:AC.kill id (.pe i a b)=bif i==id then .undef else .pe i a b:=rfl
theorem gT{id i a:Y}:AC.kill id (.pb i a)= .pb i a:=rfl
theorem gU{id f:Y}{is:O Y}:AC.kill id (.clo f is)= .clo f is:=rfl
theorem cb{id:Y}{es:O (O D)}{d:D}:AC.frz id es (.dat d)= .dat d:=rfl
theorem cf{id:Y}{es:O (O D)}:AC.frz id es .nil= .nil:=rfl
theorem ck{id:Y}{es:O (O D)}:AC.frz id es .undef= .undef:=rfl
theorem cg{id i:Y}{es:O (O D)}:AC.frz id es (.own i)=bif i==id then .dat (.sl es) else .own i:=rfl
theorem cj{id i a b:Y}{es:O (O D)}:AC.frz id es (.osub i a b)=bif i==id then .undef else .osub i a b:=rfl
theorem cd{id i a b:Y}{es:O (O D)}:AC.frz id es (.pe i a b)=bif i==id then .undef else .pe i a b:=rfl
theorem cX{id i a:Y}{es:O (O D)}:AC.frz id es (.pb i a)= .pb i a:=rfl
theorem cY{id f:Y}{es:O (O D)}{is:O Y}:AC.frz id es (.clo f is)= .clo f is:=rfl
theorem dj{P:Program}{k:O Fr}{Q:Xj→St→Prop}{σ:St}{its:O AItem}{id sz:Y}{es:O (O D)}(hf:A1 σ.rows id=E (sz,es))(H:go P (.ops its::k) Q .normal (E {(σ.map (AC.frz id es)) with rows:=erase σ.rows [id] }))(h0:(id / 99999999999==0)=T:=by rfl) :
  go P (.ops ((G,.frz id)::its)::k) Q .normal (E σ):=by
 rw[Qx];simp only[St.step,hf,h0,Bool.not_true,Bool.false_eq_true,if_false];exact H
theorem Dp{P:Program}{k:O Fr}{Q:Xj→St→Prop}{σ:St}{its:O AItem}{b j id sz:Y}{cs cs':O AC}(h1:σ.has id=F)(h2:A1 σ.bx b=E cs)(h3:cs[j]?=E .nil)(h4:cs.set j (.own id)=cs')
  (H:go P (.ops its::k) Q .normal (E {σ with bx:=put σ.bx b cs',rows:=put σ.rows id (sz,[]) })) (h0:(id / 99999999999==0)=T:=by rfl):go P (.ops ((G,.ownb b j id sz)::its)::k) Q .normal (E σ):=by
 rw[eJ];subst h4;simp only[St.step,h1,h2,h3,h0,Bool.not_true,Bool.or_self,Bool.false_eq_true,if_false];exact H
theorem bP{α:Type}{ks:O Y}:erase ([]:O (Y × α)) ks= []:=rfl
theorem bQ{α:Type}{k n:Y}{v:α}{r:O (Y × α)}:erase ((k,v)::r) [n]=bif k==n then erase r [n] else(k,v)::erase r [n]:=by
 by_cases h:k=n
 ·simp[erase,h]
 ·have h':(k==n)=F:=by simpa using h
  simp[erase,h,h']
theorem lA{ts:O RV}{rs:O R1}{σ:St}:A4 ts rs .ret σ=(OutVs σ ts rs∧Dv (CK σ ts rs)=T):=rfl
theorem kz{ts:O RV}{rs:O R1}{σ:St}:A4 ts rs .normal σ=(OutVs σ ts rs∧Dv (CK σ ts rs)=T):=rfl
theorem jU{σ:St}{t:RV}{ts:O RV}{r:R1}{rs:O R1}:OutVs σ (t::ts) (r::rs)=(J4 σ.rows (GA σ t) r∧OutVs σ ts rs):=rfl
theorem jT{σ:St}{t:RV}{ts:O RV}{r:R1}{rs:O R1}:CK σ (t::ts) (r::rs)=Om (GA σ t) r++CK σ ts rs:=rfl
theorem jS{σ:St}{a n:Y}{g:W}:GA σ (.c a g n)=(BQ σ g n (σ.get a)).getD .undef:=rfl
def D0:=Z @lA (Z @kz (Z @jU (Z @jT @jS)))
set_option maxRecDepth 4000 in
def lN:=Z @eG (Z @eD (Z @eU (Z @eQ (Z @dZ (Z @dg (Z @eT (Z @dL (Z @da (Z @eR (Z @dS (Z @eP (Z @eO (Z @eL (Z @eN (Z @dH (Z @dK (Z @eI (Z @dY (Z @SJ (Z @dt (Z @dr (Z @dp (Z @dn (Z @dl (Z @cR (Z @cQ (Z @ka (Z @jz (Z @nF (Z @nE (Z @cw (Z @lf (Z @getD_some (Z @cv (Z @map_some (Z @map_none (Z @lq (Z @gz (Z @lW (Z @lV (Z @gw (Z @YI (Z @Y4 (Z @Yc (Z @fi (Z @gG (Z @fu (Z @fx (Z @fy (Z @fm (Z @fv (Z @ft (Z @fq (Z @fp (Z @fo (Z @mT (Z @mU (Z @my (Z @fN (Z @gL (Z @cN (Z @Yx (Z @YG (Z @YF (Z @eC (Z @eH (Z @dy (Z @eF (Z @dF (Z @dE (Z @ed (Z @dT (Z @eV (Z @eX (Z @dc (Z @de (Z @du (Z @dv (Z @db (Z @dx (Z @eS (Z @eW (Z @eB (Z @dz (Z @eY (Z @dC (Z @dI (Z @fe (Z @fU (Z @fV (Z @fZ (Z @fY (Z @pF (Z @pE (Z @fh (Z @ff (Z @fg (Z @fc (Z @fX (Z @fW (Z @lD (Z @lE (Z @lG (Z @Yz (Z @Yv (Z @lH (Z @lJ (Z @lI (Z @jw (Z @jv (Z @WU (Z @WT (Z @Yk (Z @Y0 (Z @Z4 (Z @Z6 (Z @YP (Z @YZ (Z @Z5 (Z @YM (Z @YL (Z @Zc (Z @YQ (Z @Z8 (Z @Za (Z @YS (Z @YT (Z @YW (Z @YJ (Z @YX (Z @YR (Z @YY (Z @Z7 (Z @Z9 (Z @Z3 (Z @Z0 (Z @YN (Z @YK (Z @YO (Z @Z2 (Z @Zt (Z @Zv (Z @Zg (Z @Zp (Z @Zu (Z @Zf (Z @Ze (Z @ZB (Z @Zh (Z @Zx (Z @Zz (Z @Zj (Z @Zk (Z @Zm (Z @Zd (Z @Zn (Z @Zi (Z @Zo (Z @Zw (Z @Zy (Z @Zs (Z @Zq (Z @ZD (Z @ZC (Z @ZH (Z @ZG (Z @ZF (Z @hP (Z @iX (Z @iW (Z @gP (Z @gO (Z @gN (Z @ma (Z @nA (Z @XB (Z @XD (Z @XF (Z @XG (Z @XH (Z @XA (Z @Xz (Z @jD (Z @jE (Z @WO (Z @di (Z @dD (Z @aU (Z @aW (Z @ZZ (Z @aO (Z @aV (Z @ZW (Z @ZV (Z @ae (Z @aD (Z @aY (Z @aa (Z @aF (Z @aG (Z @aJ (Z @ZT (Z @aK (Z @aE (Z @aN (Z @aX (Z @aZ (Z @aT (Z @aP (Z @ZX (Z @ZU (Z @ZY (Z @aR (Z @aA (Z @aC (Z @Tn (Z @Tq (Z @Tj (Z @Tp (Z @T9 (Z @T8 (Z @Tx (Z @Tb (Z @Tt (Z @Tv (Z @Td (Z @Te (Z @Tg (Z @Th (Z @Tc (Z @Ti (Z @Ts (Z @Tu (Z @Tm (Z @Tk (Z @jg (Z @jf (Z @je (Z @gQ (Z @dw (Z @jh (Z @XX (Z @ir (Z @mw (Z @be (Z @gy (Z @fS (Z @fR (Z @fT (Z @aj (Z @ah (Z @iF (Z @YA (Z @Yw (Z @iU (Z @XM (Z @XL (Z @XO (Z @XN (Z @nD (Z @nC (Z @gV (Z @gY (Z @ge (Z @gZ (Z @gb (Z @gW (Z @gT (Z @gU (Z @cb (Z @cf (Z @ck (Z @cg (Z @cj (Z @cd (Z @cX (Z @cY (Z @bP (Z @bQ (Z @ZR (Z @ZS (Z @mY (Z @mZ (Z @gt (Z @gu (Z @gp (Z @gr (Z @YB (Z @lZ (Z @lb (Z @lc (Z @Fw (Z @Yd (Z @get_map (Z @cz (Z @cy (Z @ZJ (Z @ZI (Z @fJ (Z @fI (Z @iJ (Z @iL (Z @iK (Z @bg (Z @bf (Z @bZ (Z @iy (Z @iz (Z @nK (Z @nJ (Z (Z @il (Z @iZ (Z @ib (Z @iY (Z @ij @ii))))) (Z @ik (Z @Yg (Z @Yf (Z @Ye (Z @dG (Z @mE (Z @mM (Z @lK (Z @WW (Z @lr (Z @ls (Z @lu (Z @iT (Z @lm (Z @lx (Z @jP (Z @jQ (Z @jN (Z @jO (Z @WY (Z @Yj (Z @mS (Z @fj (Z @fw (Z @gH (Z @Y2 (Z @Y1 (Z @XZ (Z @XY (Z @WN (Z @Li (Z @SN (Z @PR (Z @kb (Z @kf (Z @kh (Z @kg (Z @iH (Z @iG (Z @gh (Z @gg (Z @Yi (Z @Yh (Z @YE (Z @YD (Z @ZE (Z @dk @XK))))))))))))))))))))))))))))))))))))))))))))))))))))))))))))))))))))))))))))))))))))))))))))))))))))))))))))))))))))))))))))))))))))))))))))))))))))))))))))))))))))))))))))))))))))))))))))))))))))))))))))))))))))))))))))))))))))))))))))))))))))))))))))))))))))))))))))))))))))))))))))))))))))))))))))))))))))))))))))))))))))))))))))))))))))))))))))))))))))))
theorem fb{env:O (Y × AV)}{bx:O (Y × O AC)}{rows:Rows}{d:Y}{ids:O Y}{R1:Ak}{r:D}:St.instX ⟨env,bx,rows⟩ d ids R1 r=⟨put env d (.v (.sc (.dat r))),bx,BY rows ids R1⟩:=rfl
theorem jx{rs:Rows}{id:Y}{ids:O Y}{r:Y × O (O D)}{R:Ak}:BY rs (id::ids) (r::R)=BY (put rs id r) ids R:=rfl
theorem jy{rs:Rows}:BY rs [] []=rs:=rfl
theorem PH{N:O Y}:AV.avoids N (.v (.sc .z))=T:=by simp[AV.avoids,AV.cells,V1.cells,AC.avoids,AC.uses]
theorem sZ{P:Program}{k:O Fr}{Q:Xj→St→Prop}{σ:St}{N:O Y}{d:Y}{its:O AD}:go P (.dops ((E N,G,.zsl d)::its)::k) Q .normal (E σ)=go P (.dops its::k) Q .normal (E (σ.set d (.v (.sc .z)))):=by
 rw[Bb rfl];show go P _ Q .normal (bif (((σ.less N).set d (.v (.sc .z))).get d).avoids N then E (σ.set d (((σ.less N).set d (.v (.sc .z))).get d)) else G)=_
 rw[St.get_set_same,PH];rfl
theorem XJ{N:O Y}:AV.avoids N (.tup [])=T:=rfl
theorem XI{N:O Y}{x:V1}{l:O V1}:AV.avoids N (.tup (x::l))=((AV.v x).avoids N&&(AV.tup l).avoids N):=by simp[AV.avoids,AV.cells]
theorem io{t:TypeId}{d:D}:El t (.v (.sc (.dat d)))=E (.v (.sc (.dat (.ifc t d)))):=rfl
theorem mb{t u:TypeId}{zc:AC}{d:D}:Et t zc (.v (.sc (.dat (.ifc u d))))=bif u==t then E (.tup [.sc (.dat d),.sc (.dat (.bool T))]) else E (.tup [.sc zc,.sc (.dat (.bool F))]):=rfl
theorem cn{id:Y}{ds:O D}{d:D}:AC.frzb id ds (.dat d)= .dat d:=rfl
theorem cp{id:Y}{ds:O D}:AC.frzb id ds .nil= .nil:=rfl
theorem ct{id:Y}{ds:O D}:AC.frzb id ds .undef= .undef:=rfl
theorem cq{id i:Y}{ds:O D}:AC.frzb id ds (.own i)= .own i:=rfl
theorem cr{id i a b:Y}{ds:O D}:AC.frzb id ds (.osub i a b)= .osub i a b:=rfl
theorem co{id i a b:Y}{ds:O D}:AC.frzb id ds (.pe i a b)= .pe i a b:=rfl
theorem cm{id i a:Y}{ds:O D}:AC.frzb id ds (.pb i a)=bif i==id then .dat (.pd (ds.drop a)) else .pb i a:=rfl
theorem kr{a b:Y}{d:D}:AC.ren a b (.dat d)= .dat d:=rfl
theorem kv{a b:Y}:AC.ren a b .nil= .nil:=rfl
theorem ky{a b:Y}:AC.ren a b .undef= .undef:=rfl
theorem kw{a b i:Y}:AC.ren a b (.own i)= .own (bif i==a then b else i):=rfl
theorem kx{a b i x y:Y}:AC.ren a b (.osub i x y)= .osub (bif i==a then b else i) x y:=rfl
theorem ku{a b i x y:Y}:AC.ren a b (.pe i x y)= .pe (bif i==a then b else i) x y:=rfl
theorem kp{a b i x:Y}:AC.ren a b (.pb i x)= .pb i x:=rfl
theorem im{t:TypeId}{a b:D}:El t (.v (.ag [.dat a,.dat b]))=E (.v (.sc (.dat (.ifs t [a,b])))):=rfl
def FCq(P:Program)(f:FuncId)(ds:O DV)(rs:O R1):U D→Prop
 | none=>FC P f ds rs
 | some d=>GM P f ds d
theorem FCq.none{P:Program}{f:FuncId}{ds:O DV}{rs:O R1}{pd:U D}(h:FCq P f ds rs pd)(hp:pd=G):FC P f ds rs:=by subst hp; exact h
theorem FCq.some{P:Program}{f:FuncId}{ds:O DV}{rs:O R1}{pd:U D}{d:D}(h:FCq P f ds rs pd)(hp:pd=E d):GM P f ds d:=by subst hp; exact h
theorem ip{t:TypeId}{id:Y}:El t (.v (.sc (.pb id 0)))=E (.v (.sc (.ipb t id))):=rfl
theorem gX{id i:Y}{t:TypeId}:AC.kill id (.ipb t i)= .ipb t i:=rfl
theorem ce{id i:Y}{t:TypeId}{es:O (O D)}:AC.frz id es (.ipb t i)= .ipb t i:=rfl
theorem cu{g:W}{ks:O FK}{cs ds:O AC}:Gk g ks (.v (.ag cs)) (.v (.ag ds))=(B2 ks cs ds).map fun b=> .v (.sc (.dat (.bool (bif g then !b else b)))):=rfl
theorem bN:B2 [] [] []=E T:=rfl
theorem bM{k:IntKind}{x y:V}{ks:O FK}{cs ds:O AC}:B2 (.i::ks) (.dat (.int k x)::cs) (.dat (.int k y)::ds)=(B2 ks cs ds).map fun b=>(x==y)&&b:=if_pos rfl
theorem bL{x y:W}{ks:O FK}{cs ds:O AC}:B2 (.b::ks) (.dat (.bool x)::cs) (.dat (.bool y)::ds)=(B2 ks cs ds).map fun b=>(x==y)&&b:=rfl
theorem bO{x y:O UInt8}{ks:O FK}{cs ds:O AC}:B2 (.s::ks) (.dat (.str x)::cs) (.dat (.str y)::ds)=(B2 ks cs ds).map fun b=>(x==y)&&b:=rfl
def lP:=Z @PH (Z @sZ (Z @XJ (Z @XI (Z @fb (Z @jx (Z @jy (Z @eA (Z @eZ (Z @Tl (Z @Tw (Z @Z1 (Z @Zr (Z @aQ (Z @Zb (Z @ZA (Z @ab (Z @io (Z @mb (Z @cn (Z @cp (Z @ct (Z @cq (Z @cr (Z @co (Z @cm (Z @ip (Z @gX (Z @ce (Z @kr (Z @kv (Z @ky (Z @kw (Z @kx (Z @ku (Z @kp (Z @eK (Z @dO (Z @eM (Z @dJ (Z @im (Z @Tf (Z @dq (Z @YU (Z @Zl (Z @aH (Z @cu (Z @bN (Z @bM (Z @bL @bO)))))))))))))))))))))))))))))))))))))))))))))))))
end Go.Vi
