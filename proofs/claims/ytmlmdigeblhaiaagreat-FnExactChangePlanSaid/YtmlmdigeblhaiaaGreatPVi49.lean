/-
The value level. No condition.
-/
import Derived.Test.YtmlmdigeblhaiaaGreatPVi29
import Derived.DataReads
import Derived.KernelRfl
import Derived.MapKept
namespace Go.Vi
set_option linter.all false
open And renaming intro → zF
open Option renaming map_eq_some_iff → zG, bind_eq_some_iff → zU, bind_eq_bind → yO, pure_def → yW, some → O, none → Z
open List renaming getElem?_eq_getElem → zH, map → zI, getElem?_eq_some_iff → zJ, mem_of_getElem? → zK, length_eq_zero_iff → zL, mem_cons_of_mem → zO, mem_cons_self → zP, mem_cons → zR, length_eq_one_iff → zT, mem_map → zV, getElem?_map → zY, mem_singleton → zZ, append_nil → yA, getElem?_eq_none → yC, all_cons → yD, length_map → yE, mapM_cons → yF, mapM_toArray → yG, take_succ_eq_append_getElem → yK, take_append_drop → yL, map_append → yM, getElem?_of_mem → yN, replicate → yP, map_cons → yS, getElem?_inj → yT, pairwise_iff_getElem → yU, length → yX, drop_drop → yY, drop_zero → yZ
open Nat renaming le_of_ble_eq_true → zM, le_trans → zN, lt_of_lt_of_le → zS, ble → zX, eq_of_mul_eq_mul_right → yB, one_pos → yH, le_refl → yI, zero_le → yQ, sub_zero → yV
open Bool renaming and_eq_true → zQ, and_self → yJ, false_eq_true → yR, not_true → kA, true → T, false → F
open Option.some renaming inj → zW
open _root_ renaming List → J, Option → I, Int → zA, Bool → zB, Nat → zC, UInt8 → zD, rfl → zE
section
abbrev S(n:zC):Opd:= .t n
abbrev K(n:zA):Opd:= .c (.v (.sc (.dat (.int .i64 n))))
abbrev K8(n:zA):Opd:= .c (.v (.sc (.dat (.int .u8 n))))
abbrev KB(b:zB):Opd:= .c (.v (.sc (.dat (.bool b))))
abbrev KS(s:J zD):Opd:= .c (.v (.sc (.dat (.str s))))
abbrev KN:Opd:= .c (.v (.sc .nil))
abbrev aI(n:zA):AC:= .dat (.int .i64 n)
abbrev a8(n:zA):AC:= .dat (.int .u8 n)
abbrev aB(b:zB):AC:= .dat (.bool b)
abbrev aS(s:J zD):AC:= .dat (.str s)
abbrev aL(es:J (J D)):AC:= .dat (.sl es)
abbrev vc(c:AC):AV:= .v (.sc c)
abbrev va(cs:J AC):AV:= .v (.ag cs)
def rI(n:zA):J D:= [.int .i64 n]
def r8(n:zA):J D:= [.int .u8 n]
def rB(b:zB):J D:= [.bool b]
def rS(s:J zD):J D:= [.str s]
def rL{α:Type}(row:α->J D)(xs:J α):J D:= [.sl (xs.map row)]
class Row {α:Type} (row:α->J D) (sz:zC):Prop where
 len:∀x,(row x).length=sz
 pos:0<sz
instance:Row rI 1:=⟨fun _=>rfl,yH⟩
instance:Row r8 1:=⟨fun _=>rfl,yH⟩
instance:Row rB 1:=⟨fun _=>rfl,yH⟩
instance:Row rS 1:=⟨fun _=>rfl,yH⟩
instance {α:Type} (row:α->J D):Row (rL row) 1:=⟨fun _=>rfl,yH⟩
def dQ(n:zA):rI n= [.int .i64 n]:=rfl
def fJ(n:zA):zD:=UInt8.ofNat n.toNat
def Yr:∀{xs:J zA},Dm (zI r8 xs)=O (zI fJ xs)
 | []=>rfl
 | n::xs=>by
  show(Dm (zI r8 xs)).map _=_
  rw[Yr];rfl
def A22(n:zA):r8 n= [.int .u8 n]:=rfl
def A23(b:zB):rB b= [.bool b]:=rfl
def A25(s:J zD):rS s= [.str s]:=rfl
def A24{α:Type}(row:α->J D)(xs:J α):rL row xs= [.sl (xs.map row)]:=rfl
def Y4{α:Type}{row:α->J D}{sz:zC}(h:∀x,(row x).length=sz)(xs:J α):(xs.map row).all (fun d=>d.length==sz)=T:=by
 simp[List.all_map,Function.comp_def,h]
@[irreducible] def bigN:zC:=1208925819614629174706176
def bnd(m h l:zA)(n:zC):I (zC × zC):=if 0<=l/\l<=h/\h<=m/\m<=n then O (l.toNat,h.toNat) else Z
def BB(l c:zA)(bytes:zC):I zC:=if 0<=l/\l<=c/\c*bytes<=140737488355328/\c<=4611686018427387904 then O l.toNat else Z
def Ab(n m bytes:zC):zB:=decide ((n+m)*bytes<=140737488355328/\n+m<=4611686018427387904)
def FF(n m:zC):zB:=decide (n+m<=4611686018427387904)
def Sv{α β:Type}{f:α->β}{l:J α}{i:zA}:ix (l.map f) i=(ix l i).map f:=by
 unfold ix;split<;>simp
def Ah{α:Type}{l:J α}{i:zA}{x:α}(h:ix l i=O x):l[i.toNat]?=O x:=by
 unfold ix at h;split at h
 .exact h
 .cases h
def ob{α β:Type}{o:I α}{f:α->I β}{r:β}(h:o.bind f=O r):∃a,o=O a/\f a=O r:=zU.1 h
class FlatRow {α:Type} (row:α->J D):Prop where
 flat:∀x,∀d∈row x,d.flat=T
instance:FlatRow rI:=⟨fun _ d h=>by rw[zZ.1 h]; rfl⟩
instance:FlatRow r8:=⟨fun _ d h=>by rw[zZ.1 h]; rfl⟩
instance:FlatRow rB:=⟨fun _ d h=>by rw[zZ.1 h]; rfl⟩
instance:FlatRow rS:=⟨fun _ d h=>by rw[zZ.1 h]; rfl⟩
def WQ:J RC->Prop
 | []=>True
 | c::cs=>c.flat/\WQ cs
def BL{rs:J R1}{cs:J RC}(h:rs.flatMap R1.cells=cs)(hf:WQ cs):CB rs:=by
 subst h;unfold CB;generalize rs.flatMap R1.cells=l at hf
 induction l with
 | nil=>intro c hc; simp at hc
 | cons a l ih=>
  intro c hc;rcases zR.1 hc with rfl|hc
  .exact hf.1
  .exact ih hf.2 c hc
def AQ{α:Type}{row:α->J D} [FlatRow row]{sz:zC}{xs:J α}:RC.flat (.o sz (zI row xs)):=by
 intro r hr;obtain⟨x,_,rfl⟩:=zV.1 hr;exact FlatRow.flat x
def Qn{α:Type}{row:α->J D}{z:α}{zs:J D}{n:zC}(h:row z=zs):yP n zs=zI row (yP n z):=by rw[List.map_replicate,h]
def AR{α:Type}{b:zB}{x:I α}{r:α}(h:(if b=T then x else Z)=O r):b=T/\x=O r:=by
 cases b
 .rw[if_neg Bool.false_ne_true] at h; cases h
 .exact⟨zE,by simpa using h⟩
def Kn{α:Type}{b:zB}{x:I α}{r:α}(h:(if b=T then Z else x)=O r):b=F/\x=O r:=by
 cases b
 .exact⟨zE,by simpa using h⟩
 .rw[if_pos rfl] at h; cases h
def ic{α:Type}{b:zB}{x y:I α}{r:α}(h:(if b=T then x else y)=O r):(b=T/\x=O r)\/(b=F/\y=O r):=by
 cases b with
 | true=>exact .inl ⟨rfl,h⟩
 | false=>exact .inr ⟨rfl,h⟩
section
variable {P : Program} {k : J Fr} {Q : Xl -> St -> Prop} {M : St} {its : J AItem} {ds : J AY} {o : AOp} {d : zC}
def AA{c:Xf}(h:go P (.code c:: .code (.loop c)::k) Q .normal (O M)):go P (.code (.loop c)::k) Q .normal (O M):=by
 intro X hX;refine hX M (Yh c (fun e M' h=> ?_) h);cases e with
 | normal=>exact h X hX
 | exit id=>exact h
 | ret=>exact h
 | pan d=>exact h
def iG(hm:P.follows .mixedOrders=T){f:FuncId}{c:Xf}{ts:J RV}{nt:zC}{ds:J DV}{rs:J R1}{M:St}(he:AF P f=O (c.strip,ts,nt))(hl:zX ds.length nt=T)(hσ:St.init ds=M)
  (h:go P [.code c] (A5 ts rs) .normal (O M)):FC P f ds rs:=iI hm he (zM hl) fun _=>Kb (hσ▸h)
def WO(hm:P.follows .mixedOrders=T){f:FuncId}{c:Xf}{ts:J RV}{nt:zC}{ds:J DV}{rs:J R1}(he:AF P f=O (c.strip,ts,nt))(hl:zX ds.length nt=T)
  (h:go P [.code c] (A5 ts rs) .normal (O (St.init ds))):FC P f ds rs:=iG hm he hl rfl h
def Vh{sz:zC}{es:J (J D)}(hf:M.fresh d=T):M.make (.row d sz es)=O {(M.set d (.v (.sc (.own (d*64))))) with rows:=put M.rows (d*64) (sz,es)}:=by simp[St.make,hf]
def SO{cs:J AC}(hf:M.fresh d=T)(hu:cs.all (fun c=> !c.uses d)=T):M.make (.box d cs)=O {(M.set d (.v (.sc (.pb d 0)))) with bx:=put M.bx d cs}:=by simp only[St.make,hf,hu,yJ,if_true]
def S9{m:Mk}(ho:o.isMade=T)(hm:M.made o=O m){M':St}(hs:M.make m=O M')(H:go P (.ops its::k) Q .normal (O M')):go P (.ops ((Z,o)::its)::k) Q .normal (O M):=by
 have hc:o.isCall=F:=by cases o<;>first | rfl | (simp[AOp.isMade] at ho; done)
 rw[Bd hc,A5c ho,hm];show go P (.ops its::k) Q .normal (M.make m)
 rw[hs];exact H
def uW{X:Opd}{y:V1}(hX:M.val X= .v y)(hf:M.fresh d=T)(hu:y.cells.all (fun c=> !c.uses d)=T)(H:go P (.ops its::k) Q .normal (O {(M.set d (.v (.sc (.pb d 0)))) with bx:=put M.bx d y.cells })) :
  go P (.ops ((Z,.box d X)::its)::k) Q .normal (O M):=S9 rfl (by simp only[St.made,hX]) (SO hf hu) H
def uJ{cs:J AC}(hf:M.fresh d=T)(hu:cs.all (fun c=> !c.uses d)=T)(H:go P (.ops its::k) Q .normal (O {(M.set d (.v (.sc (.pb d 0)))) with bx:=put M.bx d cs })) :
  go P (.ops ((Z,.alloc d cs)::its)::k) Q .normal (O M):=S9 rfl rfl (SO hf hu) H
def S7{sz:zC}{zs:J D}{len:zC}{ps:J (zC × Opd)}{es:J (J D)}(hm:M.made (.bslice d sz zs len ps)=O (.row d sz es))(hf:M.fresh d=T)
  (H:go P (.ops its::k) Q .normal (O {(M.set d (.v (.sc (.own (d*64))))) with rows:=put M.rows (d*64) (sz,es) })):go P (.ops ((Z,.bslice d sz zs len ps)::its)::k) Q .normal (O M):=S9 rfl hm (Vh hf) H
def cH{L C:Opd}{l c:zA}{bytes n sz:zC}{zs:J D}{es:J (J D)}(hl:Cb (M.val L)=O l)(hc:Cb (M.val C)=O c)(hb:BB l c bytes=O n)(hz:zs.length=sz)(he:yP n zs=es) :
  M.made (.mksl d sz bytes zs L C)=O (.row d sz es):=by
 unfold BB at hb
 split at hb
 .rename_i h
  cases hb;subst he;simp only[St.made,hl,hc];rw[if_pos ⟨h.1,h.2.1,h.2.2.1,h.2.2.2,hz⟩]
 .cases hb
def Sa{L C:Opd}{l c:zA}{bytes n sz:zC}{zs:J D}{es:J (J D)}(hl:Cb (M.val L)=O l)(hc:Cb (M.val C)=O c)(hb:BB l c bytes=O n)(hz:zs.length=sz)(he:yP n zs=es)(hf:M.fresh d=T)
  (H:go P (.ops its::k) Q .normal (O {(M.set d (.v (.sc (.own (d*64))))) with rows:=put M.rows (d*64) (sz,es) })):go P (.ops ((Z,.mksl d sz bytes zs L C)::its)::k) Q .normal (O M):=
 S9 rfl (cH hl hc hb hz he) (Vh hf) H
def Uj{n:zC}{N:J zC}{m:Mk}(hm:(M.less (n::N)).made o=O m)(hv:cQ (n::N) m=T){M':St}(hs:M.make m=O M')(H:go P (.dops ds::k) Q .normal (O M')) :
  go P (.dops ((O (n::N),Z,o)::ds)::k) Q .normal (O M):=ug hm hv hs H
def AM{α:Type}{env bx rows}{id sz i off n:zC}{xs:J α}{row:α->J D}{x y:α}{yv:V1}{dd:J D}(hd:yv.toDs=O dd)(hf:A1 rows id=O (sz,zI row xs))
  (hx:xs[i]?=O x) (hn:dd.length=n) (ho:zX (off+n) (row x).length=T) (hy:GK (row x) off dd=row y) (H:go P k Q .normal (O ⟨env,bx,put rows id (sz,zI row (xs.set i y))⟩)) :
  go P k Q .normal (St.storeV ⟨env,bx,rows⟩ n (.v (.sc (.pe id i off))) (.v yv)):=by
 have e:St.storeV ⟨env,bx,rows⟩ n (.v (.sc (.pe id i off))) (.v yv)=O ⟨env,bx,put rows id (sz,zI row (xs.set i y))⟩:=by
  simp only[St.storeV,hf,zY,hx,Option.map_some,hd];rw[if_pos ⟨hn,zM ho⟩,hy,List.map_set]
 rw[e];exact H
end
def DC{α:Type}:zC->J α->I (J α)
 | 0,l=>O l
 | _+1,[]=>Z
 | n+1,_::l=>DC n l
def GN{α:Type}:zC->J α->I (J α)
 | 0,_=>O []
 | _+1,[]=>Z
 | n+1,c::l=>(GN n l).map (c:: ·)
def DN{α:Type}:J α->zC->zB
 | [],0=>T
 | _::l,n+1=>DN l n
 | _,_=>F
def Cd{α:Type}:J α->zC->zB
 | _,0=>T
 | _::l,n+1=>Cd l n
 | [],_+1=>F
def N7{α:Type}:∀(n:zC) (l:J α),DC n l=if n<=l.length then O (l.drop n) else Z
 | 0,l=>by simp[DC]
 | n+1,[]=>by simp[DC]
 | n+1,c::l=>by simp[DC,N7 n l]
def ej{α:Type}:∀(n:zC) (l:J α),GN n l=if n<=l.length then O (l.take n) else Z
 | 0,l=>by simp[GN]
 | n+1,[]=>by simp[GN]
 | n+1,c::l=>by simp only[GN,ej n l]; split<;>simp_all
def Ve{α:Type}:∀(l:J α) (n:zC),DN l n=decide (l.length=n)
 | [],0=>by simp[DN]
 | [],n+1=>by simp[DN]
 | _::l,0=>by simp[DN]
 | _::l,n+1=>by simp[DN,Ve l n]
def Q5{α:Type}:∀(l:J α) (n:zC),Cd l n=decide (n<=l.length)
 | [],0=>by simp[Cd]
 | [],n+1=>by simp[Cd]
 | _::l,0=>by simp[Cd]
 | _::l,n+1=>by simp[Cd,Q5 l n]
def qi{α:Type}{l:J α}:DC 0 l=O l:=by cases l<;>rfl
def qj{α:Type}{n:zC}{c:α}{l:J α}:DC (n+1) (c::l)=DC n l:=rfl
def A57{α:Type}{l:J α}:GN 0 l=O []:=by cases l<;>rfl
def A58{α:Type}{n:zC}{c:α}{l:J α}:GN (n+1) (c::l)=(GN n l).map (c:: ·):=rfl
def zt{α:Type}:DN ([]:J α) 0=T:=rfl
def zu{α:Type}{n:zC}{c:α}{l:J α}:DN (c::l) (n+1)=DN l n:=rfl
def zp{α:Type}{l:J α}:Cd l 0=T:=by cases l<;>rfl
def zq{α:Type}{n:zC}{c:α}{l:J α}:Cd (c::l) (n+1)=Cd l n:=rfl
def oZ{cs:J AC}{off n:zC}:D1 cs off T n=(DC off cs).bind fun l=>(GN n l).map fun l=> .v (.ag l):=by
 simp only[D1,cond_true,N7,ej];by_cases h:off<=cs.length
 .rw[if_pos h];by_cases h2:off+n<=cs.length
  .rw[if_pos h2,Option.bind_some,if_pos d3]; rfl
  .rw[if_neg h2,Option.bind_some,if_neg d3]; rfl
 .rw[if_neg h,if_neg a9]; rfl
def A36{cs:J AC}:BS cs 0 []=cs:=by simp[BS]
def A38{c:AC}{cs ds:J AC}{n:zC}:BS (c::cs) (n+1) ds=c::BS cs n ds:=by
 simp only[BS,List.take_succ_cons,List.cons_append];rw[show n+1+ds.length=(n+ds.length)+1 by omega,List.drop_succ_cons]
def A39{c d:AC}{cs ds:J AC}:BS (c::cs) 0 (d::ds)=d::BS cs 0 ds:=by simp[BS]
def KR{α β:Type}{a:α}{f:α->I β}:(O a).bind f=f a:=rfl
def oD{α β:Type}{f:α->I β}:(Z:I α).bind f=Z:=rfl
def get_map{α β:Type}{f:α->β}{l:J α}{i:zC}:(zI f l)[i]?=(l[i]?).map f:=zY
def uG{α:Type}{a:α}{l:J α}:(a::l)[0]?=O a:=rfl
def uF{α:Type}{a:α}{l:J α}{n:zC}:(a::l)[n+1]?=l[n]?:=by simp
def qa:zI AC.dat []= []:=rfl
def qZ{d:D}{l:J D}:zI AC.dat (d::l)= .dat d::zI AC.dat l:=rfl
section
variable {P : Program} {k : J Fr} {Q : Xl -> St -> Prop} {M : St} {its : J AItem} {env : J (zC × AV)} {bx : J (zC × J AC)} {rows : Rows}
def wb{α:Type}{rs:Rows}{sz:zC}{xs:J α}{row:α->J D} [Row row sz]{kd:IntKind}{i:zA}:Dc rs sz (.v (.sc (.dat (.sl (zI row xs))))) (.v (.sc (.dat (.int kd i))))=(ix xs i).map fun x=> .v (.sc (.dat (.pd (row x)))):=by
 simp only[Dc,Sv];cases ix xs i with
 | none=>rfl
 | some x=>simp[Row.len (row:=row) (sz:=sz),Row.pos row]
def wa{rs:Rows}{sz id:zC}{kd:IntKind}{i:zA}:Dc rs sz (.v (.sc (.own id))) (.v (.sc (.dat (.int kd i))))=(A1 rs id).bind fun p=>(ix p.2 i).bind fun _=>bif p.1==sz then O (.v (.sc (.pe id i.toNat 0))) else Z:=by
 simp only[Dc];cases A1 rs id with
 | none=>rfl
 | some p=>
  obtain⟨a,es⟩:=p;simp only[KR];cases ix es i with
  | none=>rfl
  | some x=>
   by_cases h:a=sz
   .simp[h]
   .have h':(a==sz)=F:=by simpa using h
    simp[h,h']
def A0m{g:zB}{n id off:zC}:CS ⟨env,bx,rows⟩ g n (.v (.sc (.pb id off)))=(A1 bx id).bind fun cs=>D1 cs off g n:=by
 show(match A1 bx id with | some cs=>_ | none=>Z)=_
 cases A1 bx id<;>rfl
def A0o{g:zB}{n id i off:zC}:CS ⟨env,bx,rows⟩ g n (.v (.sc (.pe id i off)))=(A1 rows id).bind fun p=>(p.2[i]?).bind fun d=>D1 (zI AC.dat d) off g n:=by
 simp only[CS];cases A1 rows id with
 | none=>rfl
 | some p=>
  simp only[KR];cases p.2[i]?<;>rfl
def A0n{g:zB}{n:zC}{cs:J D}:CS M g n (.v (.sc (.dat (.pd cs))))=D1 (zI AC.dat cs) 0 g n:=rfl
def tJ{rs:Rows}{off id i o:zC}:CA rs off (.v (.sc (.pe id i o)))=(A1 rs id).map fun _=> .v (.sc (.pe id i (o+off))):=by
 simp only[CA];cases A1 rs id<;>rfl
def tI{rs:Rows}{off:zC}{cs:J D}:CA rs off (.v (.sc (.dat (.pd cs))))=(DC off cs).map fun cs=> .v (.sc (.dat (.pd cs))):=by
 simp only[CA,N7];split<;>rfl
def tF{l:J V1}{i:zC}:L4 i (.tup l)=(l[i]?).map .v:=rfl
def A1l{id off:zC}:GD (.v (.sc (.pb id off)))=O (.v (.sc (.pb id off))):=rfl
def A1m{cs:J D}:GD (.v (.sc (.dat (.pd cs))))=O (.v (.sc (.dat (.pd cs)))):=rfl
def A7d:zI (St.val M) []= []:=rfl
def A7c{x:Opd}{l:J Opd}:zI (St.val M) (x::l)=M.val x::zI (St.val M) l:=rfl
def A09{f:FuncId}:GC f []=O []:=rfl
def A03{f:FuncId}:GA f []=O (.clo f []):=rfl
def A04{f:FuncId}{id:zC}{r:J AV}:GA f (.v (.sc (.pb id 0))::r)=(GC f (.v (.sc (.pb id 0))::r)).map (.clo f):=rfl
def A02{f:FuncId}{d:D}{r:J AV}:GA f (.v (.sc (.dat d))::r)=(GB (.v (.sc (.dat d))::r)).map fun q=> .dat (.clo f q):=rfl
def A07:GB []=O []:=rfl
def A06{ds:J D}{r:J AV}:GB (.v (.sc (.dat (.pd ds)))::r)=(GB r).map (.pd ds:: ·):=rfl
def A08{f:FuncId}{id:zC}{r:J AV}:GC f (.v (.sc (.pb id 0))::r)=(GC f r).map (id:: ·):=rfl
def R6(K:J AC->I (J AC))(off n:zC)(cs:J AC):AV->I (J AC)
 | .v x=>bif DN x.cells n&&Cd cs (off+n) then K (BS cs off x.cells) else Z
 | _=>Z
def GW(M:St):J (zC × zC × Opd)->J AC->I (J AC)
 | [],cs=>O cs
 | (off,n,x)::r,cs=>R6 (GW M r) off n cs (M.val x)
def TL:∀(ps:J (zC × zC × Opd)) (cs:J AC),Db cs (ps.map fun p=>(p.1,p.2.1,M.val p.2.2))=GW M ps cs
 | [],cs=>rfl
 | (off,n,x)::r,cs=>by
  simp only[yS,GW];generalize M.val x=v
  cases v with
  | v y=>
   simp only[Db,R6,Ve,Q5];by_cases h1:y.cells.length=n
   .by_cases h2:off+n<=cs.length
    .subst h1;simp only[h2,and_self,if_true,decide_true,yJ,cond_true];exact TL r _
    .simp[h1,h2]
   .simp[h1]
  | _=>rfl
def oG{cs:J AC}:GW M [] cs=O cs:=rfl
def oF{off n:zC}{x:Opd}{r:J (zC × zC × Opd)}{cs:J AC}:GW M ((off,n,x)::r) cs=R6 (GW M r) off n cs (M.val x):=rfl
def oE{K:J AC->I (J AC)}{off n:zC}{cs:J AC}{x:V1}:R6 K off n cs (.v x)=bif DN x.cells n&&Cd cs (off+n) then K (BS cs off x.cells) else Z:=rfl
def uP{d zs ps}:go P (.ops ((Z,.build d zs ps)::its)::k) Q .normal (O M)=go P (.ops its::k) Q .normal (AB M d ((GW M ps zs).map fun cs=> .v (.ag cs))):=by rw[uV,TL]
def A47{d zs ps}:M.step (.build d zs ps)=AB M d ((GW M ps zs).map fun cs=> .v (.ag cs)):=by rw[eD,TL]
def A5g{n id off:zC}{y:V1}:St.storeV ⟨env,bx,rows⟩ n (.v (.sc (.pb id off))) (.v y)=(A1 bx id).bind fun cs=>bif DN y.cells n&&Cd cs (off+n) then O ⟨env,put bx id (BS cs off y.cells),rows⟩ else Z:=by
 simp only[St.storeV,Ve,Q5];cases A1 bx id with
 | none=>rfl
 | some cs=>
  simp only[KR];by_cases h1:y.cells.length=n
  .by_cases h2:off+n<=cs.length
   .simp[h1,h2]
   .simp[h1,h2]
  .simp[h1]
def T0(sz:zC)(es:J (J D)):zB:=es.all fun r=>r.length==sz
def A3s{α:Type}{sz:zC}{row:α->J D} [Row row sz]{xs:J α}:T0 sz (zI row xs)=T:=Y4 (Row.len (row:=row)) xs
def nF{d sz bytes id:zC}{y:AV}:St.appV ⟨env,bx,rows⟩ d sz bytes (.v (.sc (.own id))) y=bif id / 99999999999==0 then((A1 rows id).bind fun p=>(appSrc rows y).bind fun es'=>
  bif (p.1==sz)&&(T0 sz es'&&Ab p.2.length es'.length bytes) then O ⟨put (env.map fun p=>(p.1,p.2.map (AC.kill id))) d (.v (.sc (.own id))),bx.map fun p=>(p.1,p.2.map (AC.kill id)),put rows id (sz,p.2++es')⟩ else Z) else Z:=by
 simp only[St.appV];by_cases h0:id / 99999999999=0
 rotate_left
 .rw[if_neg h0,show(id / 99999999999==0)=F by simpa using h0];rfl
 rw[if_pos h0,show(id / 99999999999==0)=T by simpa using h0,cond_true];cases A1 rows id with
 | none=>rfl
 | some p=>
  obtain⟨a,es⟩:=p;simp only[KR];cases appSrc rows y with
  | none=>rfl
  | some es'=>
   simp only[KR];by_cases h1:a=sz
   .by_cases h2:T0 sz es'=T
    .by_cases h3:Ab es.length es'.length bytes=T
     .have h3':=of_decide_eq_true h3;rw[if_pos ⟨h1,h2,h3'.1,h3'.2⟩];simp only[h1,beq_self_eq_true,h2,h3,yJ,cond_true];rfl
     .have h3':Ab es.length es'.length bytes=F:=by simpa using h3
      rw[if_neg (fun h=>h3 (decide_eq_true ⟨h.2.2.1,h.2.2.2⟩))];simp[h3']
    .have h2':T0 sz es'=F:=by simpa using h2
     rw[if_neg (fun h=>h2 h.2.1)];simp[h2']
   .have h1':(a==sz)=F:=by simpa using h1
    rw[if_neg (fun h=>h1 h.1)];simp[h1']
def A4x{rs:Rows}{es:J (J D)}:appSrc rs (.v (.sc (.dat (.sl es))))=O es:=rfl
def A4y{rs:Rows}:appSrc rs (.v (.sc .nil))=O []:=rfl
def A4z{rs:Rows}{id:zC}:appSrc rs (.v (.sc (.own id)))=(A1 rs id).map fun p=>p.2:=by
 simp only[appSrc,toD0];cases A1 rs id<;>rfl
def A0u{α:Type}{f:α->J D}{a b:J α}:zI f a++zI f b=zI f (a++b):=List.map_append.symm
def Ff(M:St)(n:zC):I Opd->I zA
 | none=>O n
 | some x=>Cb (M.val x)
def Io(n:zC):I zA->I zA->I zA->I (zC × zC)
 | some m,O h,O l=>bnd m h l n
 | _,_,_=>Z
def TM{lo hi mx:I Opd}{n:zC}:Ea M lo hi mx n=Io n (Ff M n mx) (Ff M n hi) (match lo with | none=>O 0 | some x=>Cb (M.val x)):=by
 cases mx<;>cases hi<;>cases lo<;>(simp only[Ea,Io,Ff]; first | rfl | (split<;>simp_all[Io,bnd]))
def Qf(M:St):I Opd->I zA
 | none=>O 0
 | some x=>Cb (M.val x)
def A4g{α:Type}{sz:zC}{lo hi mx:I Opd}{xs:J α}{row:α->J D} [Row row sz]:Ez M sz (.v (.sc (.dat (.sl (zI row xs))))) lo hi mx=(Io xs.length (Ff M xs.length mx) (Ff M xs.length hi) (Qf M lo)).map fun p=> .v (.sc (.dat (.sl (zI row ((xs.drop p.1).take (p.2 - p.1)))))):=by
 have h:(zI row xs).all (fun d=>d.length==sz)=T:=Y4 (Row.len (row:=row)) xs;simp only[Ez,h,Row.pos row (sz:=sz),decide_true,yJ,if_true,yE,TM];cases lo<;>simp[Qf,List.map_drop,List.map_take]
def A46{lo hi:I Opd}{s:J zD}:I5 M (.v (.sc (.dat (.str s)))) lo hi=(Io s.length (Ff M s.length Z) (Ff M s.length hi) (Qf M lo)).map fun p=> .v (.sc (.dat (.str ((s.drop p.1).take (p.2 - p.1))))):=by
 simp only[I5,TM];cases lo<;>rfl
def A17{n:zC}:Ff M n Z=O (n:zA):=rfl
def A18{n:zC}{x:Opd}:Ff M n (O x)=Cb (M.val x):=rfl
def A15:Qf M Z=O 0:=rfl
def A16{x:Opd}:Qf M (O x)=Cb (M.val x):=rfl
def nI{kd:IntKind}{i:zA}:Cb (.v (.sc (.dat (.int kd i))))=O i:=rfl
def oJ{n:zC}{m h l:zA}:Io n (O m) (O h) (O l)=bnd m h l n:=rfl
def A5m{x y:J zD}:I6 .add x y=bif FF x.length y.length then O (.str (x++y)) else Z:=by
 simp only[I6,FF];by_cases h:x.length+y.length<=4611686018427387904
 .simp[h]
 .simp[h]
def xZ{k:IntKind}{x y:zA}:AX .and k x y=O (.int k (Bl .and k x y)):=rfl
def xi{k:IntKind}{x y:zA}:AX .or k x y=O (.int k (Bl .or k x y)):=rfl
def xu{k:IntKind}{x y:zA}:AX .xor k x y=O (.int k (Bl .xor k x y)):=rfl
def nj:(T==T)=T:=rfl
def ni:(T==F)=F:=rfl
def ng:(F==T)=F:=rfl
def nf:(F==F)=T:=rfl
def mp{b:zB}:(F&&b)=F:=rfl
end
def dD{α:Type}(k:zC):I α->J (zC × α)->J (zC × α)
 | some v,r=>(k,v)::r
 | none,r=>r
def A2m{α:Type}{l:J (zC × α)}:Cr l []= []:=rfl
def A2l{α:Type}{l:J (zC × α)}{k:zC}{ks:J zC}:Cr l (k::ks)=dD k (A1 l k) (Cr l ks):=by
 show(match A1 l k with | some v=>_ | none=>_)=_
 cases A1 l k<;>rfl
def A2k{α:Type}{k:zC}{v:α}{r:J (zC × α)}:dD k (O v) r=(k,v)::r:=rfl
def yb{env bx rows ks bs rs}:(St.mk env bx rows).kept ks bs rs=⟨Cr env ks,Cr bx bs,Cr rows rs⟩:=rfl
def vF{P:Program}{k:J Fr}{Q:Xl->St->Prop}{M:St}{its:J AItem}{ks bs rs:J zC}:go P (.ops ((Z,.keep ks bs rs)::its)::k) Q .normal (O M)=go P (.ops its::k) Q .normal (O (M.kept ks bs rs)):=Bd rfl
def A2n{b:zB}{x y:AV}:MG (.v (.sc (.dat (.bool b)))) x y=O (bif b then x else y):=rfl
def nd{g x y:zB}:KP g (.v (.sc (.dat (.bool x)))) (.v (.sc (.dat (.bool y))))=O (.v (.sc (.dat (.bool (bif g then !(x==y) else x==y))))):=rfl
def A1e{m:zB}{k:IntKind}{x y:zA}:Kj m (.v (.sc (.dat (.int k x)))) (.v (.sc (.dat (.int k y))))=O (.v (.sc (.dat (.int k (bif m then(if x<y then y else x) else(if y<x then y else x)))))):=by simp[Kj]
def A6z{k:IntKind}{x:zA}:KC .neg (.v (.sc (.dat (.int k x))))=O (.v (.sc (.dat (.int k (k.wrap (0 - x)))))):=rfl
def tH{rs:Rows}{off id o:zC}:CA rs off (.v (.sc (.pb id o)))=O (.v (.sc (.pb id (o+off)))):=rfl
def zy{rs:Rows}{id:zC}:Et rs (.v (.sc (.own id)))=(A1 rs id).map fun p=> .v (.sc (.dat (.int .i64 p.2.length))):=by
 show(match A1 rs id with | some (_,es)=>_ | none=>_)=_
 cases A1 rs id<;>rfl
def xJ{k:zC}:Gt k []= []:=rfl
def xI{k:zC}{d:DV}{ds:J DV}:Gt k (d::ds)=(k,d.av)::Gt (k+1) ds:=rfl
def xL{ds:J DV}:St.init ds=⟨Gt 0 ds,[],[]⟩:=rfl
def rY{d:D}:DV.av (.sc d)= .v (.sc (.dat d)):=rfl
def rX{ds:J D}:DV.av (.ag ds)= .v (.ag (ds.map .dat)):=rfl
def A0k{f:AC->AC}:zI (V1.map f) []= []:=rfl
def A0j{f:AC->AC}{x:V1}{l:J V1}:zI (V1.map f) (x::l)=x.map f::zI (V1.map f) l:=rfl
def yx{f:AC->AC}:zI (fun p:zC × AV=>(p.1,p.2.map f)) []= []:=rfl
def yw{f:AC->AC}{k:zC}{v:AV}{l:J (zC × AV)}:zI (fun p:zC × AV=>(p.1,p.2.map f)) ((k,v)::l)=(k,v.map f)::zI (fun p:zC × AV=>(p.1,p.2.map f)) l:=rfl
def oI{f:AC->AC}:zI (fun p:zC × J AC=>(p.1,p.2.map f)) []= []:=rfl
def oH{f:AC->AC}{k:zC}{v:J AC}{l:J (zC × J AC)}:zI (fun p:zC × J AC=>(p.1,p.2.map f)) ((k,v)::l)=(k,v.map f)::zI (fun p:zC × J AC=>(p.1,p.2.map f)) l:=rfl
def ot{f:AC->AC}:zI f ([]:J AC)= []:=rfl
def oq{f:AC->AC}{c:AC}{l:J AC}:zI f (c::l)=f c::zI f l:=rfl
def A0i{α β:Type}{f:α->β}{l:J α}:(zI f l).length=l.length:=yE ..
def oY{c:AC}:V1.cells (.sc c)= [c]:=rfl
def oU{cs:J AC}:V1.cells (.ag cs)=cs:=rfl
def A0v{f:AC->AC}{env bx rows}:(St.mk env bx rows).map f=⟨env.map fun p=>(p.1,p.2.map f),bx.map fun p=>(p.1,p.2.map f),rows⟩:=rfl
def nV{f:AC->AC}{c:AC}:AV.map f (.v (.sc c))= .v (.sc (f c)):=rfl
def nU{f:AC->AC}{cs:J AC}:AV.map f (.v (.ag cs))= .v (.ag (cs.map f)):=rfl
def nX{f:AC->AC}:AV.map f .undef= .undef:=rfl
def nT{f:AC->AC}:AV.map f .no= .no:=rfl
def nW{f:AC->AC}{l:J V1}:AV.map f (.tup l)= .tup (l.map (V1.map f)):=rfl
def A67{f:AC->AC}{c:AC}:V1.map f (.sc c)= .sc (f c):=rfl
def A66{f:AC->AC}{cs:J AC}:V1.map f (.ag cs)= .ag (cs.map f):=rfl
def yg{id:zC}{d:D}:AC.kill id (.dat d)= .dat d:=rfl
def yk{id:zC}:AC.kill id .nil= .nil:=rfl
def yp{id:zC}:AC.kill id .undef= .undef:=rfl
def yl{id i:zC}:AC.kill id (.own i)=bif i==id then .undef else .own i:=rfl
def yn{id i a b:zC}:AC.kill id (.osub i a b)=bif i==id then .undef else .osub i a b:=rfl
def yh{id i a b:zC}:AC.kill id (.pe i a b)=bif i==id then .undef else .pe i a b:=rfl
def ye{id i a:zC}:AC.kill id (.pb i a)= .pb i a:=rfl
def yf{id f:zC}{is:J zC}:AC.kill id (.clo f is)= .clo f is:=rfl
def th{id:zC}{es:J (J D)}{d:D}:AC.frz id es (.dat d)= .dat d:=rfl
def tl{id:zC}{es:J (J D)}:AC.frz id es .nil= .nil:=rfl
def tq{id:zC}{es:J (J D)}:AC.frz id es .undef= .undef:=rfl
def tm{id i:zC}{es:J (J D)}:AC.frz id es (.own i)=bif i==id then .dat (.sl es) else .own i:=rfl
def tp{id i a b:zC}{es:J (J D)}:AC.frz id es (.osub i a b)=bif i==id then .undef else .osub i a b:=rfl
def ti{id i a b:zC}{es:J (J D)}:AC.frz id es (.pe i a b)=bif i==id then .undef else .pe i a b:=rfl
def td{id i a:zC}{es:J (J D)}:AC.frz id es (.pb i a)= .pb i a:=rfl
def te{id f:zC}{es:J (J D)}{is:J zC}:AC.frz id es (.clo f is)= .clo f is:=rfl
def uv{P:Program}{k:J Fr}{Q:Xl->St->Prop}{M:St}{its:J AItem}{id sz:zC}{es:J (J D)}(hf:A1 M.rows id=O (sz,es))(H:go P (.ops its::k) Q .normal (O {(M.map (AC.frz id es)) with rows:=erase M.rows [id] }))(h0:(id / 99999999999==0)=T:=by rfl) :
  go P (.ops ((Z,.frz id)::its)::k) Q .normal (O M):=by
 rw[uu];simp only[St.step,hf,h0,kA,yR,if_false];exact H
def Gp{P:Program}{k:J Fr}{Q:Xl->St->Prop}{M:St}{its:J AItem}{b j id sz:zC}{cs cs':J AC}(h1:M.has id=F)(h2:A1 M.bx b=O cs)(h3:cs[j]?=O .nil)(h4:cs.set j (.own id)=cs')
  (H:go P (.ops its::k) Q .normal (O {M with bx:=put M.bx b cs',rows:=put M.rows id (sz,[]) })) (h0:(id / 99999999999==0)=T:=by rfl):go P (.ops ((Z,.ownb b j id sz)::its)::k) Q .normal (O M):=by
 rw[vR];subst h4;simp only[St.step,h1,h2,h3,h0,kA,Bool.or_self,yR,if_false];exact H
def sv{α:Type}{ks:J zC}:erase ([]:J (zC × α)) ks= []:=rfl
def sw{α:Type}{k n:zC}{v:α}{r:J (zC × α)}:erase ((k,v)::r) [n]=bif k==n then erase r [n] else(k,v)::erase r [n]:=by
 by_cases h:k=n
 .simp[erase,h]
 .have h':(k==n)=F:=by simpa using h
  simp[erase,h,h']
def A3i{ts:J RV}{rs:J R1}{M:St}:A5 ts rs .ret M=(OutVs M ts rs/\Fc (D4 M ts rs)=T):=rfl
def A3h{ts:J RV}{rs:J R1}{M:St}:A5 ts rs .normal M=(OutVs M ts rs/\Fc (D4 M ts rs)=T):=rfl
def A2e{M:St}{t:RV}{ts:J RV}{r:R1}{rs:J R1}:OutVs M (t::ts) (r::rs)=(QR M.rows (ME M t) r/\OutVs M ts rs):=rfl
def A2d{M:St}{t:RV}{ts:J RV}{r:R1}{rs:J R1}:D4 M (t::ts) (r::rs)=Vt (ME M t) r++D4 M ts rs:=rfl
def A2c{M:St}{a n:zC}{g:zB}:ME M (.c a g n)=(CS M g n (M.get a)).getD .undef:=rfl
def Qq:=zF @A3i (zF @A3h (zF @A2e (zF @A2d @A2c)))
set_option maxRecDepth 4000 in
def A3u:=zF @vO (zF @vM (zF @vg (zF @vY (zF @ui (zF @uq (zF @vf (zF @uU (zF @uj (zF @vd (zF @ub (zF @vX (zF @vW (zF @vT (zF @vV (zF @uQ (zF @uT (zF @vQ (zF @uh (zF @dL (zF @vC (zF @vB (zF @uz (zF @uy (zF @ux (zF @tV (zF @tU (zF @A21 (zF @A20 (zF @A69 (zF @A68 (zF @uE (zF @A4a (zF @getD_some (zF @getD_none (zF @map_some (zF @map_none (zF @A4i (zF @zz (zF @A31 (zF @A30 (zF @zw (zF @ox (zF @nu (zF @oC (zF @xY (zF @xr (zF @xg (zF @xj (zF @xk (zF @xb (zF @xh (zF @xf (zF @xe (zF @xd (zF @xc (zF @A5n (zF @A5o (zF @A60 (zF @wg (zF @xw (zF @tQ (zF @oV (zF @ov (zF @ou (zF @vL (zF @vP (zF @vH (zF @vN (zF @uO (zF @uN (zF @vo (zF @uc (zF @vh (zF @vk (zF @um (zF @uo (zF @vD (zF @vE (zF @uk (zF @vG (zF @ve (zF @vj (zF @vK (zF @vI (zF @vl (zF @uL (zF @uR (zF @xU (zF @xM (zF @xN (zF @xR (zF @xQ (zF @A9o (zF @A9n (zF @xX (zF @xV (zF @xW (zF @xT (zF @xP (zF @xO (zF @A3k (zF @A3l (zF @A3n (zF @oX (zF @oT (zF @A3p (zF @A3r (zF @A3q (zF @A2x (zF @A2w (zF @nE (zF @nD (zF @oK (zF @nh (zF @pg (zF @pi (zF @pN (zF @pX (zF @ph (zF @pJ (zF @pH (zF @pr (zF @pO (zF @pk (zF @pp (zF @pQ (zF @pR (zF @pT (zF @pF (zF @pU (zF @pP (zF @pV (zF @pj (zF @pm (zF @pf (zF @pY (zF @pK (zF @pG (zF @pM (zF @pc (zF @qK (zF @qM (zF @px (zF @qG (zF @qL (zF @pw (zF @pv (zF @qS (zF @py (zF @qO (zF @qQ (zF @qA (zF @qB (zF @qD (zF @pu (zF @qE (zF @pz (zF @qF (zF @qN (zF @qP (zF @qJ (zF @qH (zF @qU (zF @qT (zF @qY (zF @qX (zF @qW (zF @A0e (zF @A00 (zF @A0z (zF @ya (zF @xz (zF @xy (zF @A59 (zF @A62 (zF @nL (zF @nM (zF @nO (zF @nP (zF @nQ (zF @nK (zF @nJ (zF @A1r (zF @A1s (zF @mw (zF @ut (zF @uM (zF @rK (zF @rN (zF @qr (zF @rE (zF @rM (zF @qo (zF @qn (zF @rV (zF @qv (zF @rP (zF @rR (zF @qx (zF @qy (zF @rA (zF @qk (zF @rC (zF @qw (zF @rD (zF @rO (zF @rQ (zF @rJ (zF @rF (zF @qp (zF @qm (zF @qq (zF @rH (zF @qt (zF @qu (zF @eR (zF @eT (zF @eN (zF @eS (zF @eC (zF @eB (zF @ee (zF @eF (zF @eW (zF @eY (zF @eH (zF @eI (zF @eK (zF @eL (zF @eG (zF @eM (zF @eV (zF @eX (zF @eQ (zF @eO (zF @A2m (zF @A2l (zF @A2k (zF @yb (zF @vF (zF @A2n (zF @nd (zF @A1e (zF @A6z (zF @tH (zF @zy (zF @xJ (zF @xI (zF @xL (zF @rY (zF @rX (zF @A0i (zF @oY (zF @oU (zF @A0v (zF @nV (zF @nU (zF @nX (zF @nW (zF @A67 (zF @A66 (zF @yg (zF @yk (zF @yp (zF @yl (zF @yn (zF @yh (zF @ye (zF @yf (zF @th (zF @tl (zF @tq (zF @tm (zF @tp (zF @ti (zF @td (zF @te (zF @sv (zF @sw (zF @qi (zF @qj (zF @A57 (zF @A58 (zF @zt (zF @zu (zF @zp (zF @zq (zF @oZ (zF @A36 (zF @A38 (zF @A39 (zF @KR (zF @oD (zF @get_map (zF @uG (zF @uF (zF @qa (zF @qZ (zF @wb (zF @wa (zF @A0m (zF @A0o (zF @A0n (zF @tJ (zF @tI (zF @tF (zF @A1l (zF @A1m (zF @A7d (zF @A7c (zF (zF @A09 (zF @A03 (zF @A04 (zF @A02 (zF @A07 @A06))))) (zF @A08 (zF @oG (zF @oF (zF @oE (zF @uP (zF @A47 (zF @A5g (zF @A3s (zF @nF (zF @A4x (zF @A4y (zF @A4z (zF @A0u (zF @A4g (zF @A46 (zF @A17 (zF @A18 (zF @A15 (zF @A16 (zF @nI (zF @oJ (zF @A5m (zF @xZ (zF @xi (zF @xu (zF @nj (zF @ni (zF @ng (zF @nf (zF @mp (zF @Sv (zF @dQ (zF @Yr (zF @A22 (zF @A23 (zF @A25 (zF @A24 (zF @A0k (zF @A0j (zF @yx (zF @yw (zF @oI (zF @oH (zF @ot (zF @oq (zF @qV (zF @uw @nT))))))))))))))))))))))))))))))))))))))))))))))))))))))))))))))))))))))))))))))))))))))))))))))))))))))))))))))))))))))))))))))))))))))))))))))))))))))))))))))))))))))))))))))))))))))))))))))))))))))))))))))))))))))))))))))))))))))))))))))))))))))))))))))))))))))))))))))))))))))))))))))))))))))))))))))))))))))))))))))))))))))))))))))))))))))))))))))))))))))
def Dj{P:Program}(hm:P.follows .mixedOrders=T){f:FuncId}{c:Xf}{ts:J RV}{nt:zC}{xs:J XV}{R0 R1:Ao}{r:D}{ps:J (zC × zC)}{M:St}(he:AF P f=O (c.strip,ts,nt))(hl:zX xs.length nt=T)(hlen:R1.length=R0.length)(hrf:r.flat=T)(hR1:DJ R1)(hσ:St.initX xs R0=M)
  (h:go P [.code c] (CZ ts r R1 ps) .normal (O M)):FCx P f xs R0 R1 r:=iS hm he (zM hl) hlen hrf hR1 (Kb (hσ▸h))
def BF:DJ []:=fun p hp=>by simp at hp
def AW{α:Type}{row:α->J D} [FlatRow row]{sz:zC}{xs:J α}{R:Ao}(h:DJ R):DJ ((sz,zI row xs)::R):=fun p hp=>by
 rcases zR.1 hp with rfl|hp
 .intro e he d hd;obtain⟨x,_,rfl⟩:=zV.1 he;exact FlatRow.flat x d hd
 .exact h p hp
def E0:DZ [] []=T:=rfl
def Cl{α β:Type}{row:α->J D}{row':β->J D}{z:zC}{xs:J α}{ys:J β}{R R':Ao}(hl:ys.length=xs.length)(h:DZ R R'=T):DZ ((z,zI row xs)::R) ((z,zI row' ys)::R')=T:=by
 simp[DZ,hl,h]
def xS{env:J (zC × AV)}{bx:J (zC × J AC)}{rows:Rows}{d:zC}{ids:J zC}{R1:Ao}{r:D}:St.instX ⟨env,bx,rows⟩ d ids R1 r=⟨put env d (.v (.sc (.dat r))),bx,CU rows ids R1⟩:=rfl
def A2y{rs:Rows}{id:zC}{ids:J zC}{r:zC × J (J D)}{R:Ao}:CU rs (id::ids) (r::R)=CU (put rs id r) ids R:=rfl
def A2z{rs:Rows}:CU rs [] []=rs:=rfl
def Yg{N:J zC}:AV.avoids N (.v (.sc .z))=T:=by simp[AV.avoids,AV.cells,V1.cells,AC.avoids,AC.uses]
def B60{P:Program}{k:J Fr}{Q:Xl->St->Prop}{M:St}{N:J zC}{d:zC}{its:J AY}:go P (.dops ((O N,Z,.zsl d)::its)::k) Q .normal (O M)=go P (.dops its::k) Q .normal (O (M.set d (.v (.sc .z)))):=by
 rw[BA rfl];show go P _ Q .normal (bif (((M.less N).set d (.v (.sc .z))).get d).avoids N then O (M.set d (((M.less N).set d (.v (.sc .z))).get d)) else Z)=_
 rw[St.get_set_same,Yg];rfl
def nS{N:J zC}:AV.avoids N (.tup [])=T:=rfl
def nR{N:J zC}{x:V1}{l:J V1}:AV.avoids N (.tup (x::l))=((AV.v x).avoids N&&(AV.tup l).avoids N):=by simp[AV.avoids,AV.cells]
def A1b{t:TypeId}{d:D}:HW t (.v (.sc (.dat d)))=O (.v (.sc (.dat (.ifc t d)))):=rfl
def A6a{t u:TypeId}{zc:AC}{d:D}:MI t zc (.v (.sc (.dat (.ifc u d))))=bif u==t then O (.tup [.sc (.dat d),.sc (.dat (.bool T))]) else O (.tup [.sc zc,.sc (.dat (.bool F))]):=rfl
def tv{id:zC}{ds:J D}{d:D}:AC.frzb id ds (.dat d)= .dat d:=rfl
def tx{id:zC}{ds:J D}:AC.frzb id ds .nil= .nil:=rfl
def uB{id:zC}{ds:J D}:AC.frzb id ds .undef= .undef:=rfl
def tz{id i:zC}{ds:J D}:AC.frzb id ds (.own i)= .own i:=rfl
def uA{id i a b:zC}{ds:J D}:AC.frzb id ds (.osub i a b)= .osub i a b:=rfl
def tw{id i a b:zC}{ds:J D}:AC.frzb id ds (.pe i a b)= .pe i a b:=rfl
def tu{id i a:zC}{ds:J D}:AC.frzb id ds (.pb i a)=bif i==id then .dat (.pd (ds.drop a)) else .pb i a:=rfl
def A3b{a b:zC}{d:D}:AC.ren a b (.dat d)= .dat d:=rfl
def A3d{a b:zC}:AC.ren a b .nil= .nil:=rfl
def A3g{a b:zC}:AC.ren a b .undef= .undef:=rfl
def A3e{a b i:zC}:AC.ren a b (.own i)= .own (bif i==a then b else i):=rfl
def A3f{a b i x y:zC}:AC.ren a b (.osub i x y)= .osub (bif i==a then b else i) x y:=rfl
def A3c{a b i x y:zC}:AC.ren a b (.pe i x y)= .pe (bif i==a then b else i) x y:=rfl
def A29{a b i x:zC}:AC.ren a b (.pb i x)= .pb i x:=rfl
def vb{P:Program}{k:J Fr}{Q:Xl->St->Prop}{M:St}{its:J AItem}{a b:zC}{r:zC × J (J D)}(h1:M.has b=F)(hf:A1 M.rows a=O r)(H:go P (.ops its::k) Q .normal (O {(M.map (AC.ren a b)) with rows:=put (erase M.rows [a]) b r }))
  (h0:(a / 99999999999==0)=T:=by rfl) (h2:(b / 99999999999==0)=T:=by rfl):go P (.ops ((Z,.ren a b)::its)::k) Q .normal (O M):=by
 rw[vZ];simp only[St.step,h1,hf,h0,h2,yJ,kA,Bool.or_self,yR,if_false];exact H
def A1a{t:TypeId}{a b:D}:HW t (.v (.ag [.dat a,.dat b]))=O (.v (.sc (.dat (.ifs t [a,b])))):=rfl
def FCq(P:Program)(f:FuncId)(ds:J DV)(rs:J R1):I D->Prop
 | none=>FC P f ds rs
 | some d=>MR P f ds d
def FCq.none{P:Program}{f:FuncId}{ds:J DV}{rs:J R1}{pd:I D}(h:FCq P f ds rs pd)(hp:pd=Z):FC P f ds rs:=by subst hp; exact h
def FCq.some{P:Program}{f:FuncId}{ds:J DV}{rs:J R1}{pd:I D}{d:D}(h:FCq P f ds rs pd)(hp:pd=O d):MR P f ds d:=by subst hp; exact h
def A1c{t:TypeId}{id:zC}:HW t (.v (.sc (.pb id 0)))=O (.v (.sc (.ipb t id))):=rfl
def yi{id i:zC}{t:TypeId}:AC.kill id (.ipb t i)= .ipb t i:=rfl
def tj{id i:zC}{t:TypeId}{es:J (J D)}:AC.frz id es (.ipb t i)= .ipb t i:=rfl
def uC{g:zB}{ks:J FK}{cs ds:J AC}:Md g ks (.v (.ag cs)) (.v (.ag ds))=(Bu ks cs ds).map fun b=> .v (.sc (.dat (.bool (bif g then !b else b)))):=rfl
def ss:Bu [] [] []=O T:=rfl
def sr{k:IntKind}{x y:zA}{ks:J FK}{cs ds:J AC}:Bu (.i::ks) (.dat (.int k x)::cs) (.dat (.int k y)::ds)=(Bu ks cs ds).map fun b=>(x==y)&&b:=if_pos rfl
def sj{x y:zB}{ks:J FK}{cs ds:J AC}:Bu (.b::ks) (.dat (.bool x)::cs) (.dat (.bool y)::ds)=(Bu ks cs ds).map fun b=>(x==y)&&b:=rfl
def su{x y:J zD}{ks:J FK}{cs ds:J AC}:Bu (.s::ks) (.dat (.str x)::cs) (.dat (.str y)::ds)=(Bu ks cs ds).map fun b=>(x==y)&&b:=rfl
def A3w:=zF @Yg (zF @B60 (zF @nS (zF @nR (zF @xS (zF @A2y (zF @A2z (zF @vJ (zF @vn (zF @eP (zF @eZ (zF @pZ (zF @qI (zF @rG (zF @pq (zF @qR (zF @rT (zF @A1b (zF @A6a (zF @tv (zF @tx (zF @uB (zF @tz (zF @uA (zF @tw (zF @tu (zF @A1c (zF @yi (zF @tj (zF @A3b (zF @A3d (zF @A3g (zF @A3e (zF @A3f (zF @A3c (zF @A29 (zF @vS (zF @uX (zF @vU (zF @uS (zF @A1a (zF @eJ (zF @vA (zF @pS (zF @qC (zF @qz (zF @uC (zF @ss (zF @sr (zF @sj @su)))))))))))))))))))))))))))))))))))))))))))))))))
end
section
def Cn(P:Program):zC->TypeId->J D->Prop
 | 0,_,_=>False
 | n+1,t,ds=>match P.underlying t with
  | some .bool=>∃b,ds= [.bool b]
  | some (.int k)=>∃i,ds= [.int k i]
  | some .string=>∃s,ds= [.str s]
  | some (.slice e)=>∃es,ds= [.sl es]/\∀r∈es,Cn P n e r
  | some (.struct fs)=>ds.length=P.cellsOf t/\∀f∈fs.toList,Cn P n f.type ((ds.drop f.offset).take (P.cellsOf f.type))
  | _=>False
def De(P:Program):zC->J Field->zC->zB
 | off,[],n=>off==n
 | off,f::fs,n=>(f.offset==off)&&De P (off+P.cellsOf f.type) fs n
def GG(P:Program):zC->TypeId->zB
 | 0,_=>F
 | n+1,t=>match P.underlying t with
  | some .bool | some (.int _) | some .string=>decide (P.cellsOf t=1)
  | some (.slice e)=>GG P n e&&(decide (0<P.cellsOf e)&&decide (P.cellsOf t=1))
  | some (.struct fs)=>De P 0 fs.toList (P.cellsOf t)&&fs.toList.all fun f=>GG P n f.type
  | _=>F
def Reps.of_take{h:A6}:∀{ds:J D} {vs:J Value} {n:zC},Reps h ds (vs.take n)->Reps h ds vs
 | _,vs,n,H=>by
  have:=H.more (vs.drop n);rwa [yL] at this
section
variable {H : Type} {enc : TypeId × Value -> H} {P : Program} {w : World} {sp : zC -> zB} {held : zB}
def Yu{a:Addr}{n:zC}{cs:J Value}(hc:w.cells? 0 a n=O cs)(hn:0<n) :
  ∃C:J Value,B7 w a.block C/\a.spot=Z/\cs=(C.drop a.off).take n/\cs.length=n:=by
 obtain⟨_,hl,hi⟩:=World.cells?_some hc;have h0:=hi 0 hn;have e0:a.add 0=a:=by simp[Addr.add]
 rw[e0] at h0
 have hne:cs[0]?≠Z:=by
  rw[zH a9]; simp
 unfold World.cell? at h0
 split at h0
 .rename_i c t fr hb
  split at h0
  .rw[<- h0] at hne; exact absurd rfl hne
  .rename_i hs
   have hs':a.spot=Z:=by simpa using hs
   refine⟨c.toList,⟨c,t,fr,hb,zE⟩,hs',?_,hl⟩
   have hci:∀i,i<n->cs[i]?=c[a.off+i]?:=by
    intro i hin;rw[<- hi i hin];have eb:(a.add i).block=a.block:=by unfold Addr.add; split<;>rfl
    have eo:(a.add i).off=a.off+i:=by
     unfold Addr.add;split
     .rename_i e; subst e; rfl
     .rfl
    have es:(a.add i).spot=Z:=by
     unfold Addr.add;split
     .exact hs'
     .rfl
    unfold World.cell?;rw[eb,hb];simp[es,eo]
   apply List.ext_getElem?
   intro i;by_cases hin:i<n
   .rw[hci i hin,List.getElem?_take];simp[hin]
   .rw[yC a9,yC];simp;omega
 .rw[<- h0] at hne; exact absurd rfl hne
def dZ{n sz:zC}{e:TypeId}{C:J Value}{off:zC}(hsz:0<sz):∀(len k:zC),(∀i,i<len->∃ds,Reps (B7 w) ds ((C.drop (off+(k+i)*sz)).take sz)/\ds.length=sz/\Cn P n e ds)->
  ∃es:J (J D),es.length=len/\RepRows (B7 w) sz es (C.drop (off+k*sz))/\∀r∈es,Cn P n e r
 | 0,k,_=>⟨[],rfl,.nil,d0⟩
 | len+1,k,h=>by
  obtain⟨ds,h1,h2,h3⟩:=h 0 a9
  obtain⟨es,k1,k2,k3⟩:=dZ hsz len (k+1) (fun i hi=>by
   have:=h (i+1) a9;rwa [show k+(i+1)=k+1+i by omega] at this)
  refine⟨ds::es,by simp[k1],.cons h2 ?_ ?_,?_⟩
  .have:=h1.of_take;simpa using this
  .rw[yY];rw[show off+k*sz+sz=off+(k+1)*sz by rw[Nat.add_mul]; omega];exact k2
  .intro r hr;rcases zR.1 hr with rfl|hr
   .exact h3
   .exact k3 r hr
def cJ{α β:Type}{f:α->I β}:∀{l:J α} {r:J β},l.mapM f=O r->∀x∈l,∃y,f x=O y:=by
 intro l
 induction l with
 | nil=>intro r _ x hx; simp at hx
 | cons a l ih=>
  intro r h x hx;simp only[yF,yO,yW,zU] at h;obtain⟨y,hy,ys,hys,_⟩:=h;rcases zR.1 hx with rfl|hx
  .exact⟨y,hy⟩
  .exact ih hys x hx
def dT{n fuel:zC}{cs:J Value}{N:zC}(hN:cs.length=N)(ih:∀t' cs' x',GG P n t'=T->DataW.trod enc P w 0 sp held fuel t' cs'=O x'->∃ds,Reps (B7 w) ds cs'/\ds.length=cs'.length/\cs'.length=P.cellsOf t'/\Cn P n t' ds) :
  ∀(fs:J Field) (off:zC),De P off fs N=T->(fs.all fun f=>GG P n f.type)=T->(∀f∈fs,∃y,DataW.trod enc P w 0 sp held fuel f.type ((cs.drop f.offset).take (P.cellsOf f.type))=O y)->
   ∃ds,Reps (B7 w) ds (cs.drop off)/\ds.length=(cs.drop off).length/\∀f∈fs,off<=f.offset/\Cn P n f.type ((ds.drop (f.offset - off)).take (P.cellsOf f.type))
 | [],off,ht,_,_=>by
  have:off=N:=by simpa[De] using ht
  subst this;exact⟨[],.nil,by simp[hN],d0⟩
 | f::fs,off,ht,hok,hr=>by
  simp only[De,zQ,beq_iff_eq] at ht
  obtain⟨h1,h2⟩:=ht;simp only[yD,zQ] at hok
  obtain⟨y,hy⟩:=hr f d0;obtain⟨d1,r1,l1,c1,t1⟩:=ih _ _ _ hok.1 hy;obtain⟨d2,r2,l2,t2⟩:=dT hN ih fs _ h2 hok.2 (fun g hg=>hr g (by simp[hg]));rw[h1] at r1 l1 c1
  have e:cs.drop off=(cs.drop off).take (P.cellsOf f.type)++cs.drop (off+P.cellsOf f.type):=by
   conv=>lhs; rw[<- yL (P.cellsOf f.type) (cs.drop off),yY]
  refine⟨d1++d2,?_,?_,?_⟩
  .rw[e];exact r1.append l1 r2
  .rw[e];simp only[List.length_append];omega
  .intro g hg;rcases zR.1 hg with rfl|hg
   .refine⟨a9,?_⟩;rw[h1,Nat.sub_self,yZ]
    have:(d1++d2).take (P.cellsOf g.type)=d1:=by
     rw[List.take_append_of_le_length a9,List.take_of_length_le a9]
    rw[this];exact t1
   .obtain⟨k1,k2⟩:=t2 g hg;refine⟨a9,?_⟩
    have:(d1++d2).drop (g.offset - off)=d2.drop (g.offset - (off+P.cellsOf f.type)):=by
     rw[List.drop_append];rw[List.drop_eq_nil_of_le a9];rw[List.nil_append];congr 1
     omega
    rw[this];exact k2
def dU :
  ∀(n fuel:zC) (t:TypeId) (cs:J Value) (x:DataW H × J MemPlace),GG P n t=T->DataW.trod enc P w 0 sp held fuel t cs=O x->∃ds,Reps (B7 w) ds cs/\ds.length=cs.length/\cs.length=P.cellsOf t/\Cn P n t ds:=by
 intro n
 induction n with
 | zero=>intro fuel t cs x h; simp[GG] at h
 | succ n ih=>
  intro fuel t cs x hok hr;cases fuel with
  | zero=>simp[DataW.trod] at hr
  | succ fuel=>
   simp only[GG] at hok
   unfold DataW.trod at hr
   cases hu:P.underlying t with
   | none=>rw[hu] at hok; cases hok
   | some u=>
    cases u<;>rw[hu] at hok<;>try (cases hok; done)
    case bool=>
     rw[hu] at hr
     have hok':P.cellsOf t=1:=of_decide_eq_true hok;rcases cs with _|⟨v,_|⟨v2,rest⟩⟩
     .simp at hr
     .cases v<;>simp at hr
      exact⟨[.bool _],.cons .bool .nil,zE,by simp[hok'],by simp[Cn,hu]⟩
     .simp at hr
    case int k=>
     rw[hu] at hr
     have hok':P.cellsOf t=1:=of_decide_eq_true hok;rcases cs with _|⟨v,_|⟨v2,rest⟩⟩
     .simp at hr
     .cases v<;>simp at hr
      obtain⟨⟨rfl,hwf⟩,_⟩:=hr;simp only[Lit.wf,zQ,decide_eq_true_eq] at hwf
      exact⟨[.int _ _],.cons (.int hwf.1 hwf.2) .nil,zE,by simp[hok'],by simp[Cn,hu]⟩
     .simp at hr
    case string=>
     rw[hu] at hr
     have hok':P.cellsOf t=1:=of_decide_eq_true hok;rcases cs with _|⟨v,_|⟨v2,rest⟩⟩
     .simp at hr
     .cases v<;>simp at hr
      rename_i s
      refine⟨[.str s.data.toList],.cons ?_ .nil,zE,by simp[hok'],by simp[Cn,hu]⟩;have:=Rep.str (h:=B7 w) (s:=s.data.toList) (by simpa using hr.1);simpa using this
     .simp at hr
    case slice e=>
     rw[hu] at hr
     simp only[zQ,decide_eq_true_eq] at hok
     obtain⟨hoke,hpos,hone⟩:=hok;rcases cs with _|⟨v,_|⟨v2,rest⟩⟩
     .simp at hr
     .cases v with
      | slice oa len cap=>
       by_cases h0:len=0
       .subst h0;exact⟨[.sl []],.cons .nil .nil,zE,by simp[hone],by simp[Cn,hu]⟩
       .cases oa with
        | none=>
         cases len with
         | zero=>exact absurd rfl h0
         | succ len=>simp at hr
        | some a=>
         simp only at hr
         split at hr
         .rename_i hc
          obtain⟨_,h1,h2⟩:=hc;simp only[zU] at hr
          obtain⟨elems,he,_⟩:=hr
          have hall:∀i,i<len->∃ci y,w.cells? 0 (a.add (i*P.cellsOf e)) (P.cellsOf e)=O ci/\DataW.trod enc P w 0 sp held fuel e ci=O y:=by
           intro i hi;obtain⟨y,hy⟩:=cJ he i (by simp[hi]);simp only[zU] at hy
           obtain⟨ci,h3,h4⟩:=hy;exact⟨ci,y,h3,h4⟩
          obtain⟨c0,y0,g0,_⟩:=hall 0 a9;rw[Nat.zero_mul,show a.add 0=a by simp[Addr.add]] at g0
          obtain⟨C,hC,hs,_,_⟩:=Yu g0 hpos
          have hrow:∀i,i<len->∃ds,Reps (B7 w) ds ((C.drop (a.off+(0+i)*P.cellsOf e)).take (P.cellsOf e))/\ds.length=P.cellsOf e/\Cn P n e ds:=by
           intro i hi;obtain⟨ci,y,g1,g2⟩:=hall i hi;obtain⟨C',hC',_,hci,hl⟩:=Yu g1 hpos;have eb:(a.add (i*P.cellsOf e)).block=a.block:=by unfold Addr.add; split<;>rfl
           have eo:(a.add (i*P.cellsOf e)).off=a.off+i*P.cellsOf e:=by
            unfold Addr.add;split
            .rename_i e'; rw[e']; rfl
            .rfl
           rw[eb] at hC'
           rw[eo] at hci
           obtain⟨c1,t1,f1,q1,q2⟩:=hC;obtain⟨c2,t2,f2,q3,q4⟩:=hC';rw[q1] at q3
           cases q3;have:C'=C:=q4.symm.trans q2;subst this;obtain⟨ds,r1,r2,r3,r4⟩:=ih fuel e ci y hoke g2;refine⟨ds,?_,a9,r4⟩;rw[Nat.zero_add,<- hci];exact r1
          obtain⟨es,k1,k2,k3⟩:=dZ (P:=P) (n:=n) (e:=e) hpos len 0 hrow;rw[Nat.zero_mul,Nat.add_zero] at k2
          refine⟨[.sl es],.cons ?_ .nil,zE,by simp[hone],?_⟩
          .have ea:a=⟨a.block,a.off,Z⟩:=by
            cases a;simp only at hs
            subst hs;rfl
           rw[ea];exact .sl hC hpos k2 k1.symm h1 h2
          .simp only[Cn,hu];exact⟨es,zE,k3⟩
         .cases hr
      | _=>simp at hr
     .simp at hr
    case struct fs=>
     rw[hu] at hr
     simp only[zQ] at hok
     have hr':(if cs.length=P.cellsOf t then(fs.toList.mapM fun f=>DataW.trod enc P w 0 sp held fuel f.type ((cs.drop f.offset).take (P.cellsOf f.type))).map (fun xs=>(DataW.agg (xs.map (·.1)),xs.flatMap (·.2))) else Z)=O x:=hr;split at hr'
     .rename_i hl
      simp only[zG] at hr'
      obtain⟨xs,hx,_⟩:=hr';obtain⟨ds,r1,r2,r3⟩:=dT hl (fun t' cs' x' h1 h2=>ih fuel t' cs' x' h1 h2) fs.toList 0 hok.1 hok.2 (fun f hf=>cJ hx f hf);rw[yZ] at r1 r2
      refine⟨ds,r1,r2,hl,?_⟩;simp only[Cn,hu];refine⟨by rw[<- hl]; exact r2,fun f hf=> ?_⟩;have:=(r3 f hf).2;rwa [yV] at this
     .cases hr'
end
end
section
inductive RT where
 | int (k:IntKind)
 | bool
 | str
 | sl (e:RT)
 | st (fs:J RT)
mutual
def KJ:RT->J D->Prop
 | .int k,ds=>∃i,ds= [.int k i]
 | .bool,ds=>∃b,ds= [.bool b]
 | .str,ds=>∃s,ds= [.str s]
 | .sl e,ds=>∃es,ds= [.sl es]/\∀r∈es,KJ e r
 | .st fs,ds=>Tw fs ds
def Tw:J RT->J D->Prop
 | [],ds=>ds= []
 | f::fs,ds=>∃a b,KJ f a/\Tw fs b/\ds=a++b
end
def GJ(P:Program):zC->TypeId->I RT
 | 0,_=>Z
 | n+1,t=>match P.underlying t with
  | some .bool=>O .bool
  | some (.int k)=>O (.int k)
  | some .string=>O .str
  | some (.slice e)=>(GJ P n e).map .sl
  | some (.struct fs)=>if De P 0 fs.toList (P.cellsOf t)=T then(fs.toList.mapM fun f=>GJ P n f.type).map .st else Z
  | _=>Z
section
variable {P : Program}
def YW{n:zC}(ih:∀t R ds,GJ P n t=O R->Cn P n t ds->KJ R ds):∀(fs:J Field) (off N:zC) (Rs:J RT) (ds:J D),De P off fs N=T->fs.mapM (fun f=>GJ P n f.type)=O Rs->off+ds.length=N->
  (∀f∈fs,Cn P n f.type ((ds.drop (f.offset - off)).take (P.cellsOf f.type))/\off<=f.offset)->Tw Rs ds
 | [],off,N,Rs,ds,ht,hm,hl,_=>by
  have e:off=N:=by simpa[De] using ht
  have e2:Rs= []:=by simpa using hm.symm
  subst e2;exact zL.1 a9
 | f::fs,off,N,Rs,ds,ht,hm,hl,hf=>by
  simp only[De,zQ,beq_iff_eq] at ht
  obtain⟨h1,h2⟩:=ht;simp only[yF,yO,yW,zU] at hm
  obtain⟨R,hR,Rs',hRs,e⟩:=hm;cases e;obtain⟨t0,_⟩:=hf f d0;rw[h1,Nat.sub_self,yZ] at t0
  have hle:P.cellsOf f.type<=ds.length:=by
   have:∀(fs:J Field) (off N:zC),De P off fs N=T->off<=N:=by
    intro fs
    induction fs with
    | nil=>
     intro off N h;have:off=N:=by simpa[De] using h
     omega
    | cons g gs ihg=>
     intro off N h;simp only[De,zQ,beq_iff_eq] at h;have:=ihg _ _ h.2;omega
   have:=this fs _ _ h2;omega
  refine⟨ds.take (P.cellsOf f.type),ds.drop (P.cellsOf f.type),ih _ _ _ hR t0,YW ih fs (off+P.cellsOf f.type) N Rs' _ h2 hRs d3 (fun g hg=> ?_),(yL _ _).symm⟩;obtain⟨k1,_⟩:=hf g (by simp[hg])
  have hge:off+P.cellsOf f.type<=g.offset:=by
   have:∀(fs:J Field) (off N:zC),De P off fs N=T->∀g∈fs,off<=g.offset:=by
    intro fs
    induction fs with
    | nil=>intro off N h g hg; simp at hg
    | cons g' gs ihg=>
     intro off N h g hg;simp only[De,zQ,beq_iff_eq] at h;rcases zR.1 hg with rfl|hg
     .omega
     .have:=ihg _ _ h.2 g hg;omega
   exact this fs _ _ h2 g hg
  refine⟨?_,hge⟩;rw[yY,show P.cellsOf f.type+(g.offset - (off+P.cellsOf f.type))=g.offset - off by omega];exact k1
def fR:∀(n:zC) (t:TypeId) (R:RT) (ds:J D),GJ P n t=O R->Cn P n t ds->KJ R ds:=by
 intro n
 induction n with
 | zero=>intro t R ds h; simp[GJ] at h
 | succ n ih=>
  intro t R ds hr hd;simp only[GJ] at hr
  simp only[Cn] at hd
  cases hu:P.underlying t with
  | none=>rw[hu] at hr; cases hr
  | some u=>
   cases u<;>rw[hu] at hr hd<;>try (cases hr; done)
   case bool=>cases hr; exact hd
   case int k=>cases hr; exact hd
   case string=>cases hr; exact hd
   case slice e=>
    simp only[zG] at hr
    obtain⟨R',h1,rfl⟩:=hr;obtain⟨es,h2,h3⟩:=hd;exact⟨es,h2,fun r hr=>ih _ _ _ h1 (h3 r hr)⟩
   case struct fs=>
    simp only at hr
    split at hr
    .rename_i ht
     simp only[zG] at hr
     obtain⟨Rs,h1,rfl⟩:=hr;obtain⟨hl,hf⟩:=hd;exact YW ih fs.toList 0 _ Rs ds ht h1 (by simpa using hl) (fun f hfm=>⟨by simpa using hf f hfm,yQ _⟩)
    .cases hr
end
class OfTy {α:Type} (R:RT) (row:α->J D):Prop where
 of:∀ds,KJ R ds->∃x,ds=row x
instance:OfTy (.int .i64) rI:=⟨fun _ h=>h⟩
instance:OfTy (.int .u8) r8:=⟨fun _ h=>h⟩
instance:OfTy .bool rB:=⟨fun _ h=>h⟩
instance:OfTy .str rS:=⟨fun _ h=>h⟩
def da{α:Type}{R:RT}{row:α->J D} [OfTy R row]:∀es:J (J D),(∀r∈es,KJ R r)->∃xs:J α,es=xs.map row
 | [],_=>⟨[],rfl⟩
 | r::es,h=>by
  obtain⟨x,rfl⟩:=OfTy.of (row:=row) r (h r d0);obtain⟨xs,rfl⟩:=da (row:=row) es (fun r hr=>h r (by simp[hr]));exact⟨x::xs,zE⟩
instance {α:Type} {R:RT} {row:α->J D} [OfTy R row]:OfTy (.sl R) (rL row):=⟨fun ds h=>by
 obtain⟨es,rfl,h2⟩:=h;obtain⟨xs,rfl⟩:=da (row:=row) es h2;exact⟨xs,zE⟩⟩
section
variable {H : Type} {enc : TypeId × Value -> H} {P : Program} {w : World} {sp : zC -> zB} {held : zB} {ps : J MemPlace}
def arg_ag{α:Type}{R:RT}{row:α->J D} [OfTy R row]{n:zC}{t:TypeId}{v:Value}{d:DataW H}{r:Reach}{b0:zC}(hok:GG P n t=T)(hr:GJ P n t=O R){fs:Array Field}(hu:P.underlying t=O (.struct fs))
  (hval:Value.okWide P w r b0 t v) (h:DataW.Trod enc P w 0 sp held t v d ps):∃x:α,DVRel (B7 w) (.ag (row x)) v:=by
 obtain⟨fuel,h⟩:=h;obtain⟨ds,h1,h2,_,h4⟩:=dU n fuel t _ _ hok h;obtain⟨x,rfl⟩:=OfTy.of (row:=row) ds (fR n t R ds hr h4);unfold Value.okWide at hval
 rw[hu] at hval
 obtain⟨cs,rfl,_,_⟩:=hval;refine⟨x,?_⟩;have e:(Value.agg cs).cells.toList=cs.toList:=rfl;rw[e] at h1 h2
 have:=DVRel.ag h1 h2;simpa using this
def arg_sc{α:Type}{R:RT}{row:α->J D} [OfTy R row]{n:zC}{t:TypeId}{v:Value}{d:DataW H}(hok:GG P n t=T)(hr:GJ P n t=O R)(hv:v.cells= #[v])
  (h:DataW.Trod enc P w 0 sp held t v d ps):∃x:α,∀d,row x= [d]->DVRel (B7 w) (.sc d) v:=by
 obtain⟨fuel,h⟩:=h;obtain⟨ds,h1,h2,_,h4⟩:=dU n fuel t _ _ hok h;obtain⟨x,rfl⟩:=OfTy.of (row:=row) ds (fR n t R ds hr h4);refine⟨x,fun d hd=> ?_⟩;rw[hv,hd] at h1
 cases h1 with
 | cons a _=>exact .sc a
def one_of{t:TypeId}{v:Value}{r:Reach}{b0:zC}(hval:Value.okWide P w r b0 t v)(hu:(match P.underlying t with | some .bool | some (.int _) | some .string | some (.slice _)=>T | _=>F)=T):v.cells= #[v]:=by
 unfold Value.okWide at hval
 unfold Cell.okWide Cell.ok at hval
 cases h:P.underlying t with
 | none=>rw[h] at hu; cases hu
 | some u=>
  rw[h] at hval hu
  cases u<;>first
   | (cases hu; done)
   | (cases v<;>first | rfl | (simp at hval; done) | exact hval.elim)
end
end
def Am{α:Type}(l:J α)(i:zC):ix l (i:zA)=l[i]?:=by simp[ix]
def Af{α:Type}{l:J α}{i:zC}(h:i<l.length):ix l (i:zA)=O l[i]:=by rw[Am,zH h]
def Aj(i n:zC):decide ((i:zA)<(n:zA))=decide (i<n):=by simp[Int.ofNat_lt]
def Au{i n:zC}(h:i<n)(hn:n<=maxLen):IntKind.i64.wrap ((i:zA)+1)=((i+1:zC):zA):=gD h hn
def Cc:bigN=1208925819614629174706176:=by unfold bigN; rfl
def Az:maxLen=9223372036854775807:=rfl
def BG{n:zC}(h:n<=maxLen):n<bigN:=by rw[Cc]; rw[Az] at h; omega
def Ks{R:Type}(L:zC->zA->I R)(len:zC)(hl:len<=maxLen)(g:zC->I R->I R)(fin:I R)
  (hs:∀(n i:zC),i<len->L (n+1) (i:zA)=g i (L n (IntKind.i64.wrap ((i:zA)+1)))) (he:∀n,L (n+1) (len:zA)=fin) :
  ∀(k i n:zC),i+k=len->k<n->L n (i:zA)=(List.range' i k).foldr g fin
 | 0,i,n,hi,hn=>by
  obtain⟨m,rfl⟩:∃m,n=m+1:=⟨n - 1,a9⟩;have:i=len:=by omega
  subst this;rw[he]; rfl
 | k+1,i,n,hi,hn=>by
  obtain⟨m,rfl⟩:∃m,n=m+1:=⟨n - 1,a9⟩;rw[hs m i a9,Au (show i<len by omega) hl,Ks L len hl g fin hs he k (i+1) m a9 a9];rfl
def Fz{α:Type}{L:zC->zA->I zB}(xs:J α)(p:α->zB)(hl:xs.length<=maxLen)
  (hs:∀(n i:zC) (h:i<xs.length),L (n+1) (i:zA)=if p xs[i]=T then L n (IntKind.i64.wrap ((i:zA)+1)) else O F) (he:∀n,L (n+1) (xs.length:zA)=O T):L bigN 0=O (xs.all p):=by
 have key:∀(k i n:zC),i+k=xs.length->k<n->L n (i:zA)=O ((xs.drop i).all p):=by
  intro k
  induction k with
  | zero=>
   intro i n hi hn;obtain⟨m,rfl⟩:∃m,n=m+1:=⟨n - 1,a9⟩;have:i=xs.length:=by omega
   subst this;rw[he]; simp
  | succ k ih=>
   intro i n hi hn;obtain⟨m,rfl⟩:∃m,n=m+1:=⟨n - 1,a9⟩;have hlt:i<xs.length:=by omega
   rw[hs m i hlt,Au hlt hl,ih (i+1) m a9 a9,List.drop_eq_getElem_cons hlt,yD];cases p xs[i]<;>simp
 have:=key xs.length 0 bigN a9 (BG hl);simpa using this
def MW{L:zC->zA->I zB}(len:zC)(p:zC->zB)(hl:len<=maxLen)
  (hs:∀(n i:zC) (_:i<len),L (n+1) (i:zA)=if p i=T then L n (IntKind.i64.wrap ((i:zA)+1)) else O F) (he:∀n,L (n+1) (len:zA)=O T):L bigN 0=O ((List.range len).all p):=by
 refine Fz (List.range len) p (by simpa using hl) (fun n i h=> ?_) (fun n=> ?_)
 .have h':i<len:=by simpa using h
  rw[hs n i h'];simp
 .simpa using he n
def FG{α β:Type}{L:zC->zA->J β->I (J β)}(xs:J α)(g:α->β)(hl:xs.length<=maxLen)
  (hs:∀(n i:zC) (acc:J β) (h:i<xs.length),acc.length=xs.length->L (n+1) (i:zA) acc=L n (IntKind.i64.wrap ((i:zA)+1)) (acc.set i (g xs[i]))) (he:∀n acc,L (n+1) (xs.length:zA) acc=O acc)
  (z:J β) (hz:z.length=xs.length):L bigN 0 z=O (xs.map g):=by
 have key:∀(k i n:zC) (acc:J β),i+k=xs.length->k<n->acc.length=xs.length->acc.take i=(xs.take i).map g->L n (i:zA) acc=O (xs.map g):=by
  intro k
  induction k with
  | zero=>
   intro i n acc hi hn ha ht;obtain⟨m,rfl⟩:∃m,n=m+1:=⟨n - 1,a9⟩;have:i=xs.length:=by omega
   subst this;rw[he];rw[<- ha,List.take_length,ha,List.take_length] at ht
   rw[ht]
  | succ k ih=>
   intro i n acc hi hn ha ht;obtain⟨m,rfl⟩:∃m,n=m+1:=⟨n - 1,a9⟩;have hlt:i<xs.length:=by omega
   rw[hs m i acc hlt ha,Au hlt hl];refine ih (i+1) m _ a9 a9 (by simpa using ha) ?_;rw[yK (by simpa[ha] using hlt),yK hlt,yM,<- ht];simp[List.take_set_of_le]
 exact key xs.length 0 bigN z a9 (BG hl) hz d0
def Iv{α:Type} [DecidableEq α]{L:zC->zA->I zB}(xs ys:J α)(hl:xs.length<=maxLen)(hlen:xs.length=ys.length)
  (hs:∀(n i:zC) (h:i<xs.length) (h2:i<ys.length),L (n+1) (i:zA)=if xs[i]=ys[i] then L n (IntKind.i64.wrap ((i:zA)+1)) else O F) (he:∀n,L (n+1) (xs.length:zA)=O T) :
  L bigN 0=O (decide (xs=ys)):=by
 have:=MW (L:=L) xs.length (fun i=>decide (xs[i]?=ys[i]?)) hl (fun n i h=>by
  rw[hs n i h (hlen▸h),zH h,zH (hlen▸h)];simp) he
 rw[this];congr 1
 rw[Bool.eq_iff_iff];simp only[List.all_eq_true,List.mem_range,decide_eq_true_eq];constructor
 .intro h;apply List.ext_getElem?
  intro i;by_cases hi:i<xs.length
  .exact h i hi
  .rw[yC a9,yC a9]
 .rintro rfl i _; rfl
section
inductive YV where
 | d (x:DV)
 | p
inductive YVRel (h:A6) (p:zC):YV->Value->Prop
 | d {x v}:DVRel h x v->YVRel h p (.d x) v
 | p:YVRel h p .p (.pointer (O ⟨p,0,Z⟩))
inductive YVRels (h:A6) (p:zC):J YV->J Value->Prop
 | nil:YVRels h p [] []
 | cons {x v xs vs}:YVRel h p x v->YVRels h p xs vs->YVRels h p (x::xs) (v::vs)
def YVRels.len{h:A6}{p:zC}:∀{xs vs},YVRels h p xs vs->xs.length=vs.length
 | _,_,.nil=>rfl
 | _,_,.cons _ b=>by simp[b.len]
def YVRels.get{h:A6}{p:zC}:∀{xs:J YV} {vs:J Value} (i:zC) {x:YV} {v:Value},YVRels h p xs vs->xs[i]?=O x->vs[i]?=O v->YVRel h p x v
 | _,_,_,_,_,.nil,hd,_=>by simp at hd
 | _,_,0,_,_,.cons a _,hd,hv=>by simp at hd hv; subst hd hv; exact a
 | _,_,i+1,_,_,.cons _ b,hd,hv=>YVRels.get i b (by simpa using hd) (by simpa using hv)
def Cq(p:zC):Ac:=fun i=>if i=199999999998 then O p else Z
def HX{p i b:zC}(h:Cq p i=O b):i=199999999998/\p=b:=by
 unfold Cq at h;split at h
 .exact⟨by assumption,zW h⟩
 .cases h
def KH(h:A6)(w:World)(p:zC)(cs:J D):Prop:=∃C t,w.heap[p]?=O (.cells C t (0,0))/\Reps h cs C.toList/\cs.length=C.toList.length
def FCy(P:Program)(f:FuncId)(xs:J YV)(cs0 cs1:J D)(rs:J R1):Prop:=
 ∀(w:World) (A:B9) (p:zC) (vs:J Value),(∀w2,BelowX w.heap.size (.of w (Cq p)) w2->GoodW w2)->p<w.heap.size->(∀fr,¬A p fr)->KH (Al A w) w p cs0->YVRels (Al A w) p xs vs->Calls P f vs.toArray w fun e w'=>
  ∃(v:Value) (bs:J (I zC)),e= .returned v/\BelowX w.heap.size (.of w (Cq p)) w'/\KH (Al (fun b fr=>b≠p/\((w.heap.size<=b/\fr=(0,0))\/A b fr)) w') w' p cs1/\RRel (Al (fun b fr=>b≠p/\((w.heap.size<=b/\fr=(0,0))\/A b fr)) w') w' rs v bs
def RC.isV:RC->zB
 | .v _=>T
 | .o .. =>F
def Ik(rs:J R1):zB:=rs.all fun r=>r.cells.all RC.isV
section
variable {X : Cx} {g : zC}
def bh:∀{cs:J RC} {vs:J Value} {bs:J (I zC)} {j:zC},cs.all RC.isV=T->RCRels X.h X.w cs vs bs->CRels X (Er g j cs) vs
 | _,_,_,_,_,.nil=> .nil
 | _,_,_,j,h,.cons a b=>by
  simp only[yD,zQ] at h;refine .cons ?_ (bh h.2 b);cases a with
  | v hd=>exact .dat hd
  | nil=>cases h.1
  | o=>cases h.1
def ba{r:R1}{v:Value}{bs:J (I zC)}{j:zC}(h:r.cells.all RC.isV=T)(H:R1Rel X.h X.w r v bs):V1Rel X (r.inst g j) v:=by
 cases H with
 | sc hc=>
  refine .sc ?_;cases hc with
  | v hd=>exact .dat hd
  | nil=>simp[R1.cells,RC.isV] at h
  | o=>simp[R1.cells,RC.isV] at h
 | ag hc=>exact .ag (bh h hc)
def bl:∀{rs:J R1} {vs:J Value} {bs:J (I zC)} {j:zC},Ik rs=T->R1Rels X.h X.w rs vs bs->V1Rels X (Dv g j rs) vs
 | _,_,_,_,_,.nil=> .nil
 | _,_,_,j,h,.cons a b=>by
  simp only[Ik,yD,zQ] at h;exact .cons (ba h.1 a) (bl h.2 b)
def bd{rs:J R1}{v:Value}{bs:J (I zC)}(h:Ik rs=T)(H:RRel X.h X.w rs v bs):VRel X (BN g rs) v:=by
 cases H with
 | one a=>
  simp only[Ik,yD,List.all_nil,Bool.and_true] at h;exact .v (ba h a)
 | @many rs vs bs hl a=>
  have:BN g rs= .tup (Dv g 0 rs):=by
   cases rs with
   | nil=>rfl
   | cons x r=>cases r with
    | nil=>exact absurd rfl hl
    | cons=>rfl
  rw[this];exact .tup (bl h a)
end
def T8(id:zC):AV->I YV
 | .v (.sc (.pb k o))=>bif (k==id)&&(o==0) then O .p else Z
 | av=>(KA av).map .d
def E6(id:zC):J AV->I (J YV)
 | []=>O []
 | a::r=>match T8 id a,E6 id r with
  | some x,O xs=>O (x::xs)
  | _,_=>Z
def CRels.reps{X:Cx}:∀{ds:J D} {vs:J Value},CRels X (ds.map .dat) vs->Reps X.h ds vs/\ds.length=vs.length
 | [],_,.nil=>⟨.nil,rfl⟩
 | d::ds,_,.cons a b=>by
  obtain⟨h1,h2⟩:=CRels.reps b;cases a with | dat h=>exact⟨.cons h h1,by simp[h2]⟩
section
variable {P : Program} {A : Ar} {B : zC} {w0 : Base} {w : World} {nm : Ac} {M : St} {tmps : Array Value}
def A6w{id p:zC}{av:AV}{v:Value}{x:YV}(hp:nm (2*id)=O p)(H:VRel (cx A nm M w) av v)(h:T8 id av=O x):YVRel (A9 A nm w) p x v:=by
 unfold T8 at h;split at h
 .rename_i k o
  by_cases hk:k=id/\o=0
  .obtain⟨rfl,rfl⟩:=hk;simp at h;subst h;have hc:=H.inv_sc;cases hc with | pb hb=>
   have hb':nm (2*k)=O _:=hb;have e:=zW (hb'.symm.trans hp);subst e;exact .p
  .exfalso
   have:((k==id)&&(o==0))=F:=by
    rw[Bool.and_eq_false_iff];by_cases h1:k=id
    .right; simpa using fun h2=>hk ⟨h1,h2⟩
    .left; simpa using h1
   rw[this] at h;cases h
 .simp only[zG] at h;obtain⟨d,h1,rfl⟩:=h;exact .d (MK (X:=cx A nm M w) H h1)
def T9{id p:zC}(hp:nm (2*id)=O p):∀{avs:J AV} {vs:J Value} {xs:J YV},VsRel (cx A nm M w) avs vs->E6 id avs=O xs->YVRels (A9 A nm w) p xs vs
 | [],vs,xs,H,h=>by
  simp[E6] at h;subst h;obtain rfl:vs= []:=zL.1 H.1.symm;exact .nil
 | a::avs,vs,xs,H,h=>by
  unfold E6 at h;split at h
  .rename_i x xs' h1 h2
   cases h;cases vs with
   | nil=>have:=H.1; simp at this
   | cons v vs=>
    exact .cons (A6w hp (H.2 0 a v zE zE) h1) (T9 hp ⟨by have:=H.1; simpa using this,fun i u v hu hv=>H.2 (i+1) u v (by simpa using hu) (by simpa using hv)⟩ h2)
  .cases h
def Yk(R:Rel A B w0 nm M tmps w){id p:zC}{cs1:J D}{w':World}(hp:nm (2*id)=O p)(hb:BelowX w.heap.size (.of w (Cq p)) w')(hh:KH (Al (fun b fr=>b≠p/\((w.heap.size<=b/\fr=(0,0))\/((∀i,nm i≠O b)/\A b fr))) w') w' p cs1) :
  Rel A B w0 nm {M with bx:=put M.bx id (cs1.map .dat)} tmps w':=by
 have hM:∀b,Base.M (.of w (Cq p)) b->b=p:=fun b hmm=>by
  obtain⟨i,_,e⟩:=Base.of_M hmm;exact(HX e).2.symm
 have hbel:BelowX B w0 w':=R.below.after hb R.size R.there fun i b e=>by
  obtain⟨_,rfl⟩:=HX e;exact(R.names _ _ hp).1
 have hsame:∀b,b<w.heap.size->b≠p->w'.heap[b]?=w.heap[b]?:=fun b hlt h=>hb.block b hlt (fun hm=>h (hM b hm)) fun hv=>hv.elim
 have hview:∀b C,A9 A nm w b C->A9 A nm w' b C:=CW fun b hlt hn=>⟨hn,hsame b hlt fun e=>hn _ (e▸hp)⟩
 have hcell:∀(M':St) c v,M'.rows=M.rows->CRel (cx A nm M w) c v->CRel (cx A nm M' w') c v:=fun M' c v hrs H=>
  H.move hview (fun k hk=> .inr ⟨by show A1 M'.rows k=A1 M.rows k; rw[hrs],rfl,fun b hbn=>hsame b (R.names _ b hbn).2 fun e=>by
   subst e;have:=R.inj _ _ _ hbn hp;omega⟩) (fun k _ b hb2=>hb2)
 refine⟨hbel,zN R.size hb.size,R.all,R.good,fun i b hi=> ?_,R.inj,R.pin,fun k=>(R.env k).to fun c v _=>hcell _ c v zE,fun k cs hcs=> ?_⟩
 .obtain⟨h1,h2⟩:=R.names i b hi;exact⟨h1,zS h2 hb.size⟩
 .by_cases hk:k=id
  .subst hk
   have e:cs=cs1.map .dat:=by
    have:=Bm M.bx k (cs1.map AC.dat);exact zW (hcs.symm.trans this)
   subst e;obtain⟨C,t,h1,h2,h3⟩:=hh;refine⟨p,C,t,hp,h1,CRels.of_dat (h2.mono fun b C hb2=> ?_) h3⟩;obtain⟨cc,tt,fr,⟨g1,g2⟩,g3⟩:=hb2;rcases g2 with ⟨g2,rfl⟩|g2
   .exact⟨fun i e=>by have:=(R.names i b e).2; omega,cc,tt,_,R.all.all b (.inl (zN R.size g2)),g3⟩
   .exact⟨g2.1,cc,tt,fr,g2.2,g3⟩
  .have hcs':A1 (put M.bx id (cs1.map .dat)) k=O cs:=hcs;rw[Bn _ _ hk] at hcs'
   obtain⟨b,C,t,h1,h2,h3⟩:=R.bxs k cs hcs'
   have hne:b≠p:=fun e=>by
    subst e;have:=R.inj _ _ _ h1 hp;omega
   exact⟨b,C,t,h1,(hsame b (R.names _ _ h1).2 hne).trans h2,h3.to fun c v _=>hcell _ c v zE⟩
def FCy.callC{f:FuncId}{xs:J YV}{cs0 cs1:J D}{rs:J R1}(H:FCy P f xs cs0 cs1 rs)(hv:Ik rs=T){id:zC}{avs:J AV}(hx:E6 id avs=O xs)(hb:A1 M.bx id=O (cs0.map .dat)) :
  CallC P f avs M {M with bx:=put M.bx id (cs1.map .dat)} (BN 0 rs):=by
 intro A B w0 w nm tmps vs R hvs;obtain⟨p,C,t,h1,h2,h3⟩:=R.bxs id _ hb;have h1':nm (2*id)=O p:=h1;obtain⟨k1,k2⟩:=CRels.reps h3;refine(H w (fun b fr=>(∀i,nm i≠O b)/\A b fr) p vs (fun w2 hb2=>R.good w2 (R.below.after hb2 R.size R.there fun i b e=> ?_)) (R.names _ _ h1').2 (fun _ h=>h.1 _ h1') ⟨C,t,h2,by rw[E7]; exact k1,k2⟩ (by rw[E7]; exact T9 h1' hvs hx)).mono fun e w' h=> ?_
 .obtain⟨_,rfl⟩:=HX e;exact(R.names _ _ h1').1
 .obtain⟨v,bs,rfl,g1,g2,g3⟩:=h;have R':=Yk R h1' g1 g2;refine⟨v,nm,zE,R',bd hv (g3.conv fun c _=> .inl fun b C hb2=> ?_)⟩;obtain⟨cc,tt,fr,⟨q1,q2⟩,q3⟩:=hb2;rcases q2 with ⟨q2,rfl⟩|q2
  .exact⟨fun i e=>by have:=(R.names i b e).2; omega,cc,tt,_,R.all.all b (.inl (zN R.size q2)),q3⟩
  .exact⟨q2.1,cc,tt,fr,q2.2,q3⟩
end
def YV.av:YV->AV
 | .d x=>x.av
 | .p=> .v (.sc (.pb 99999999999 0))
def Mn:zC->J YV->J (zC × AV)
 | _,[]=> []
 | k,x::xs=>(k,x.av)::Mn (k+1) xs
def Z2:∀(ds:J YV) (k i:zC),A1 (Mn k ds) i=if k<=i then(ds[i - k]?).map YV.av else Z
 | [],k,i=>by simp[Mn,A1]
 | d::ds,k,i=>by
  simp only[Mn,A1];by_cases hk:k=i
  .subst hk; simp
  .have h':=Cg hk;rw[h',cond_false,Z2 ds (k+1) i];by_cases h1:k<=i
   .rw[if_pos a9,if_pos h1,show i - k=(i - (k+1))+1 by omega]; simp
   .rw[if_neg a9,if_neg h1]
section
variable {P : Program}
def dW{fn:Func}{A:Ar}{B:zC}{w0:Base}{nm:Ac}{M:St}{a:Act}{w:World}{h':A6}(R:Rel A B w0 nm M a.tmps w)(hh:∀b C,A9 A nm w b C->h' b C){ts:J RV}{rs:J R1}(hr:DY P fn.results.toList=O ts)(ho:OutVs M ts rs) :
  ∃(v:Value) (bs:J (I zC)),(results fn a.tmps).run P w= .ok v w/\RRel h' w rs v bs:=by
 obtain⟨vs',hrun,hvl,hrel⟩:=I0 (P:=P) (f:=fun | .tmp t=>pure (a.tmps.getD t undef) | .cell c t=>do loadVar t (<- asAddr (a.tmps.getD c undef))) R hh (fun _=>rfl) (fun _ _=>rfl) hr ho;refine⟨(if h:vs'.length=1 then vs'[0] else .tuple vs'.toArray),(D4 M ts rs).map (Ba nm),?_,?_⟩
 .unfold results;rw[<- Array.toArray_toList (xs:=fn.results)];simp only[yG,Sem.run_bind,map_eq_pure_bind];erw [hrun]
  simp only[Result.andThen_ok,Sem.run_pure];simp
 .split
  .rename_i h1
   obtain⟨v1,rfl⟩:=zT.1 h1;have hrl:rs.length=1:=by rw[ho.len,<- hvl]; exact h1
   obtain⟨r,rfl⟩:=zT.1 hrl;revert hrel
   generalize (D4 M ts [r]).map (Ba nm)=bs
   intro hrel;cases hrel with
   | cons h1 h2=>
    cases h2;simp only[yA] at h1 ⊢
    exact .one h1
  .rename_i h1
   refine .many ?_ hrel;rw[ho.len,<- hvl];exact h1
end
def FCn(P:Program)(f:FuncId)(ds:J DV)(cs1:J D):Prop:=
 ∀(w:World) (A:B9) (vs:J Value),GoodW w->DVRels (Al A w) ds vs->Calls P f vs.toArray w fun e w'=>
  ∃p,e= .returned (.pointer (O ⟨p,0,Z⟩))/\RowKit.Below w.heap.size w w'/\w.heap.size<=p/\p<w'.heap.size/\KH (Al (fun b fr=>b≠p/\((w.heap.size<=b/\fr=(0,0))\/A b fr)) w') w' p cs1
def fP{A:Ar}{nm:Ac}{M:St}{w:World}:∀{avs:J AV} {vs:J Value} {ds:J DV},VsRel (cx A nm M w) avs vs->E6 0 avs=O (ds.map .d)->DVRels (A9 A nm w) ds vs
 | [],vs,ds,H,h=>by
  obtain rfl:vs= []:=zL.1 H.1.symm;cases ds with
  | nil=>exact .nil
  | cons=>simp[E6] at h
 | a::avs,vs,ds,H,h=>by
  unfold E6 at h;split at h
  .rename_i x xs h1 h2
   cases ds with
   | nil=>simp at h
   | cons d ds=>
    simp at h;obtain⟨rfl,rfl⟩:=h;cases vs with
    | nil=>have:=H.1; simp at this
    | cons v vs=>
     refine .cons ?_ (fP ⟨by have:=H.1; simpa using this,fun i u v hu hv=>H.2 (i+1) u v (by simpa using hu) (by simpa using hv)⟩ h2);have hv0:=H.2 0 a v rfl rfl;unfold T8 at h1
     split at h1
     .rename_i k o
      cases hb:((k==0)&&(o==0))<;>simp only[hb,cond_true,cond_false] at h1<;>cases h1
     .simp only[zG] at h1
      obtain⟨d',h3,h4⟩:=h1;cases h4;exact MK (X:=cx A nm M w) hv0 h3
  .cases h
section
variable {P : Program}
def FCn.callC{f:FuncId}{ds:J DV}{cs1:J D}(H:FCn P f ds cs1){M:St}{avs:J AV}{d:zC}(hx:E6 0 avs=O (ds.map .d))(hf:M.fresh d=T):CallC P f avs M {M with bx:=put M.bx d (cs1.map .dat)} (.v (.sc (.pb d 0))):=by
 intro A B w0 w nm tmps vs R hvs;have hds:DVRels (A9 A nm w) ds vs:=fP hvs hx;refine(H w (fun b fr=>(∀i,nm i≠O b)/\A b fr) vs (R.good w R.below) (by rw[E7]; exact hds)).mono fun e w' h=> ?_
 obtain⟨p,rfl,hb,hp1,hp2,hh⟩:=h
 have R1:=R.grow hf hb (fun n=>if n=2*d then O p else Z) M.rows (fun n b _ h=>by
  have h:(if n=2*d then O p else Z)=O b:=h;split at h
  .cases h; exact⟨hp1,hp2⟩
  .cases h) (fun n m b _ _ h1 h2=>by
  have h1:(if n=2*d then O p else Z)=O b:=h1;have h2:(if m=2*d then O p else Z)=O b:=h2;split at h1
  .split at h2
   .omega
   .cases h2
  .cases h1) (fun _ _=>rfl)
 have hnm:AN d (fun n=>if n=2*d then O p else Z) nm (2*d)=O p:=by
  unfold AN;rw[if_pos (.inl rfl)];exact if_pos zE
 refine⟨_,AN d (fun n=>if n=2*d then O p else Z) nm,zE,?_,.v (.sc (.pb hnm))⟩;refine⟨R1.below,R1.size,R1.all,R1.good,R1.names,R1.inj,R1.pin,fun k=>(R1.env k).to fun c v _ h=>h.same zE (fun _=>rfl) (fun _ _ h=>h) zE,fun k cs hcs=> ?_⟩;by_cases hk:k=d
 .subst hk;have e:cs=cs1.map .dat:=zW ((show A1 (put M.bx k (cs1.map AC.dat)) k=O cs from hcs).symm.trans (Bm M.bx k (cs1.map AC.dat)));subst e;obtain⟨C,t,h1,h2,h3⟩:=hh;refine⟨p,C,t,hnm,h1,CRels.of_dat (h2.mono fun b C hb2=> ?_) h3⟩;obtain⟨cc,tt,fr,⟨g1,g2⟩,g3⟩:=hb2;refine⟨fun i e=> ?_,cc,tt,fr,?_,g3⟩
  .unfold AN at e
   split at e
   .have e:(if _=2*_ then O p else Z)=O b:=e;split at e
    .cases e; exact g1 rfl
    .cases e
   .rcases g2 with g2|g2
    .have:=(R.names i b e).2; omega
    .exact g2.1 i e
  .rcases g2 with ⟨g2,rfl⟩|g2
   .exact R.all.all b (.inl (zN R.size g2))
   .exact g2.2
 .have hcs':A1 (put M.bx d (cs1.map AC.dat)) k=O cs:=hcs;rw[Bn _ _ hk] at hcs'
  obtain⟨b,C,t,h1,h2,h3⟩:=R1.bxs k cs hcs';exact⟨b,C,t,h1,h2,h3.to fun c v _ h=>h.same zE (fun _=>rfl) (fun _ _ h=>h) zE⟩
end
def A4{b:zB}{v:AV}{f:AC->AC}:(bif b then v else .undef).map f=bif b then v.map f else .undef:=by cases b<;>rfl
def Cu{b:zB}{v:AV}{f:AC->zB}:(bif b then v else AV.undef).cells.all f=(!b || v.cells.all f):=by cases b<;>rfl
end
section
def XC.zac(ids:J zC):XC->AC
 | .d x=> .dat x
 | .r j=> .own (ids.getD j 0)
def XC.inZ(n:zC):XC->zB
 | .d _=>T
 | .r j=>decide (j<n)
inductive ZCRel (h:A6) (w:World) (bs:J (I zC)) (R:Ao):XC->Value->Prop
 | d {x v}:Rep h x v->ZCRel h w bs R (.d x) v
 | nil {j sz a}:R[j]?=O (sz,[])->bs[j]?=O Z->ZCRel h w bs R (.r j) (.slice a 0 0)
 | r {j sz es b cap len}:R[j]?=O (sz,es)->bs[j]?=O (O b)->OwnB h w b sz cap es->len=es.length->ZCRel h w bs R (.r j) (.slice (O ⟨b,0,Z⟩) len cap)
inductive ZCRels (h:A6) (w:World) (bs:J (I zC)) (R:Ao):J XC->J Value->Prop
 | nil:ZCRels h w bs R [] []
 | cons {c v cs vs}:ZCRel h w bs R c v->ZCRels h w bs R cs vs->ZCRels h w bs R (c::cs) (v::vs)
def MS(h:A6)(w:World)(p:zC)(bs:J (I zC))(R:Ao)(cs:J XC):Prop:=∃C t,w.heap[p]?=O (.cells C t (0,0))/\ZCRels h w bs R cs C.toList
def In(w:World)(p:zC)(bs:J (I zC)):Base:=⟨w,Cq p,fun b=>O b∈bs/\b<w.heap.size,fun _ h=>h.2,fun _=>False,fun _ h=>h.elim⟩
def FCz(P:Program)(f:FuncId)(xs:J YV)(cs0:J XC)(R0:Ao)(cs1:J XC)(S1:Ao)(rs:J R1):Prop:=
 ∀(w:World) (A:B9) (p:zC) (vs:J Value) (bs:J (I zC)),bs.length=R0.length->(∀(i j b:zC),bs[i]?=O (O b)->bs[j]?=O (O b)->i=j)->(∀b,O b∈bs->b<w.heap.size/\(∀fr,¬A b fr)/\b≠p)->
  (∀w2,BelowX w.heap.size (In w p bs) w2->GoodW w2)->p<w.heap.size->(∀fr,¬A p fr)->MS (Al A w) w p bs R0 cs0->YVRels (Al A w) p xs vs->Calls P f vs.toArray w fun e w'=>
  ∃(v:Value) (bs' rb:J (I zC)),e= .returned v/\bs'.length=S1.length/\(∀(i j b:zC),bs'[i]?=O (O b)->bs'[j]?=O (O b)->i=j)/\(∀b,O b∈bs'->b≠p/\(w.heap.size<=b\/O b∈bs)/\b<w'.heap.size)/\BelowX w.heap.size (In w p bs) w'/\
   MS (Al (fun b fr=>b≠p/\O b∉bs'/\((w.heap.size<=b/\fr=(0,0))\/A b fr\/(O b∈bs/\fr=(0,0)))) w') w' p bs' S1 cs1/\RRel (Al (fun b fr=>b≠p/\O b∉bs'/\((w.heap.size<=b/\fr=(0,0))\/A b fr\/(O b∈bs/\fr=(0,0)))) w') w' rs v rb
def Kq{h h':A6}{w:World}{b sz cap:zC}{es:J (J D)}(H:OwnB h w b sz cap es)(hh:∀b C,h b C->h' b C):OwnB h' w b sz cap es:=by
 obtain⟨h1,h2,h3,C,t,h4,h5,h6⟩:=H;exact⟨h1,h2,h3,C,t,h4,h5,h6.mono hh⟩
section
variable {A : Ar} {nm : Ac} {M : St} {w : World} {h : A6} {ids : J zC} {R : Ao}
def B68(hh:∀b C,A9 A nm w b C->h b C)(hr:CF M.rows ids=O R){c:XC}{v:Value}(hc:c.inZ R.length=T)(H:CRel (cx A nm M w) (c.zac ids) v):ZCRel h w (AS nm ids) R c v:=by
 obtain⟨hl,hat⟩:=Ku hr;cases c with
 | d x=>
  have H:CRel (cx A nm M w) (.dat x) v:=H;cases H with | dat H=>exact .d (H.mono hh)
 | r j=>
  have hj:j<R.length:=by simpa[XC.inZ] using hc
  have hji:j<ids.length:=by omega
  have hid:ids[j]?=O ids[j]:=zH hji;have H:CRel (cx A nm M w) (.own (ids.getD j 0)) v:=H;have hg:ids.getD j 0=ids[j]:=by simp[hji]
  rw[hg] at H
  have hR:R[j]?=A1 M.rows ids[j]:=by rw[hat j,hid]; rfl
  have hb:(AS nm ids)[j]?=O (nm (2*ids[j]+1)):=by simp[AS,hid]
  rw[zH hj] at hR
  obtain⟨sz,es,hse⟩:∃sz es,R[j]=(sz,es):=⟨_,_,rfl⟩;have hRj:R[j]?=O (sz,es):=by rw[zH hj,hse]
  rw[hse] at hR
  rcases H.inv_own hR.symm with ⟨rfl,k1,a0,rfl⟩|⟨b,cap,k1,k2,rfl⟩
  .exact .nil hRj (by rw[hb]; exact congrArg O k1)
  .exact .r hRj (by rw[hb]; exact congrArg O k1) (Kq k2 hh) zE
def WJ(hh:∀b C,A9 A nm w b C->h b C)(hr:CF M.rows ids=O R):∀{cs:J XC} {vs:J Value},cs.all (XC.inZ R.length)=T->CRels (cx A nm M w) (cs.map (XC.zac ids)) vs->ZCRels h w (AS nm ids) R cs vs
 | [],_,_,.nil=> .nil
 | c::cs,_,hc,.cons a b=>by
  simp only[yD,zQ] at hc
  exact .cons (B68 hh hr hc.1 a) (WJ hh hr hc.2 b)
end
def B69{X:Cx}{h:A6}{bs:J (I zC)}{R:Ao}{ids:J zC}(hh:∀b C,h b C->X.h b C)(hl:ids.length=R.length)(hr:∀(j id:zC) (r:zC × J (J D)),ids[j]?=O id->R[j]?=O r->A1 X.rs id=O r)(hn:∀(j id:zC) (o:I zC),ids[j]?=O id->bs[j]?=O o->X.nm (2*id+1)=o)
  {c:XC} {v:Value} (H:ZCRel h X.w bs R c v):CRel X (c.zac ids) v:=by
 cases H with
 | d H=>exact .dat (H.mono hh)
 | @nil j sz a h1 h2=>
  have hj:j<ids.length:=by rw[hl]; exact(zJ.1 h1).1
  have hid:ids[j]?=O ids[j]:=zH hj;have hg:ids.getD j 0=ids[j]:=by simp[hj]
  show CRel X (.own (ids.getD j 0)) _
  rw[hg];exact .ownNil (hr j _ _ hid h1) (hn j _ _ hid h2)
 | @r j sz es b cap len h1 h2 h3 h4=>
  have hj:j<ids.length:=by rw[hl]; exact(zJ.1 h1).1
  have hid:ids[j]?=O ids[j]:=zH hj;have hg:ids.getD j 0=ids[j]:=by simp[hj]
  show CRel X (.own (ids.getD j 0)) _
  rw[hg];exact .own (hr j _ _ hid h1) (hn j _ _ hid h2) (Kq h3 hh) h4
def iD{X:Cx}{h:A6}{bs:J (I zC)}{R:Ao}{ids:J zC}(hh:∀b C,h b C->X.h b C)(hl:ids.length=R.length)(hr:∀(j id:zC) (r:zC × J (J D)),ids[j]?=O id->R[j]?=O r->A1 X.rs id=O r)(hn:∀(j id:zC) (o:I zC),ids[j]?=O id->bs[j]?=O o->X.nm (2*id+1)=o) :
  ∀{cs:J XC} {vs:J Value},ZCRels h X.w bs R cs vs->CRels X (cs.map (XC.zac ids)) vs
 | _,_,.nil=> .nil
 | _,_,.cons a b=> .cons (B69 hh hl hr hn a) (iD hh hl hr hn b)
def St.killAll:J zC->St->St
 | [],M=>M
 | id::ids,M=>St.killAll ids (M.map (AC.kill id))
def Uo{c:AC}{id k:zC}(h:(c.kill id).has k=T):c.has k=T/\k≠id:=by
 rcases SG c id with ⟨h1,h2⟩|⟨h1,h2⟩
 .rw[h2] at h; cases h
 .rw[h2] at h;exact⟨h,fun e=>by subst e; rw[h1] at h; cases h⟩
def oW(f:AC->AC)(v:AV):(v.map f).cells=v.cells.map f:=by
 cases v with
 | v x=>cases x<;>simp[AV.map,V1.map,AV.cells,V1.cells]
 | tup l=>
  simp only[AV.map,AV.cells]
  induction l with
  | nil=>rfl
  | cons x l ih=>cases x<;>simp_all[V1.map,V1.cells]
 | ev c=>rfl
 | undef=>rfl
 | no=>rfl
def Wn{M:St}{f:AC->AC}{c:AC}(h:(M.map f).Uses c):∃c0,M.Uses c0/\c=f c0:=by
 rcases h with ⟨k,hk⟩|⟨id,cs,hcs,hc⟩
 .rw[St.get_map,oW] at hk
  obtain⟨c0,h1,rfl⟩:=zV.1 hk;exact⟨c0,.inl ⟨k,h1⟩,zE⟩
 .rw[HL] at hcs
  simp only[zG] at hcs
  obtain⟨cs0,h0,rfl⟩:=hcs;obtain⟨c0,h1,rfl⟩:=zV.1 hc;exact⟨c0,.inr ⟨id,cs0,h0,h1⟩,zE⟩
section
variable {P : Program} {A : Ar} {B : zC} {w0 : Base} {w : World} {nm : Ac} {M : St} {tmps : Array Value}
def Rel.killed(R:Rel A B w0 nm M tmps w)(id:zC):Rel A B w0 nm (M.map (AC.kill id)) tmps w:=by
 refine R.carry (f:=AC.kill id) R.below R.size R.names R.inj (fun _ _=>rfl) (fun k=>St.get_map) (fun k=>HL) (fun k cs _ b hb=>⟨hb,zE⟩) (fun c v hc hr=> ?_);rcases SG c id with ⟨_,hk⟩|⟨hn,hk⟩
 .rw[hk]; exact .undef hr.one
 .rw[hk]; exact hr.same rfl (fun _=>rfl) (fun _ _ h=>h) rfl
def Rel.killedAll:∀(ids:J zC) {M:St},Rel A B w0 nm M tmps w->Rel A B w0 nm (M.killAll ids) tmps w
 | [],_,R=>R
 | id::ids,_,R=>Rel.killedAll ids (R.killed id)
def bq:∀(ids:J zC) (M:St),(M.killAll ids).rows=M.rows
 | [],_=>rfl
 | id::ids,M=>bq ids (M.map (AC.kill id))
def br:∀(ids:J zC) {M:St} {c:AC},(M.killAll ids).Uses c->(∀id∈ids,c.has id=F)/\(∀k,c.has k=T->∃c0,M.Uses c0/\c0.has k=T)
 | [],M,c,h=>⟨fun id hid=>(by cases hid),fun k hk=>⟨c,h,hk⟩⟩
 | id::ids,M,c,h=>by
  obtain⟨h1,h2⟩:=br ids (M:=M.map (AC.kill id)) h
  have key:∀k,c.has k=T->k≠id/\∃c0,M.Uses c0/\c0.has k=T:=fun k hk=>by
   obtain⟨c1,hu,hc1⟩:=h2 k hk;obtain⟨c0,hu0,rfl⟩:=Wn hu;obtain⟨q1,q2⟩:=Uo hc1;exact⟨q2,c0,hu0,q1⟩
  refine⟨fun k hk=> ?_,fun k hk=>(key k hk).2⟩;rcases zR.1 hk with rfl|hk
  .cases hx:c.has k with
   | false=>rfl
   | true=>exact absurd rfl (key k hx).1
  .exact h1 k hk
def St.behindZ(M:St)(id:zC)(ids:J zC)(cs1:J XC)(S1:Ao):St:={M.killAll ids with bx:=put (M.killAll ids).bx id (cs1.map (XC.zac ids)),rows:=CU M.rows ids S1}
def Dz(ids:J zC)(bs:J (I zC))(nm:Ac):Ac:=fun n=>if n % 2=1 then(match Fg (n / 2) ids with | some j=>(bs[j]?).join | none=>nm n) else nm n
def dG{id:zC}:∀{l:J zC},Fg id l=Z->id∉l
 | [],_=>by simp
 | k::r,h=>by
  unfold Fg at h;by_cases hk:k=id
  .simp[hk] at h
  .have h':(k==id)=F:=by simpa using hk
   simp only[h',cond_false,Option.map_eq_none_iff] at h;simp only[zR,not_or];exact⟨fun e=>hk e.symm,dG h⟩
def A2r{l:J zC}(hn:l.Nodup){j id:zC}(h:l[j]?=O id):Fg id l=O j:=by
 cases hp:Fg id l with
 | none=>exact absurd (zK h) (dG hp)
 | some i=>
  have h2:=SX hp;have hi:=(zJ.1 h2).1;rw[(yT hi hn).1 (h2.trans h.symm)]
def behindZ(R:Rel A B w0 nm M tmps w){id p:zC}{ids:J zC}{S1:Ao}{cs1:J XC}{bs':J (I zC)}{w':World}(hp:nm (2*id)=O p)(hnd:ids.Nodup)(hsm:∀i∈ids,i<99999999999)(hl1:ids.length=S1.length)(hbl:bs'.length=S1.length)
  (hinj:∀(i j b:zC),bs'[i]?=O (O b)->bs'[j]?=O (O b)->i=j) (hnew:∀b,O b∈bs'->b≠p/\(w.heap.size<=b\/O b∈AS nm ids)/\b<w'.heap.size)
  (hb:BelowX w.heap.size (In w p (AS nm ids)) w') (hh:MS (Al (fun b fr=>b≠p/\O b∉bs'/\((w.heap.size<=b/\fr=(0,0))\/((∀i,nm i≠O b)/\A b fr)\/(O b∈AS nm ids/\fr=(0,0)))) w') w' p bs' S1 cs1) :
  Rel A B w0 (Dz ids bs' nm) (M.behindZ id ids cs1 S1) tmps w'/\∀b C,Al (fun b fr=>b≠p/\O b∉bs'/\((w.heap.size<=b/\fr=(0,0))\/((∀i,nm i≠O b)/\A b fr)\/(O b∈AS nm ids/\fr=(0,0)))) w' b C->A9 A (Dz ids bs' nm) w' b C:=by
 have hblk:∀b,O b∈AS nm ids->∃k∈ids,nm (2*k+1)=O b:=fun b h=>by
  unfold AS at h;obtain⟨k,h1,h2⟩:=zV.1 h;exact⟨k,h1,h2⟩
 have hMz:∀b,(In w p (AS nm ids)).M b->b=p\/∃k∈ids,nm (2*k+1)=O b:=fun b h=>by
  rcases h with ⟨i,_,e⟩|⟨h1,_⟩
  .exact .inl (HX e).2.symm
  .exact .inr (hblk b h1)
 have hbel:BelowX B w0 w':=R.below.afterZ rfl hb R.size R.there (fun b hm=>by
  rcases hMz b hm with rfl|⟨k,_,e⟩
  .exact(R.names _ _ hp).1
  .exact(R.names _ _ e).1) fun b hv=>hv.elim
 have hsame:∀b,b<w.heap.size->b≠p->(∀k∈ids,nm (2*k+1)≠O b)->w'.heap[b]?=w.heap[b]?:=fun b hlt h1 h2=>hb.block b hlt (fun hm=>by
  rcases hMz b hm with e|⟨k,hk,e⟩
  .exact h1 e
  .exact h2 k hk e) fun hv=>hv.elim
 have hlenb:bs'.length=ids.length:=by omega
 have hin:∀(j k:zC),ids[j]?=O k->Dz ids bs' nm (2*k+1)=(bs'[j]?).join:=fun j k hj=>by
  unfold Dz;rw[if_pos a9,show(2*k+1) / 2=k by omega,A2r hnd hj]
 have hout:∀n,(∀k∈ids,n≠2*k+1)->Dz ids bs' nm n=nm n:=fun n hn=>by
  unfold Dz;split
  .split
   .rename_i j hj
    have:=hn _ (zK (SX hj));omega
   .rfl
  .rfl
 have hev:∀k,Dz ids bs' nm (2*k)=nm (2*k):=fun k=>hout _ fun j _=>by omega
 have hcas:∀n b,Dz ids bs' nm n=O b->(∃j k:zC,ids[j]?=O k/\n=2*k+1/\bs'[j]?=O (O b))\/((∀k∈ids,n≠2*k+1)/\nm n=O b):=fun n b h=>by
  by_cases hx:∃k∈ids,n=2*k+1
  .obtain⟨k,hk,rfl⟩:=hx;obtain⟨j,hj⟩:=yN hk;rw[hin j k hj] at h;refine .inl ⟨j,k,hj,zE,?_⟩;cases hbj:bs'[j]? with
   | none=>rw[hbj] at h; cases h
   | some o=>rw[hbj] at h; exact congrArg O h
  .have hx:∀k∈ids,n≠2*k+1:=fun k hk e=>hx ⟨k,hk,e⟩
   exact .inr ⟨hx,(hout n hx)▸h⟩
 have hfree:∀b,O b∈bs'->∀n,(∀k∈ids,n≠2*k+1)->nm n≠O b:=fun b hbm n hn e=>by
  obtain⟨g1,g2,g3⟩:=hnew b hbm;rcases g2 with g2|g2
  .have:=(R.names n b e).2; omega
  .obtain⟨k,hk,ek⟩:=hblk b g2;exact hn k hk (R.inj _ _ _ e ek)
 have hview:∀b C,A9 A nm w b C->A9 A (Dz ids bs' nm) w' b C:=CW fun b hlt hn=>⟨fun i e=>by
  rcases hcas i b e with ⟨j,k,hj,rfl,hbj⟩|⟨_,e2⟩
  .obtain⟨_,g2,_⟩:=hnew b (zK hbj);rcases g2 with g2|g2
   .omega
   .obtain⟨k2,_,ek⟩:=hblk b g2;exact hn _ ek
  .exact hn i e2,hsame b hlt (fun e=>hn _ (e▸hp)) fun k _=>hn _⟩
 have hvz:∀b C,Al (fun b fr=>b≠p/\O b∉bs'/\((w.heap.size<=b/\fr=(0,0))\/((∀i,nm i≠O b)/\A b fr)\/(O b∈AS nm ids/\fr=(0,0)))) w' b C->A9 A (Dz ids bs' nm) w' b C:=fun b C ⟨cc,tt,fr,⟨g1,g2,g3⟩,g4⟩=>by
  refine⟨fun i e=> ?_,cc,tt,fr,?_,g4⟩
  .rcases hcas i b e with ⟨j,k,hj,rfl,hbj⟩|⟨h1,e2⟩
   .exact g2 (zK hbj)
   .rcases g3 with g3|g3|g3
    .have:=(R.names i b e2).2; omega
    .exact g3.1 i e2
    .obtain⟨k,hk,ek⟩:=hblk b g3.1;exact h1 k hk (R.inj _ _ _ e2 ek)
  .rcases g3 with ⟨g3,rfl⟩|g3|⟨g3,rfl⟩
   .exact R.all.all b (.inl (zN R.size g3))
   .exact g3.2
   .obtain⟨k,hk,ek⟩:=hblk b g3;exact R.all.all b (R.mine (by have:=hsm k hk; unfold AG; omega) ek)
 have RK:=R.killedAll ids;have hrows:(M.killAll ids).rows=M.rows:=bq ids M
 have hcell:∀c v,(M.killAll ids).Uses c->CRel (cx A nm (M.killAll ids) w) c v->CRel (cx A (Dz ids bs' nm) (M.behindZ id ids cs1 S1) w') c v:=fun c v hu H=>by
  have hno:=(br ids hu).1;refine H.move hview (fun k hk=> .inr ?_) (fun k _ b hb2=> ?_)
  .have hki:k∉ids:=fun hm=>by rw[hno k hm] at hk; cases hk
   refine⟨?_,?_,fun b hbn=> ?_⟩
   .show A1 (CU M.rows ids S1) k=A1 (M.killAll ids).rows k
    rw[SY hki,hrows]
   .exact hout _ fun j hj e=>hki (by rw[show k=j by omega]; exact hj)
   .refine hsame b (R.names _ b hbn).2 (fun e=> ?_) fun j hj e=> ?_
    .subst e;have:=R.inj _ _ _ hbn hp;omega
    .have:=R.inj _ _ _ hbn e;exact hki (by rw[show k=j by omega]; exact hj)
  .exact(hev k).trans hb2
 refine⟨⟨hbel,zN R.size hb.size,R.all,R.good,fun i b hi=> ?_,fun i j b hi hj=> ?_,fun i hi=> ?_,fun k=> ?_,fun k cs hcs=> ?_⟩,hvz⟩
 .rcases hcas i b hi with ⟨j,k,hj,rfl,hbj⟩|⟨_,e2⟩
  .obtain⟨_,g2,g3⟩:=hnew b (zK hbj);refine⟨?_,g3⟩;rcases g2 with g2|g2
   .exact .inl (zN R.size g2)
   .obtain⟨k2,_,ek⟩:=hblk b g2;exact(R.names _ _ ek).1
  .obtain⟨h1,h2⟩:=R.names i b e2;exact⟨h1,zS h2 hb.size⟩
 .rcases hcas i b hi with ⟨x,k,hx,rfl,hbx⟩|⟨h1,e1⟩
  .rcases hcas j b hj with ⟨y,k2,hy,rfl,hby⟩|⟨h2,e2⟩
   .have:=hinj x y b hbx hby;subst this;rw[hx] at hy
    cases hy;rfl
   .exact absurd e2 (hfree b (zK hbx) j h2)
  .rcases hcas j b hj with ⟨y,k2,hy,rfl,hby⟩|⟨h2,e2⟩
   .exact absurd e1 (hfree b (zK hby) i h1)
   .exact R.inj i j b e1 e2
 .refine(hout i fun k hk e=> ?_).trans (R.pin i hi);have:=hsm k hk;unfold AG at hi
  omega
 .exact(RK.env k).to fun c v hc H=>hcell c v (.inl ⟨k,hc⟩) H
 .by_cases hk:k=id
  .subst hk
   have e:cs=cs1.map (XC.zac ids):=by
    have:=Bm (M.killAll ids).bx k (cs1.map (XC.zac ids));exact zW (hcs.symm.trans this)
   subst e;obtain⟨C,t,h1,h2⟩:=hh;refine⟨p,C,t,(hev k).trans hp,h1,iD (X:=cx A (Dz ids bs' nm) (M.behindZ k ids cs1 S1) w') hvz hl1 (fun j i r hj hr=>VD hnd hj hr) (fun j i o hj ho=> ?_) h2⟩;show Dz ids bs' nm (2*i+1)=o
   rw[hin j i hj,ho];rfl
  .have hcs':A1 (put (M.killAll ids).bx id (cs1.map (XC.zac ids))) k=O cs:=hcs;rw[Bn _ _ hk] at hcs'
   obtain⟨b,C,t,h1,h2,h3⟩:=RK.bxs k cs hcs'
   have hne:b≠p:=fun e=>by
    subst e;have:=R.inj _ _ _ h1 hp;omega
   refine⟨b,C,t,(hev k).trans h1,(hsame b (R.names _ _ h1).2 hne fun j _ e=> ?_).trans h2,h3.to fun c v hc H=>hcell c v (.inr ⟨k,cs,hcs',hc⟩) H⟩;have:=R.inj _ _ _ h1 e;omega
def FCz.callC{f:FuncId}{xs:J YV}{cs0 cs1:J XC}{R0 S1:Ao}{rs:J R1}(H:FCz P f xs cs0 R0 cs1 S1 rs)(hv:Ik rs=T){id:zC}{ids:J zC}{avs:J AV}(hx:E6 id avs=O xs)(hb:A1 M.bx id=O (cs0.map (XC.zac ids)))(hr:CF M.rows ids=O R0)
  (hnd:ids.Nodup) (hsm:∀i∈ids,i<99999999999) (hl:S1.length=ids.length) (hc0:cs0.all (XC.inZ R0.length)=T) :
  CallC P f avs M (M.behindZ id ids cs1 S1) (BN 0 rs):=by
 intro A B w0 w nm tmps vs R hvs;obtain⟨p,C,t,h1,h2,h3⟩:=R.bxs id _ hb;have h1':nm (2*id)=O p:=h1;obtain⟨hlen,hat⟩:=Ku hr
 have hblk:∀b,O b∈AS nm ids->∃k∈ids,nm (2*k+1)=O b:=fun b h=>by
  unfold AS at h;obtain⟨k,h1,h2⟩:=zV.1 h;exact⟨k,h1,h2⟩
 refine(H w (fun b fr=>(∀i,nm i≠O b)/\A b fr) p vs (AS nm ids) (by simp[AS,hlen]) (fun i j b hi hj=> ?_) (fun b hbm=> ?_) (fun w2 hb2=>R.good w2 (R.below.afterZ zE hb2 R.size R.there (fun b hm=> ?_) fun b hv=>hv.elim)) (R.names _ _ h1').2 (fun _ h=>h.1 _ h1')
  ⟨C,t,h2,by rw[E7]; exact WJ (fun _ _ h=>h) hr hc0 h3⟩ (by rw[E7]; exact T9 h1' hvs hx)).mono fun e w' h=> ?_
 .simp only[AS,zY,zG] at hi hj
  obtain⟨x,hx1,hx2⟩:=hi;obtain⟨y,hy1,hy2⟩:=hj;have e:=R.inj _ _ _ hx2 hy2;have e:x=y:=by omega
  subst e;exact(yT (zJ.1 hx1).1 hnd).1 (hx1.trans hy1.symm)
 .obtain⟨k,hk,ek⟩:=hblk b hbm;refine⟨(R.names _ _ ek).2,fun _ h=>h.1 _ ek,fun e=> ?_⟩;subst e;have:=R.inj _ _ _ ek h1';omega
 .rcases hm with ⟨i,_,e⟩|⟨hm,_⟩
  .obtain⟨_,rfl⟩:=HX e;exact(R.names _ _ h1').1
  .obtain⟨k,hk,ek⟩:=hblk b hm;exact(R.names _ _ ek).1
 .obtain⟨v,bs',rb,rfl,g0,g1,g2,g3,g4,g5⟩:=h;obtain⟨R',hvz⟩:=behindZ R h1' hnd hsm hl.symm g0 g1 g2 g3 g4;exact⟨v,_,zE,R',bd hv (g5.conv fun c _=> .inl hvz)⟩
end
def XC.z0:XC->AC
 | .d x=> .dat x
 | .r j=> .own (90000+j)
def Qp:zC->Ao->Rows
 | _,[]=> []
 | k,r::R=>(90000+k,r)::Qp (k+1) R
def St.initZ(xs:J YV)(cs0:J XC)(R0:Ao):St:=⟨Mn 0 xs,[(99999999999,cs0.map XC.z0)],Qp 0 R0⟩
def Z8:∀(R:Ao) (k j:zC),k<=j->A1 (Qp k R) (90000+j)=R[j - k]?
 | [],k,j,_=>by simp[Qp,A1]
 | r::R,k,j,h=>by
  simp only[Qp,A1];by_cases hk:k=j
  .subst hk; simp
  .have h':(90000+k==90000+j)=F:=by simpa using hk
   rw[h',cond_false,Z8 R (k+1) j a9,show j - k=(j - (k+1))+1 by omega]; simp
def DT(p:zC)(bs:J (I zC)):Ac:=fun i=>if i=199999999998 then O p else if 180000<=i/\i % 2=1 then(bs[(i - 180000) / 2]?).join else Z
def Qb{p:zC}{bs:J (I zC)}{i b:zC}(h:DT p bs i=O b):(i=199999999998/\p=b)\/∃j,i=180000+2*j+1/\bs[j]?=O (O b):=by
 unfold DT at h;split at h
 .exact .inl ⟨by assumption,zW h⟩
 .split at h
  .rename_i hc
   refine .inr ⟨(i - 180000) / 2,a9,?_⟩;cases hb:bs[(i - 180000) / 2]? with
   | none=>simp[hb] at h
   | some o=>simp[hb] at h; rw[h]
  .cases h
def A1p{p:zC}{bs:J (I zC)}{j:zC}{o:I zC}(h:bs[j]?=O o):DT p bs (2*(90000+j)+1)=o:=by
 unfold DT;rw[if_neg a9,if_pos a9,show(2*(90000+j)+1 - 180000) / 2=j by omega,h];rfl
def B7a{X:Cx}{h:A6}{bs:J (I zC)}{R:Ao}(hh:∀b C,h b C->X.h b C)(hr:∀(j:zC) (r:zC × J (J D)),R[j]?=O r->A1 X.rs (90000+j)=O r)(hn:∀(j:zC) (o:I zC),bs[j]?=O o->X.nm (2*(90000+j)+1)=o)
  {c:XC} {v:Value} (H:ZCRel h X.w bs R c v):CRel X c.z0 v:=by
 cases H with
 | d H=>exact .dat (H.mono hh)
 | @nil j sz a h1 h2=>exact .ownNil (hr j _ h1) (hn j _ h2)
 | @r j sz es b cap len h1 h2 h3 h4=>exact .own (hr j _ h1) (hn j _ h2) (Kq h3 hh) h4
def iE{X:Cx}{h:A6}{bs:J (I zC)}{R:Ao}(hh:∀b C,h b C->X.h b C)(hr:∀(j:zC) (r:zC × J (J D)),R[j]?=O r->A1 X.rs (90000+j)=O r)(hn:∀(j:zC) (o:I zC),bs[j]?=O o->X.nm (2*(90000+j)+1)=o) :
  ∀{cs:J XC} {vs:J Value},ZCRels h X.w bs R cs vs->CRels X (cs.map XC.z0) vs
 | _,_,.nil=> .nil
 | _,_,.cons a b=> .cons (B7a hh hr hn a) (iE hh hr hn b)
def xH{w:World}{A0:B9}{p:zC}{xs:J YV}{cs0:J XC}{R0:Ao}{vs:J Value}{bs:J (I zC)}(nt:zC)(hlb:bs.length<=64)(hinj:∀(i j b:zC),bs[i]?=O (O b)->bs[j]?=O (O b)->i=j)(hbs:∀b,O b∈bs->b<w.heap.size/\(∀fr,¬A0 b fr)/\b≠p)
  (hG:∀w2,BelowX w.heap.size (In w p bs) w2->GoodW w2) (hp:p<w.heap.size) (hA:∀fr,¬A0 p fr) (hh:MS (Al A0 w) w p bs R0 cs0) (h:YVRels (Al A0 w) p xs vs) :
  Rel (.of fun b fr=>(w.heap.size<=b/\fr=(0,0))\/A0 b fr\/(O b∈bs/\fr=(0,0))) w.heap.size (In w p bs) (DT p bs) (St.initZ xs cs0 R0) (vs.toArray++Array.replicate (nt - vs.toArray.size) undef) w:=by
 have hv:∀b C,Al A0 w b C->A9 (fun b fr=>(w.heap.size<=b/\fr=(0,0))\/A0 b fr\/(O b∈bs/\fr=(0,0))) (DT p bs) w b C:=fun b C ⟨cc,tt,fr,h0,h1⟩=>⟨fun i e=>by
  rcases Qb e with ⟨_,rfl⟩|⟨j,_,hj⟩
  .exact hA _ h0
  .exact(hbs b (zK hj)).2.1 _ h0,cc,tt,fr,.inr (.inl h0),h1⟩
 have hnp:DT p bs (2*99999999999)=O p:=if_pos rfl;refine⟨BelowX.start _ _ (fun _ h=>h.elim),yI _,⟨fun b hb=>hb.elim (fun h=> .inl ⟨h,zE⟩) fun h=> .inr (.inr ⟨h.1,zE⟩),fun _ _ h=>h.elim,fun _ _ h=>h.elim,fun _ _ h=>h.elim,fun h=>by cases h⟩,hG,fun i b hi=> ?_,fun i j b hi hj=> ?_,fun i hi=> ?_,fun k=> ?_,fun id cs hcs=> ?_⟩
 .rcases Qb hi with ⟨e,rfl⟩|⟨j,_,hj⟩
  .exact⟨.inr (.inl ⟨199999999998,yI _,show Cq p 199999999998=O p from if_pos zE⟩),hp⟩
  .have hm:=zK hj;exact⟨.inr (.inr ⟨hm,(hbs b hm).1⟩),(hbs b hm).1⟩
 .rcases Qb hi with ⟨e,rfl⟩|⟨x,e1,hx⟩
  .rcases Qb hj with ⟨e2,_⟩|⟨y,_,hy⟩
   .omega
   .exact absurd zE (hbs _ (zK hy)).2.2
  .rcases Qb hj with ⟨e2,rfl⟩|⟨y,e2,hy⟩
   .exact absurd zE (hbs _ (zK hx)).2.2
   .have:=hinj x y b hx hy;omega
 .show DT p bs i=Cq p i
  unfold DT Cq;split
  .rfl
  .split
   .have hi:199999999998<=i:=hi;have:bs[(i - 180000) / 2]?=Z:=by rw[List.getElem?_eq_none_iff]; omega
    rw[this];rfl
   .rfl
 .unfold St.get;rw[show(St.initZ xs cs0 R0).env=Mn 0 xs from rfl,Z2 xs 0 k];simp only[yQ,if_true,yV];cases hd:xs[k]? with
  | none=>exact .undef
  | some x=>
   have hk:k<vs.length:=by rw[<- h.len]; exact(zJ.1 hd).1
   have hvk:vs[k]?=O (vs[k]'hk):=zH hk
   have e:(vs.toArray++Array.replicate (nt - vs.toArray.size) undef).getD k undef=vs[k]'hk:=by
    rw[Array.getD_eq_getD_getElem?,Array.getElem?_append_left (by simpa using hk)];simp[hk]
   rw[e];have hr:=YVRels.get k h hd hvk;revert hr
   generalize vs[k]'hk=z
   intro hr;cases hr with
   | d hr=>exact DVRel.vrel (X:=cx (.of fun b fr=>(w.heap.size<=b/\fr=(0,0))\/A0 b fr\/(O b∈bs/\fr=(0,0))) (DT p bs) (St.initZ xs cs0 R0) w) (hr.mono hv)
   | p=>exact .v (.sc (.pb hnp))
 .have hc:id=99999999999/\cs=cs0.map XC.z0:=by
   have h':A1 [(99999999999,cs0.map XC.z0)] id=O cs:=hcs;simp only[A1] at h'
   by_cases h1:99999999999=id
   .subst h1; simp at h'; exact⟨rfl,h'.symm⟩
   .have e1:((99999999999:zC)==id)=F:=by simpa using h1
    simp[e1] at h'
  obtain⟨rfl,rfl⟩:=hc;obtain⟨C,t,h1,h2⟩:=hh;exact⟨p,C,t,hnp,h1,iE (X:=cx (.of fun b fr=>(w.heap.size<=b/\fr=(0,0))\/A0 b fr\/(O b∈bs/\fr=(0,0))) (DT p bs) (St.initZ xs cs0 R0) w) hv (fun j r hj=>(Z8 R0 0 j (yQ _)).trans hj) (fun j o hj=>A1p hj) h2⟩
def Dk(ts:J RV)(rs:J R1)(cs1:J XC)(S1:Ao)(e:Xl)(M:St):Prop:=
 match e with
 | .exit _=>False
 | .pan _=>False
 | _=>OutVs M ts rs/\∃ids:J zC,ids.Nodup/\(∀i∈ids,i<99999999999)/\A1 M.bx 99999999999=O (cs1.map (XC.zac ids))/\CF M.rows ids=O S1
section
variable {P : Program}
def iU(hm:P.follows .mixedOrders=T){f:FuncId}{c:Xf}{ts:J RV}{nt:zC}{xs:J YV}{cs0 cs1:J XC}{R0 S1:Ao}{rs:J R1}(he:AF P f=O (c.strip,ts,nt))(hl:xs.length<=nt)(hl0:R0.length<=64)(hc1:cs1.all (XC.inZ S1.length)=T)(h:B0 P c (Dk ts rs cs1 S1) (St.initZ xs cs0 R0)):FCz P f xs cs0 R0 cs1 S1 rs:=by
 unfold AF at he
 split at he
 .rename_i fn hf
  split at he
  .rename_i C ts' hb hr
   simp only[zG] at he
   obtain⟨c',hc,e⟩:=he;cases e;intro w A0 p vs bs hbl hinj hbs hG hp hA hh hvs;refine calls_of_wp hf hb ?_;have hlv:=hvs.len;refine wp_mono (Iq (df:= []) hm c C _ (DT p bs) (St.initZ xs cs0 R0) _ w hc h (xH fn.ntmps a9 hinj hbs hG hp hA hh hvs) d3 zE) fun e a w' hq=> ?_
   obtain⟨e',nm,M,he,hq,R,hnt,hdf⟩:=hq;have hnp:nm (2*99999999999)=O p:=(R.pin _ (by unfold AG; omega)).trans (show Cq p (2*99999999999)=O p from if_pos rfl)
   have key:(OutVs M ts rs/\∃ids:J zC,ids.Nodup/\(∀i∈ids,i<99999999999)/\A1 M.bx 99999999999=O (cs1.map (XC.zac ids))/\CF M.rows ids=O S1)->a.defers= []/\∃v,(results fn a.tmps).run P w'= .ok v w'/\∃(v':Value) (bs' rb:J (I zC)),Ending.returned v= .returned v'/\
     bs'.length=S1.length/\(∀(i j b:zC),bs'[i]?=O (O b)->bs'[j]?=O (O b)->i=j)/\(∀b,O b∈bs'->b≠p/\(w.heap.size<=b\/O b∈bs)/\b<w'.heap.size)/\BelowX w.heap.size (In w p bs) w'/\
     MS (Al (fun b fr=>b≠p/\O b∉bs'/\((w.heap.size<=b/\fr=(0,0))\/A0 b fr\/(O b∈bs/\fr=(0,0)))) w') w' p bs' S1 cs1/\RRel (Al (fun b fr=>b≠p/\O b∉bs'/\((w.heap.size<=b/\fr=(0,0))\/A0 b fr\/(O b∈bs/\fr=(0,0)))) w') w' rs v' rb:=by
    rintro⟨ho,ids,hnd,hsm,hbx,hro⟩
    have hview:∀b C,A9 (fun b fr=>(w.heap.size<=b/\fr=(0,0))\/A0 b fr\/(O b∈bs/\fr=(0,0))) nm w' b C->Al (fun b fr=>b≠p/\O b∉AS nm ids/\((w.heap.size<=b/\fr=(0,0))\/A0 b fr\/(O b∈bs/\fr=(0,0)))) w' b C:=fun b C ⟨g1,cc,tt,fr,g2,g3⟩=>⟨cc,tt,fr,⟨fun e=>g1 _ (e▸hnp),fun hm=>by
     unfold AS at hm
     obtain⟨k,_,e⟩:=zV.1 hm;exact g1 _ e,g2⟩,g3⟩
    obtain⟨v,rb,hrun,hrel⟩:=dW R hview hr ho;obtain⟨b,C,t,h1,h2,h3⟩:=R.bxs _ _ hbx;have e:b=p:=zW (h1.symm.trans hnp);subst e;obtain⟨hlen,hat⟩:=Ku hro;refine⟨hdf,v,hrun,v,AS nm ids,rb,zE,by simp[AS,hlen],fun i j b2 hi hj=> ?_,fun b2 hb2=> ?_,R.below,⟨C,t,h2,WJ hview hro hc1 h3⟩,hrel⟩
    .simp only[AS,zY,zG] at hi hj
     obtain⟨x,hx1,hx2⟩:=hi;obtain⟨y,hy1,hy2⟩:=hj;have e:=R.inj _ _ _ hx2 hy2;have e:x=y:=by omega
     subst e;exact(yT (zJ.1 hx1).1 hnd).1 (hx1.trans hy1.symm)
    .unfold AS at hb2
     obtain⟨k,hk,ek⟩:=zV.1 hb2;have hks:=hsm k hk;refine⟨fun e=> ?_,(R.mine (by unfold AG; omega) ek).imp id fun h=>h.1,(R.names _ _ ek).2⟩;subst e;have:=R.inj _ _ _ ek hnp;omega
   cases e' with
   | normal=>obtain rfl:e= .normal:=he; exact key hq
   | ret=>obtain rfl:e= .ret:=he; exact key hq
   | exit id=>exact hq.elim
   | pan d=>exact hq.elim
  .cases he
 .cases he
def QO(hm:P.follows .mixedOrders=T){f nt:zC}{c:Xf}{ts:J RV}{xs:J YV}{cs0 cs1:J XC}{R0 S1:Ao}{rs:J R1}{M:St}(he:AF P f=O (c.strip,ts,nt))(hl:zX xs.length nt=T)(hl0:zX R0.length 64=T)(hc1:cs1.all (XC.inZ S1.length)=T)(hσ:St.initZ xs cs0 R0=M)
  (h:go P [.code c] (Dk ts rs cs1 S1) .normal (O M)):FCz P f xs cs0 R0 cs1 S1 rs:=iU hm he (zM hl) (zM hl0) hc1 (hσ▸Kb h)
def HO{k:J Fr}{Q:Xl->St->Prop}{M:St}{its:J AItem}{d f:zC}{args:J Opd}{xs:J YV}{cs0 cs1:J XC}{R0 S1:Ao}{rs:J R1}(hf:FCz P f xs cs0 R0 cs1 S1 rs)(id:zC)(ids:J zC)(hv:Ik rs=T)(hx:E6 id (args.map M.val)=O xs)(hb:A1 M.bx id=O (cs0.map (XC.zac ids)))
  (hr:CF M.rows ids=O R0) (hnd:ids.Nodup) (hsm:ids.all (fun i=>Nat.blt i 99999999999)=T) (hl:S1.length=ids.length) (hc0:cs0.all (XC.inZ R0.length)=T)
  (h:go P (.ops its::k) Q .normal (O ((M.behindZ id ids cs1 S1).set d (BN 0 rs)))):go P (.ops ((Z,.call d f args)::its)::k) Q .normal (O M):=
 Pv (hf.callC hv hx hb hr hnd (fun i hi=>by simpa[Nat.blt_eq] using List.all_eq_true.1 hsm i hi) hl hc0) h
end
def rU(n:zA):J D:= [.int .u64 n]
def A26(n:zA):rU n= [.int .u64 n]:=rfl
instance:Row rU 1:=⟨fun _=>rfl,yH⟩
instance:FlatRow rU:=⟨fun _ d h=>by rw[zZ.1 h]; rfl⟩
instance:OfTy (.int .u64) rU:=⟨fun _ h=>h⟩
def Bt(k:IntKind)(x y:zA):zA:=k.wrap (x*2 ^ min y.toNat k.bits)
def xl{k:IntKind}{x y:zA}:AX .shl k x y=bif decide (y<0) then Z else O (.int k (Bt k x y)):=by
 by_cases h:y<0<;>simp[AX,Bt,h]
def nv{k k':IntKind}{x y:zA}:CM .shl (.v (.sc (.dat (.int k x)))) (.v (.sc (.dat (.int k' y))))=bif decide (y<0) then Z else O (.v (.sc (.dat (.int k (Bt k x y))))):=by
 by_cases h:y<0<;>simp[CM,AX,Bt,h]
def xa{k:IntKind}{x y:zA}:AX .andNot k x y=O (.int k (Bl .andNot k x y)):=rfl
def nc{M:St}{id:zC}{ids:J zC}{cs1:J XC}{S:Ao}:M.behindZ id ids cs1 S=⟨(M.killAll ids).env,put (M.killAll ids).bx id (cs1.map (XC.zac ids)),CU M.rows ids S⟩:=rfl
def yd{M:St}:M.killAll []=M:=rfl
def yc{M:St}{id:zC}{ids:J zC}:M.killAll (id::ids)=(M.map (AC.kill id)).killAll ids:=rfl
def B65{ids:J zC}{x:D}:XC.zac ids (.d x)= .dat x:=rfl
def B61{i:zC}{ids:J zC}:XC.zac (i::ids) (.r 0)= .own i:=rfl
def B62{i j:zC}{ids:J zC}:XC.zac (i::j::ids) (.r 1)= .own j:=rfl
def B63{i j k:zC}{ids:J zC}:XC.zac (i::j::k::ids) (.r 2)= .own k:=rfl
def B64{i j k l:zC}{ids:J zC}:XC.zac (i::j::k::l::ids) (.r 3)= .own l:=rfl
def B7c{ids:J zC}:zI (XC.zac ids) []= []:=rfl
def B7b{ids:J zC}{c:XC}{cs:J XC}:zI (XC.zac ids) (c::cs)=XC.zac ids c::zI (XC.zac ids) cs:=rfl
abbrev mv(d s:zC):AItem:=(Z,.mv d (.t s))
abbrev ld(d s:zC):AItem:=(Z,.load d (.t s) F 1)
abbrev fa(d s o:zC):AItem:=(Z,.faddr d (.t s) o)
abbrev bn(d:zC)(o:BinOp)(x y:zC):AItem:=(Z,.bin d o (.t x) (.t y))
abbrev lw(d s n:zC):AItem:=(Z,.load d (.t s) T n)
abbrev ca(d f:zC)(xs:J Opd):AItem:=(Z,.call d f xs)
abbrev xt(d s i:zC):AItem:=(Z,.extr d (.t s) i)
abbrev ia(d x i n:zC):AItem:=(Z,.iaddr d (.t x) (.t i) n)
abbrev ln(d s:zC):AItem:=(Z,.len d (.t s))
abbrev nt(d s:zC):AItem:=(Z,.un d .not (.t s))
abbrev bo(d s:zC):AItem:=(Z,.box d (.t s))
abbrev so(a v n:zC):AItem:=(Z,.store (.t a) (.t v) n)
abbrev po(d g x:zC):AItem:=(Z,.pick d (.t g) (KB T) (.t x))
abbrev pa(d g x:zC):AItem:=(Z,.pick d (.t g) (.t x) (KB F))
abbrev o0(x:AItem):AY:=(O [],x)
abbrev XX(a b c:J zC):AItem:=(Z,.keep a b c)
abbrev XY(d:zC)(n:zA):AItem:=(Z,.mv d (K n))
abbrev GR(d:zC)(b:zB):AItem:=(Z,.mv d (KB b))
abbrev aKn(d:zC):AItem:=(Z,.mv d KN)
abbrev aBk(d:zC)(o:BinOp)(x:zC)(n:zA):AItem:=(Z,.bin d o (.t x) (K n))
abbrev md(d:zC)(cs:J AC):AItem:=(Z,.alloc d cs)
abbrev aBs(d sz:zC)(zs:J D)(n:zC)(ps:J (zC × Opd)):AItem:=(Z,.bslice d sz zs n ps)
abbrev aBu(d:zC)(zs:J AC)(ps:J (zC × zC × Opd)):AItem:=(Z,.build d zs ps)
abbrev aAp(d sz b x y:zC):AItem:=(Z,.app d sz b (.t x) (.t y))
abbrev gMv(g:zC)(b:zB)(d s:zC):AItem:=(O (g,b),.mv d (.t s))
abbrev Mc(g:zC)(b:zB)(d s:zC):AItem:=(O (g,b),.load d (.t s) F 1)
abbrev gLw(g:zC)(b:zB)(d s n:zC):AItem:=(O (g,b),.load d (.t s) T n)
abbrev Mb(g:zC)(b:zB)(d s o:zC):AItem:=(O (g,b),.faddr d (.t s) o)
abbrev gCa(g:zC)(b:zB)(d f:zC)(xs:J Opd):AItem:=(O (g,b),.call d f xs)
abbrev Uh(g:zC)(b:zB)(d:zC)(o:BinOp)(x y:zC):AItem:=(O (g,b),.bin d o (.t x) (.t y))
abbrev gBk(g:zC)(b:zB)(d:zC)(o:BinOp)(x:zC)(n:zA):AItem:=(O (g,b),.bin d o (.t x) (K n))
abbrev gNt(g:zC)(b:zB)(d s:zC):AItem:=(O (g,b),.un d .not (.t s))
abbrev Ze(g:zC)(b:zB)(d s:zC):AItem:=(O (g,b),.len d (.t s))
abbrev gIa(g:zC)(b:zB)(d x i n:zC):AItem:=(O (g,b),.iaddr d (.t x) (.t i) n)
abbrev EF(l:J AItem)(c:Xf):Xf:= .seq (.reg l) c
abbrev Y0(l:J AItem)(n:zC)(x z:Xf):Xf:= .seq (.seq (.reg l) (.cond (.t n) x .skip)) z
abbrev QV(x y:Xf):Xf:= .seq x y
abbrev XU(n:zC)(x:Xf):Xf:= .cond (.t n) x .skip
abbrev aCn(n:zC)(x y:Xf):Xf:= .cond (.t n) x y
abbrev KK(l:J AItem):Xf:= .seq (.reg l) .ret
abbrev XZ(c e m:zC)(x y:Xf):Xf:= .seq (.cond (.t c) .skip (.exit e)) (.seq (.block m x) y)
abbrev XW(d s:zC):Xf:= .reg [(Z,.bin d .add (.t s) (K 1)),(Z,.mv s (.t d))]
abbrev XS(n:zC)(c:Xf):Xf:= .block n (.loop c)
abbrev dm(l:J D):J AC:=zI .dat l
def A28:yX ([]:J RC)=0:=rfl
def A27{c:RC}{l:J RC}:yX (c::l)=yX l+1:=rfl
def A3m{g:zC}{r r' r'':R1}:BI g [r,r',r'']=BR g 0 (r.cells++(r'.cells++r''.cells)):=by simp[BI]
def A3j{g:zC}{r r' r'' q:R1}:BI g [r,r',r'',q]=BR g 0 (r.cells++(r'.cells++(r''.cells++q.cells))):=by simp[BI]
def A3x:=zF @A3j (zF @A3m (zF @A28 (zF @A27 (zF @B7c (zF @B7b (zF @A26 (zF @xl (zF @nv (zF @xa (zF @nc (zF @yd (zF @yc (zF @B65 (zF @B61 (zF @B62 (zF @B63 @B64))))))))))))))))
def dO{α:Type}:∀(l:J (zC × α)) (n:zC) (u v:α),put (put l n u) n v=put l n v
 | [],n,u,v=>by simp[put]
 | (k,x)::r,n,u,v=>by
  by_cases h:k=n
  .simp[put,h]
  .have h':(k==n)=F:=by simpa using h
   simp[put,h',dO r n u v]
def cK{α:Type}(f:α->α):∀(l:J (zC × α)) (n:zC) (u:α),(put l n u).map (fun p=>(p.1,f p.2))=put (l.map fun p=>(p.1,f p.2)) n (f u)
 | [],n,u=>by simp[put]
 | (k,x)::r,n,u=>by
  by_cases h:k=n
  .simp[put,h]
  .have h':(k==n)=F:=by simpa using h
   simp[put,h',cK f r n u]
def Ka{P:Program}{k:J Fr}{Q:Xl->St->Prop}{M:St}{its:J AItem}{α:Type}{row:α->J D}{d sz:zC} [Row row sz]{hi:Opd}{xs:J α}{id:zC}{h:zA}{p:zC × zC}(h2:A1 M.rows id=O (sz,zI row xs))(h3:Cb (M.val hi)=O h)
  (hb:bnd (xs.length:zA) h 0 xs.length=O p) (h4:(id / 99999999999==0)=T) (H:go P (.ops its::k) Q .normal (O {((M.map (AC.kill id)).set d (.v (.sc (.own id)))) with rows:=put M.rows id (sz,zI row (xs.take p.2)) })) :
  go P (.ops ((Z,.cut d)::its)::k) Q .normal (AB M d (Ez M sz (.v (.sc (.own id))) Z (O hi) Z)):=by
 have hp:p.1=0/\p.2<=xs.length:=by
  unfold bnd at hb
  split at hb
  .cases hb; exact⟨rfl,a9⟩
  .cases hb
 have hs:Ez M sz (.v (.sc (.own id))) Z (O hi) Z=O (.v (.sc (.osub id 0 p.2))):=by
  simp only[Ez,h2,Option.isNone_none,and_self,if_true,TM,yE,Ff,h3,Io,hb,Option.map_some,hp.1]
 rw[hs,dL,Bd rfl];have hid:id / 99999999999=0:=by simpa using h4
 have e:(M.set d (.v (.sc (.osub id 0 p.2)))).step (.cut d)=O {((M.map (AC.kill id)).set d (.v (.sc (.own id)))) with rows:=put M.rows id (sz,zI row (xs.take p.2))}:=by
  have h2':A1 (M.set d (.v (.sc (.osub id 0 p.2)))).rows id=O (sz,zI row xs):=h2;simp only[St.step,St.get_set_same,if_pos hid,h2',yE,if_pos hp.2];refine congrArg O ?_;show St.mk _ _ _=St.mk _ _ _
  rw[List.map_take];congr 1
  show put (zI (fun p=>(p.1,AV.map (AC.kill id) p.2)) (put M.env d _)) d _=put (zI (fun p=>(p.1,AV.map (AC.kill id) p.2)) M.env) d _
  rw[cK,dO]
 rw[e];exact H
end
section
mutual
def Rep.toS{h:A6}:∀{d v},Rep h d v->RepS h d v
 | _,_,.int a b=> .int a b
 | _,_,.bool=> .bool
 | _,_,.str a=> .str a
 | _,_,.nil=> .nil
 | _,_,.sl a z b c d e=> .sl a z (RepRows.toS b) c d e
 | _,_,.slb a z b c d e _=> .slb a z (RepRows.toS b) c d e
 | _,_,.pd a b=> .pd a (Reps.toS b)
 | _,_,.clo a b=> .clo (Reps.toS a) b
 | _,_,.ifc a=> .ifc (Rep.toS a)
 | _,_,.ifs a b=> .ifs (Reps.toS a) b
 | _,_,.noi=> .noi
def Reps.toS{h:A6}:∀{d v},Reps h d v->RepSs h d v
 | _,_,.nil=> .nil
 | _,_,.cons a b=> .cons (Rep.toS a) (Reps.toS b)
def RepRows.toS{h:A6}:∀{sz d v},RepRows h sz d v->RepSRows h sz d v
 | _,_,_,.nil=> .nil
 | _,_,_,.cons a b c=> .cons a (Reps.toS b) (RepRows.toS c)
end
mutual
def RepS.move{h h':A6}(hh:∀b C,h b C->∃C',h' b C'/\ShL C C'):∀{d v v'},RepS h d v->ShV v v'->RepS h' d v'
 | _,_,_,.int a b,.int p q=> .int p q
 | _,_,_,.int a b,.same=> .int a b
 | _,_,_,.bool,.bool=> .bool
 | _,_,_,.bool,.same=> .bool
 | _,_,_,.str a,.str p=> .str p
 | _,_,_,.str a,.same=> .str a
 | _,_,_,.nil,.same=> .nil
 | _,_,_,.sl a z b c d e,.same=>by
  obtain⟨C',k1,k2⟩:=hh _ _ a;exact .sl k1 z (RepSRows.move hh b (k2.drop _)) c d e
 | _,_,_,.slb a z b c d e,.same=>by
  obtain⟨C',k1,k2⟩:=hh _ _ a;exact .slb k1 z (RepSRows.move hh b (k2.drop _)) c d e
 | _,_,_,.pd a b,.same=>by
  obtain⟨C',k1,k2⟩:=hh _ _ a;exact .pd k1 (RepSs.move hh b (k2.drop _))
 | _,_,_,.clo a b,.same=> .clo (RepSs.move hh a (.refl _)) b
 | _,_,_,.ifc a,.same=> .ifc (RepS.move hh a .same)
 | _,_,_,.ifs a b,.same=> .ifs (RepSs.move hh a (.refl _)) b
 | _,_,_,.noi,.same=> .noi
def RepSs.move{h h':A6}(hh:∀b C,h b C->∃C',h' b C'/\ShL C C'):∀{d v v'},RepSs h d v->ShL v v'->RepSs h' d v'
 | _,_,_,.nil,_=> .nil
 | _,_,_,.cons a b,.cons k l=> .cons (RepS.move hh a k) (RepSs.move hh b l)
def RepSRows.move{h h':A6}(hh:∀b C,h b C->∃C',h' b C'/\ShL C C'):∀{sz d v v'},RepSRows h sz d v->ShL v v'->RepSRows h' sz d v'
 | _,_,_,_,.nil,_=> .nil
 | _,_,_,_,.cons a b c,k=> .cons a (RepSs.move hh b k) (RepSRows.move hh c (k.drop _))
end
def FCf.fc{P:Program}{f:FuncId}{ds:J DV}{rs:J R1}(H:FCf P f ds rs):FC P f ds rs:=by
 intro w A vs hG hvs;refine(H w A vs hG hvs).mono fun e w' h=> ?_
 obtain⟨v,bs,h1,h2,h3,h4,h5⟩:=h;exact⟨v,bs,h1,h2,h3.conv fun c _=> .inl fun b C ⟨cc,t,fr,⟨k1,k2⟩,k3⟩=>⟨cc,t,fr,⟨k1,k2.imp id fun h=>h.elim⟩,k3⟩,h4,h5⟩
def DV.avo:DV->AV
 | .sc d=> .v (.sc (CT d))
 | .ag ds=> .v (.ag (ds.map CT))
def Mj:zC->J DV->J (zC × AV)
 | _,[]=> []
 | k,x::xs=>(k,x.avo)::Mj (k+1) xs
def St.initO(ds:J DV):St:=⟨Mj 0 ds,[],[]⟩
def YZ:∀(ds:J DV) (k i:zC),A1 (Mj k ds) i=if k<=i then(ds[i - k]?).map DV.avo else Z
 | [],k,i=>by simp[Mj,A1]
 | d::ds,k,i=>by
  simp only[Mj,A1];by_cases hk:k=i
  .subst hk; simp
  .have h':(k==i)=F:=by simpa using hk
   rw[h',cond_false,YZ ds (k+1) i];by_cases h1:k<=i
   .rw[if_pos a9,if_pos h1,show i - k=(i - (k+1))+1 by omega]; simp
   .rw[if_neg a9,if_neg h1]
def QZ(w:World)(A0:B9):Ar:=⟨fun b fr=>w.heap.size<=b/\fr=(0,0),Al A0 w,BP,T⟩
def uH(w:World)(A0:B9):Glob (QZ w A0) w.heap.size (.of w (fun _=>Z)):=by
 refine⟨fun b hb=>hb.elim (fun h=>⟨h,zE⟩) fun h=>h.elim,fun b C h=> ?_,fun _ _ h=>h.elim,fun _ _ h=>h.elim,fun _ b fr h=>⟨.inl h.1,h.2⟩⟩;obtain⟨c,t,fr,h1,h2,h3⟩:=h;exact⟨DO h2,fun hm=>(by obtain⟨i,_,e⟩:=Base.of_M hm; cases e),fun h=>h.elim,c,t,fr,h2,h3⟩
def cj{X:Cx}(hnw:X.new=T):∀{ds:J D} {vs:J Value},Reps X.o ds vs->ds.length=vs.length->CRels X (ds.map CT) vs
 | [],vs,_,hl=>by
  obtain rfl:vs= []:=zL.1 (by simpa using hl.symm);exact .nil
 | _,_,.cons a b,hl=> .cons (Vp hnw a) (cj hnw b (by simpa using hl))
def bX{w:World}{A0:B9}{ds:J DV}{vs:J Value}(nt:zC)(hG:GoodW w)(h:DVRels (Al A0 w) ds vs) :
  Rel (QZ w A0) w.heap.size (.of w (fun _=>Z)) (fun _=>Z) (St.initO ds) (vs.toArray++Array.replicate (nt - vs.toArray.size) undef) w:=by
 refine⟨BelowX.start _ _ (fun _ h=>h.elim),yI _,uH w A0,fun w2 hb=>hG.below (hb.plain fun _=>rfl),fun i b h=>(by cases h),fun i j b h=>(by cases h),fun i _=>rfl,fun k=> ?_,fun id cs h=>by simp[St.initO,A1] at h⟩;unfold St.get;rw[show(St.initO ds).env=Mj 0 ds from rfl,YZ ds 0 k];have hlen:=h.len;simp only[yQ,if_true,yV];cases hd:ds[k]? with
 | none=>exact .undef
 | some d=>
  have hk:k<vs.length:=by rw[<- hlen]; exact(zJ.1 hd).1
  have hv:vs[k]?=O (vs[k]'hk):=zH hk
  have e:(vs.toArray++Array.replicate (nt - vs.toArray.size) undef).getD k undef=vs[k]'hk:=by
   rw[Array.getD_eq_getD_getElem?,Array.getElem?_append_left (by simpa using hk)];simp[hk]
  rw[e];have hr:=DVRels.get k h hd hv;revert hr
  generalize vs[k]'hk=z
  intro hr;cases hr with
  | sc hr=>exact .v (.sc (Vp (X:=cx (QZ w A0) (fun _=>Z) (St.initO ds) w) rfl hr))
  | ag hr hl=>exact .v (.ag (cj (X:=cx (QZ w A0) (fun _=>Z) (St.initO ds) w) rfl hr hl))
section
variable {P : Program}
def iL(hm:P.follows .mixedOrders=T){f:FuncId}{fn:Func}{C:Code}{c:Xf}{ts:J RV}{ds:J DV}{rs:J R1}(hf:P.funcs[f]?=O fn)(hb:fn.body=O C)(hc:Bc P fn.ntmps C=O c.strip)
  (hr:DY P fn.results.toList=O ts) (hl:ds.length<=fn.ntmps) (h:B0 P c (A5 ts rs) (St.initO ds)):FCf P f ds rs:=by
 intro w A0 vs hG hvs;refine calls_of_wp hf hb ?_;have hlen:=hvs.len;refine wp_mono (Iq (df:= []) hm c C _ (fun _=>Z) (St.initO ds) _ w hc h (bX fn.ntmps hG hvs) d3 zE) fun e a w' hp=> ?_
 obtain⟨e',nm,M,he,hq,R,hnt,hdf⟩:=hp
 have key:QS ts rs M->a.defers= []/\∃v,(results fn a.tmps).run P w'= .ok v w'/\∃(v':Value) (bs:J (I zC)),Ending.returned v= .returned v'/\RowKit.Below w.heap.size w w'/\
   RRel (Al (fun b fr=>O b∉bs/\((w.heap.size<=b/\fr=(0,0))\/False)) w') w' rs v' bs/\(∀b,O b∈bs->w.heap.size<=b/\b<w'.heap.size)/\(∀(i j b:zC),bs[i]?=O (O b)->bs[j]?=O (O b)->i=j):=by
  rintro⟨ho,hnd⟩
  let ids:=D4 M ts rs
  have hbs:∀b,O b∈ids.map (Ba nm)->∃id,O id∈ids/\nm (2*id+1)=O b:=by
   intro b hb;obtain⟨o,ho,hb⟩:=zV.1 hb;cases o with
   | none=>simp[Ba] at hb
   | some id=>exact⟨id,ho,hb⟩
  have hview:∀b C,A9 (fun b fr=>w.heap.size<=b/\fr=(0,0)) nm w' b C->Al (fun b fr=>O b∉ids.map (Ba nm)/\((w.heap.size<=b/\fr=(0,0))\/False)) w' b C:=by
   rintro b C ⟨h1,c,t,fr,h2,h3⟩
   refine⟨c,t,fr,⟨fun hb=> ?_,.inl h2⟩,h3⟩;obtain⟨id,_,hn⟩:=hbs b hb;exact h1 _ hn
  obtain⟨vs',hrun,hvl,hrel⟩:=I0 (P:=P) (f:=fun | .tmp t=>pure (a.tmps.getD t undef) | .cell c t=>do loadVar t (<- asAddr (a.tmps.getD c undef))) R hview (fun _=>rfl) (fun _ _=>rfl) hr ho;refine⟨hdf,(if h:vs'.length=1 then vs'[0] else .tuple vs'.toArray),?_,_,ids.map (Ba nm),zE,R.below.plain (fun _=>rfl),?_,fun b hb=> ?_,fun i j b hi hj=> ?_⟩
  .unfold results;rw[<- Array.toArray_toList (xs:=fn.results)];simp only[yG,Sem.run_bind,map_eq_pure_bind];erw [hrun]
   simp only[Result.andThen_ok,Sem.run_pure];simp
  .split
   .rename_i h1
    obtain⟨v1,rfl⟩:=zT.1 h1;have hrl:rs.length=1:=by rw[ho.len,<- hvl]; exact h1
    obtain⟨r,rfl⟩:=zT.1 hrl;revert hrel
    show R1Rels _ _ [r] [v1] (ids.map (Ba nm))->_
    generalize ids.map (Ba nm)=bs
    intro hrel;cases hrel with
    | cons h1 h2=>
     cases h2;simp only[yA] at h1 ⊢
     exact .one h1
   .rename_i h1
    refine .many ?_ hrel;rw[ho.len,<- hvl];exact h1
  .obtain⟨id,_,hn⟩:=hbs b hb;obtain⟨k1,k2⟩:=R.names _ _ hn;refine⟨k1.resolve_right ?_,k2⟩;intro hmm;obtain⟨i,_,hi⟩:=Base.of_M hmm;cases hi
  .simp only[zY,zG] at hi hj
   obtain⟨x,hx,hxb⟩:=hi;obtain⟨y,hy,hyb⟩:=hj;cases x with
   | none=>simp[Ba] at hxb
   | some x=>
    cases y with
    | none=>simp[Ba] at hyb
    | some y=>
     have:=R.inj _ _ _ hxb hyb;have e:x=y:=by omega
     subst e;exact SV hnd i j x hx hy
 cases e' with
 | normal=>obtain rfl:e= .normal:=he; exact key hq
 | ret=>obtain rfl:e= .ret:=he; exact key hq
 | exit id=>exact hq.elim
 | pan d=>exact hq.elim
def iJ(hm:P.follows .mixedOrders=T){f:FuncId}{c:Xf}{ts:J RV}{nt:zC}{ds:J DV}{rs:J R1}(he:AF P f=O (c.strip,ts,nt))(hl:ds.length<=nt)(h:B0 P c (A5 ts rs) (St.initO ds)):FCf P f ds rs:=by
 unfold AF at he
 split at he
 .rename_i fn hf
  split at he
  .rename_i C ts' hb hr
   simp only[zG] at he
   obtain⟨c',hc,e⟩:=he;cases e;exact iL hm hf hb hc hr hl h
  .cases he
 .cases he
def iK(hm:P.follows .mixedOrders=T){f nt:zC}{c:Xf}{ts:J RV}{ds:J DV}{rs:J R1}{M:St}(he:AF P f=O (c.strip,ts,nt))(hl:zX ds.length nt=T)(hσ:St.initO ds=M)
  (h:go P [.code c] (A5 ts rs) .normal (O M)):FCf P f ds rs:=iJ hm he (zM hl) (hσ▸Kb h)
end
section
variable {P : Program} {A : Ar} {B : zC} {w0 : Base} {w : World} {nm : Ac} {M : St} {tmps : Array Value}
def Rel.behind0(R:Rel A B w0 nm M tmps w){d:zC}{rs:J R1}{w':World}{v:Value}{bs:J (I zC)}(hf:M.fresh d=T)(h64:(rs.flatMap R1.cells).length<=64){A':B9}
  (hA:(∀b fr,A' b fr->(∀i,nm i≠O b)/\A b fr)\/CB rs)
  (hb:RowKit.Below w.heap.size w w') (hr:RRel (Al (fun b fr=>O b∉bs/\((w.heap.size<=b/\fr=(0,0))\/A' b fr)) w') w' rs v bs) (hn:∀b,O b∈bs->w.heap.size<=b/\b<w'.heap.size)
  (hdis:∀(i j b:zC),bs[i]?=O (O b)->bs[j]?=O (O b)->i=j):∃nm',Rel A B w0 nm' {M with rows:=Bj M.rows (BI d rs)} tmps w'/\VRel (cx A nm' {M with rows:=Bj M.rows (BI d rs)} w') (BN d rs) v:=by
 let inst:Ac:=fun n=>if n % 2=1 then(bs[(n / 2) % 64]?).join else Z
 have hinst:∀n b,inst n=O b->n % 2=1/\bs[(n / 2) % 64]?=O (O b):=by
  intro n b h;simp only[inst] at h;split at h
  .rename_i h1
   refine⟨h1,?_⟩;cases hq:bs[(n / 2) % 64]? with
   | none=>rw[hq] at h; cases h
   | some q=>rw[hq] at h; simp at h; rw[h]
  .cases h
 have hl:=hr.len
 have R1:=R.grow hf hb inst (Bj M.rows (BI d rs)) (fun n b _ h=>hn b (zK (hinst n b h).2)) (fun n m b h1 h2 h3 h4=>by
   obtain⟨k1,k2⟩:=hinst n b h3;obtain⟨k3,k4⟩:=hinst m b h4;have:=hdis _ _ _ k2 k4;unfold C6 at h1 h2
   omega) (fun id hid=>S4 _ _ _ _ _ a9 hid)
 have hview:∀b C,Al (fun b fr=>O b∉bs/\((w.heap.size<=b/\fr=(0,0))\/((∀i,nm i≠O b)/\A b fr))) w' b C->A9 A (AN d inst nm) w' b C:=by
  rintro b C ⟨cc,tt,fr,⟨h1,h2⟩,h3⟩
  refine⟨fun i=> ?_,cc,tt,fr,?_,h3⟩
  .unfold AN;split
   .intro e; exact h1 (zK (hinst i b e).2)
   .intro e;rcases h2 with h2|h2
    .have:=R.names i b e; omega
    .exact h2.1 i e
  .rcases h2 with h2|h2
   .obtain⟨h2,rfl⟩:=h2;exact R.all.all b (.inl (zN R.size h2))
   .exact h2.2
 have hr2:RRel (A9 A (AN d inst nm) w') w' rs v bs:=by
  refine hr.conv fun c hc=> ?_
  rcases hA with hA|hA
  .left
   rintro b C ⟨cc,tt,fr,⟨h1,h2⟩,h3⟩
   exact hview b C ⟨cc,tt,fr,⟨h1,h2.imp id (hA b fr)⟩,h3⟩
  .exact .inr (hA c hc)
 have hv:VRel (cx A (AN d inst nm) {M with rows:=Bj M.rows (BI d rs)} w') (BN d rs) v:=by
  refine UY hr2 fun i=>⟨fun sz es e=> ?_,fun b e=> ?_⟩
  .exact S3 _ _ _ _ _ _ _ e
  .have hi:i<64:=by have:=(zJ.1 e).1; omega
   show AN d inst nm (2*(d*64+(0+i))+1)=b
   unfold AN;rw[if_pos (.inr a9)];simp only[inst];rw[if_pos a9,show(2*(d*64+(0+i))+1) / 2 % 64=i by omega,e];rfl
 exact⟨_,R1,hv⟩
def St.toDL(M:St):J AV->I (J DV)
 | []=>O []
 | x::xs=>match M.toDV x,M.toDL xs with
  | some d,O ds=>O (d::ds)
  | _,_=>Z
def VX(R:Rel A B w0 nm M tmps w):∀{avs:J AV} {vs:J Value} {ds:J DV},VsRel (cx A nm M w) avs vs->M.toDL avs=O ds->DVRels (B7 w) ds vs
 | [],vs,ds,H,h=>by
  obtain rfl:vs= []:=zL.1 H.1.symm;simp[St.toDL] at h;subst h;exact .nil
 | x::avs,vs,ds,H,h=>by
  unfold St.toDL at h;split at h
  .rename_i d ds' h1 h2
   cases h;cases vs with
   | nil=>have:=H.1; simp at this
   | cons v vs=>
    exact .cons (VY (a:=⟨tmps,[]⟩) R (H.2 0 x v zE zE) h1) (VX R ⟨by have:=H.1; simpa using this,fun i u v hu hv=>H.2 (i+1) u v (by simpa using hu) (by simpa using hv)⟩ h2)
  .cases h
def FCf.callC{f:FuncId}{ds:J DV}{rs:J R1}(H:FCf P f ds rs){d:zC}{avs:J AV}(hx:M.toDL avs=O ds)(hfr:M.fresh d=T)(h64:(rs.flatMap R1.cells).length<=64) :
  CallC P f avs M {M with rows:=Bj M.rows (BI d rs)} (BN d rs):=by
 intro A B w0 w nm tmps vs R hvs;refine(H w (fun _ _=>True) vs (R.good w R.below) ((VX R hvs hx).mono fun _ _ h=>Wp h)).mono fun e w' h=> ?_
 obtain⟨v,bs,rfl,h2,h3,h4,h5⟩:=h;obtain⟨nm',R',hv⟩:=R.behind0 hfr h64 (A':=fun _ _=>False) (.inl fun _ _ h=>h.elim) h2 h3 h4 h5;exact⟨v,nm',zE,R',hv⟩
def Pw{k:J Fr}{Q:Xl->St->Prop}{its:J AItem}{d f:zC}{args:J Opd}{ds:J DV}{rs:J R1}(hf:FCf P f ds rs)(h1:M.toDVs args=O ds)(h3:M.fresh d=T)(h4:(rs.flatMap R1.cells).length<=64)
  (h5:go P (.ops its::k) Q .normal (O (M.inst d rs))):go P (.ops ((Z,.call d f args)::its)::k) Q .normal (O M):= .inl ⟨ds,rs,.inl ⟨h1,.inr hf⟩,hf.fc,h3,h4,h5⟩
end
end
section
inductive DVS (h:A6):DV->Value->Prop
 | sc {d v}:RepS h d v->DVS h (.sc d) v
 | ag {ds vs}:RepSs h ds vs->ds.length=vs.length->DVS h (.ag ds) (.agg vs.toArray)
inductive VV where
 | d (x:D)
 | v (x:DV)
inductive VVRel (h:A6):VV->Value->Prop
 | d {x v}:Rep BP x v->VVRel h (.d x) v
 | v {x v}:DVS h x v->VVRel h (.v x) v
inductive VVRels (h:A6):J VV->J Value->Prop
 | nil:VVRels h [] []
 | cons {x v xs vs}:VVRel h x v->VVRels h xs vs->VVRels h (x::xs) (v::vs)
def VVRels.len{h:A6}:∀{xs vs},VVRels h xs vs->xs.length=vs.length
 | _,_,.nil=>rfl
 | _,_,.cons _ b=>by simp[b.len]
def VVRels.get{h:A6}:∀{xs:J VV} {vs:J Value} (i:zC) {x:VV} {v:Value},VVRels h xs vs->xs[i]?=O x->vs[i]?=O v->VVRel h x v
 | _,_,_,_,_,.nil,hd,_=>by simp at hd
 | _,_,0,_,_,.cons a _,hd,hv=>by simp at hd hv; subst hd hv; exact a
 | _,_,i+1,_,_,.cons _ b,hd,hv=>VVRels.get i b (by simpa using hd) (by simpa using hv)
def S5(A:B9):B9:=fun b fr=>A b fr/\fr=(0,0)
def R5(w:World)(A:B9):Base:=⟨w,fun _=>Z,fun _=>False,fun _ h=>h.elim,fun b=>A b (0,0)/\∃c t,w.heap[b]?=O (.cells c t (0,0)),fun b _ h=>h.elim (fun⟨i,_,e⟩=>by cases e) fun h=>h⟩
def Yi{w:World}{A:B9}{b:zC}(h:(R5 w A).M b):False:=h.elim (fun⟨i,_,e⟩=>by cases e) fun h=>h
def FCd(P:Program)(f:FuncId)(xs:J VV)(r:D):Prop:=
 ∀(w:World) (A:B9) (vs:J Value),(∀w2,BelowX w.heap.size (R5 w A) w2->GoodW w2)->VVRels (Al (S5 A) w) xs vs->Calls P f vs.toArray w fun e w'=>
  ∃v,e= .returned v/\Rep BP r v/\BelowX w.heap.size (R5 w A) w'
def VV.av:VV->AV
 | VV.d x=> .v (.sc (.dat x))
 | VV.v (DV.sc y)=> .v (.sc (.vol y))
 | VV.v (DV.ag ys)=> .v (.ag (ys.map .vol))
section
variable {P : Program}
end
def QE:J AC->I (J D)
 | []=>O []
 | .vol d::cs=>(QE cs).map (d:: ·)
 | _=>Z
def W3:AV->I VV
 | .v (.sc (.dat d))=>bif d.flat then O (.d d) else Z
 | .v (.sc (.vol d))=>O (.v (.sc d))
 | .v (.ag cs)=>(QE cs).map fun ds=> .v (.ag ds)
 | _=>Z
def QA:J AV->I (J VV)
 | []=>O []
 | a::r=>match W3 a,QA r with
  | some x,O xs=>O (x::xs)
  | _,_=>Z
section
variable {P : Program} {A : Ar} {B : zC} {w0 : Base} {w : World} {nm : Ac} {M : St} {tmps : Array Value}
def Qm(A:Ar):B9:=fun b _=>∃C,A.v b C
def Rel.volMove(R:Rel A B w0 nm M tmps w):∀b C,A.v b C->∃C',Al (S5 (Qm A)) w b C'/\ShL C C':=fun b C hC=>by
 obtain⟨c,t,fr,h1,h2,h3,_⟩:=R.volAt hC;exact⟨c.toList,⟨c,t,fr,⟨⟨C,hC⟩,h3⟩,h1,zE⟩,h2⟩
def fW{h':A6}{X:Cx}(hh:∀b C,X.v b C->∃C',h' b C'/\ShL C C'):∀{cs:J AC} {vs:J Value} {ds:J D},CRels X cs vs->QE cs=O ds->RepSs h' ds vs/\ds.length=vs.length
 | [],_,ds,.nil,h=>by simp[QE] at h; subst h; exact⟨.nil,rfl⟩
 | c::cs,_,ds,.cons a b,h=>by
  cases c<;>simp[QE] at h;obtain⟨ds',h1,rfl⟩:=h;obtain⟨k1,k2⟩:=fW hh b h1;cases a with | vol p q=>exact⟨.cons (p.move hh q) k1,by simp[k2]⟩
def A6t(R:Rel A B w0 nm M tmps w){av:AV}{v:Value}{x:VV}(H:VRel (cx A nm M w) av v)(h:W3 av=O x):VVRel (Al (S5 (Qm A)) w) x v:=by
 unfold W3 at h;split at h
 .rename_i d
  cases hf:d.flat with
  | false=>rw[hf] at h; cases h
  | true=>
   rw[hf] at h;cases h;exact .d (H.inv_sc.inv_dat.flat hf)
 .cases h;have hc:=H.inv_sc;cases hc with | vol p q=>exact .v (.sc (p.move R.volMove q))
 .simp only[zG] at h;obtain⟨ds,h1,rfl⟩:=h;obtain⟨vs,rfl,hcs⟩:=H.inv_ag;obtain⟨k1,k2⟩:=fW (X:=cx A nm M w) R.volMove hcs h1;exact .v (.ag k1 k2)
 .cases h
def fK(R:Rel A B w0 nm M tmps w):∀{avs:J AV} {vs:J Value} {xs:J VV},VsRel (cx A nm M w) avs vs->QA avs=O xs->VVRels (Al (S5 (Qm A)) w) xs vs
 | [],vs,xs,H,h=>by
  simp[QA] at h;subst h;obtain rfl:vs= []:=zL.1 H.1.symm;exact .nil
 | a::avs,vs,xs,H,h=>by
  unfold QA at h;split at h
  .rename_i x xs' h1 h2
   cases h;cases vs with
   | nil=>have:=H.1; simp at this
   | cons v vs=>
    exact .cons (A6t R (H.2 0 a v zE zE) h1) (fK R ⟨by have:=H.1; simpa using this,fun i u v hu hv=>H.2 (i+1) u v (by simpa using hu) (by simpa using hv)⟩ h2)
  .cases h
def FCd.callC{f:FuncId}{xs:J VV}{r:D}(H:FCd P f xs r){avs:J AV}(hx:QA avs=O xs):CallC P f avs M M (.v (.sc (.dat r))):=by
 intro A B w0 w nm tmps vs R hvs;have after:∀w2,BelowX w.heap.size (R5 w (Qm A)) w2->BelowX B w0 w2:=fun w2 h=>R.below.afterZ rfl h R.size R.there (fun b hb=>(Yi hb).elim) fun b ⟨⟨C,hC⟩,_⟩=> .inr (R.all.vol b C hC).1
 refine(H w (Qm A) vs (fun w2 h=>R.good w2 (after w2 h)) (fK R hvs hx)).mono fun e w' h=> ?_
 obtain⟨v,rfl,hv,hb⟩:=h;have hsame:∀b,b<w.heap.size->¬w0.vv b->w'.heap[b]?=w.heap[b]?:=fun b hlt hn=>hb.block b hlt (fun h=>Yi h) fun⟨⟨C,hC⟩,_⟩=>hn (R.all.vol b C hC).1
 have hnm:∀i b,nm i=O b->¬w0.vv b:=fun i b hi hv=>by
  rcases(R.names i b hi).1 with h1|h1
  .have:=R.below.vlt b hv; omega
  .exact w0.no b hv h1
 have hview:∀b C,A9 A nm w b C->A9 A nm w' b C:=by
  rintro b C ⟨h1,c,t,fr,hA,h2,h3⟩
  exact⟨h1,c,t,fr,hA,(hsame b (DO h2) fun hv=>R.all.vout b fr hv hA).trans h2,h3⟩
 refine⟨v,nm,zE,?_,.v (.sc (.dat (hv.mono GE)))⟩;refine R.carry (f:=fun c=>c) (after w' hb) (zN R.size hb.size) (fun i b hi=> ?_) R.inj (fun _ _=>rfl) (fun k=>by rw[AV.mapId]) (fun id=>by simp) (fun id cs _ b hbn=>⟨hbn,hsame b (R.names _ _ hbn).2 (hnm _ _ hbn)⟩) (fun c v _ hr=> ?_)
 .obtain⟨h1,h2⟩:=R.names i b hi;exact⟨h1,zS h2 hb.size⟩
 .exact hr.move hview (fun id _=> .inr ⟨zE,zE,fun b hbn=>hsame b (R.names _ _ hbn).2 (hnm _ _ hbn)⟩) (fun id _ b hbn=>hbn)
end
def AC.wipe:AC->AC
 | .dat d=>bif d.fl then .dat d else .undef
 | .mix _=> .undef
 | c=>c
def AC.isOld:AC->zB
 | .old _=>T
 | _=>F
section
variable {P : Program} {A : Ar} {B : zC} {w0 : Base} {w : World} {nm : Ac} {M : St} {tmps : Array Value}
def Rel.isNewB(R:Rel A B w0 nm M tmps w){id:zC}{cs:J AC}(hf:A1 M.bx id=O cs)(h:cs.any AC.isOld=T):A.new=T:=by
 obtain⟨b,C,t,_,_,H⟩:=R.bxs id cs hf;obtain⟨c,hc,ho⟩:=List.any_eq_true.1 h;cases c<;>simp[AC.isOld] at ho
 rename_i d
 have key:∀{cs:J AC} {vs:J Value},CRels (cx A nm M w) cs vs-> .old d∈cs->A.new=T:=by
  intro cs vs h
  induction h with
  | nil=>intro hm; cases hm
  | cons a b ih=>
   intro hm;rcases zR.1 hm with rfl|hm
   .cases a with | old hn _=>exact hn
   .exact ih hm
 exact key H hc
end
section
variable {M : St}
def zx{rs:Rows}{es:J (J D)}:Et rs (.v (.sc (.old (.sl es))))=O (.v (.sc (.dat (.int .i64 es.length)))):=rfl
def A0b{rs:Rows}{es:J (J D)}:Et rs (.v (.sc (.vol (.sl es))))=O (.v (.sc (.dat (.int .i64 es.length)))):=rfl
def wZ{α:Type}{rs:Rows}{sz:zC}{xs:J α}{row:α->J D} [Row row sz]{kd:IntKind}{i:zA}:Dc rs sz (.v (.sc (.old (.sl (zI row xs))))) (.v (.sc (.dat (.int kd i))))=(ix xs i).map fun x=> .v (.sc (.old (.pd (row x)))):=by
 simp only[Dc,Sv];cases ix xs i with
 | none=>rfl
 | some x=>simp[Row.len (row:=row) (sz:=sz),Row.pos row]
def wd{α:Type}{rs:Rows}{sz:zC}{xs:J α}{row:α->J D} [Row row sz]{kd:IntKind}{i:zA}:Dc rs sz (.v (.sc (.vol (.sl (zI row xs))))) (.v (.sc (.dat (.int kd i))))=(ix xs i).map fun x=> .v (.sc (.vol (.pd (row x)))):=by
 simp only[Dc,Sv];cases ix xs i with
 | none=>rfl
 | some x=>simp[Row.len (row:=row) (sz:=sz),Row.pos row]
def A0l{g:zB}{n:zC}{cs:J D}:CS M g n (.v (.sc (.old (.pd cs))))=D1 (zI CT cs) 0 g n:=rfl
def A0p{n:zC}{es:J (J D)}{cs:J D}:CS M F n (.v (.sc (.vol (.pd (.sl es::cs)))))=O (.v (.sc (.vol (.sl es)))):=rfl
def tG{rs:Rows}{off:zC}{cs:J D}:CA rs off (.v (.sc (.old (.pd cs))))=(DC off cs).map fun cs=> .v (.sc (.old (.pd cs))):=by
 simp only[CA,N7];split<;>rfl
def tK{rs:Rows}{off:zC}{cs:J D}:CA rs off (.v (.sc (.vol (.pd cs))))=(DC off cs).map fun cs=> .v (.sc (.vol (.pd cs))):=by
 simp only[CA,N7];split<;>rfl
def A1k{cs:J D}:GD (.v (.sc (.old (.pd cs))))=O (.v (.sc (.old (.pd cs)))):=rfl
def A1o{cs:J D}:GD (.v (.sc (.vol (.pd cs))))=O (.v (.sc (.vol (.pd cs)))):=rfl
def A5k{k:IntKind}{n m:zA}{cs:J D}:St.storeV M 1 (.v (.sc (.vol (.pd (.int k n::cs))))) (.v (.sc (.dat (.int k m))))=O M:=by cases k<;>rfl
def A5j{n m:zB}{cs:J D}:St.storeV M 1 (.v (.sc (.vol (.pd (.bool n::cs))))) (.v (.sc (.dat (.bool m))))=O M:=rfl
def A5l{n m:J zD}{cs:J D}:St.storeV M 1 (.v (.sc (.vol (.pd (.str n::cs))))) (.v (.sc (.dat (.str m))))=O M:=rfl
def A1y{k:IntKind}{n:zA}:CT (.int k n)= .dat (.int k n):=rfl
def A1x{b:zB}:CT (.bool b)= .dat (.bool b):=rfl
def A10{s:J zD}:CT (.str s)= .dat (.str s):=rfl
def A1z{es:J (J D)}:CT (.sl es)= .old (.sl es):=rfl
def A12:zI CT []= []:=rfl
def A11{d:D}{ds:J D}:zI CT (d::ds)=CT d::zI CT ds:=rfl
def A7f:zI AC.vol []= []:=rfl
def A7e{d:D}{ds:J D}:zI AC.vol (d::ds)= .vol d::zI AC.vol ds:=rfl
def ym{id:zC}{d:D}:AC.kill id (.old d)= .old d:=rfl
def yq{id:zC}{d:D}:AC.kill id (.vol d)= .vol d:=rfl
def tn{id:zC}{es:J (J D)}{d:D}:AC.frz id es (.old d)= .old d:=rfl
def tr{id:zC}{es:J (J D)}{d:D}:AC.frz id es (.vol d)= .vol d:=rfl
def A9r{k:IntKind}{n:zA}:AC.wipe (.dat (.int k n))= .dat (.int k n):=rfl
def A9p{b:zB}:AC.wipe (.dat (.bool b))= .dat (.bool b):=rfl
def A9y{s:J zD}:AC.wipe (.dat (.str s))= .dat (.str s):=rfl
def A9s{es:J (J D)}:AC.wipe (.dat (.sl es))= .undef:=rfl
def A9x{cs:J D}:AC.wipe (.dat (.pd cs))= .undef:=rfl
def A9z:AC.wipe .undef= .undef:=rfl
def A9u:AC.wipe .nil= .nil:=rfl
def A9v{id:zC}:AC.wipe (.own id)= .own id:=rfl
def A9q{id o:zC}:AC.wipe (.pb id o)= .pb id o:=rfl
def A9w{d:D}:AC.wipe (.old d)= .old d:=rfl
def nN{N:J zC}{d:D}:AV.avoids N (.v (.sc (.old d)))=T:=by simp[AV.avoids,AV.cells,V1.cells,AC.avoids,AC.uses]
end
def A3v:=zF @zx (zF @A0b (zF @wZ (zF @wd (zF @A0l (zF @A0p (zF @tG (zF @tK (zF @A1k (zF @A1o (zF @A5k (zF @A5j (zF @A5l (zF @A1y (zF @A1x (zF @A10 (zF @A1z (zF @A12 (zF @A11 (zF @A7f (zF @A7e (zF @ym (zF @yq (zF @tn (zF @tr (zF @A9r (zF @A9p (zF @A9y (zF @A9s (zF @A9x (zF @A9z (zF @A9u (zF @A9v (zF @A9q (zF @A9w @nN))))))))))))))))))))))))))))))))))
end
section
section
variable {P : Program} {k : J Fr} {Q : Xl -> St -> Prop} {M : St} {its : J AItem}
def Pu{d:zC}{x i:Opd}{len id:zC}{kd:IntKind}{n:zA}(hx:M.val x= .v (.sc (.pb id 0)))(hi:M.val i= .v (.sc (.dat (.int kd n))))(h:(decide (0<=n)&&decide (n<(len:zA)))=T)
  (H:go P (.ops its::k) Q .normal (O (M.set d (.v (.sc (.pb id n.toNat)))))):go P (.ops ((Z,.aaddr d x i len 1)::its)::k) Q .normal (O M):=by
 simp only[zQ,decide_eq_true_eq] at h;rw[uI,hx,hi];simp only[MT,h,and_self,if_true,Nat.zero_add,Nat.mul_one];exact H
end
def FD{n:zA}{m:zC}(h:(decide (0<=n)&&decide (n<(m:zA)))=T):n.toNat<m:=by
 simp only[zQ,decide_eq_true_eq] at h;omega
def TH{cs:J AC}{n:zC}(h:n<cs.length):Cd cs (n+1)=T:=by
 rw[Q5];exact decide_eq_true h
def TI{c:AC}{cs:J AC}{n:zC}(h:n<(c::cs).length):Cd cs n=T:=by
 rw[Q5];exact decide_eq_true (Nat.le_of_lt_succ h)
def Ye{bs:J zB}{n:zC}{b:zB}(h:bs[n]?=O b):(bs.map fun b=>AC.dat (.bool b))[n]?=O (.dat (.bool b)):=by simp[h]
end
section
def Tx(w w':World)(A:B9)(p:zC)(bs:J (I zC)):A6:=Al (fun b fr=>(O b∉bs/\b≠p)/\((w.heap.size<=b/\fr=(0,0))\/A b fr)) w'
def FCo(P:Program)(f:FuncId)(xs:J YV)(cs0 cs1:J D)(rs:J R1):Prop:=
 ∀(w:World) (A:B9) (p:zC) (vs:J Value),(∀w2,BelowX w.heap.size (.of w (Cq p)) w2->GoodW w2)->p<w.heap.size->(∀fr,¬A p fr)->KH (Al A w) w p cs0->YVRels (Al A w) p xs vs->Calls P f vs.toArray w fun e w'=>
  ∃(v:Value) (bs:J (I zC)),e= .returned v/\BelowX w.heap.size (.of w (Cq p)) w'/\KH (Tx w w' A p bs) w' p cs1/\RRel (Tx w w' A p bs) w' rs v bs/\
   (∀b,O b∈bs->w.heap.size<=b/\b<w'.heap.size)/\(∀(i j b:zC),bs[i]?=O (O b)->bs[j]?=O (O b)->i=j)
section
variable {P : Program} {A : Ar} {B : zC} {w0 : Base} {w : World} {nm : Ac} {M : St} {tmps : Array Value}
def FCo.callC{f:FuncId}{xs:J YV}{cs0 cs1:J D}{rs:J R1}(H:FCo P f xs cs0 cs1 rs){id d:zC}{avs:J AV}(hx:E6 id avs=O xs)(hb:A1 M.bx id=O (cs0.map .dat))(hf:M.fresh d=T)(h64:(rs.flatMap R1.cells).length<=64) :
  CallC P f avs M {M with bx:=put M.bx id (cs1.map .dat),rows:=Bj M.rows (BI d rs)} (BN d rs):=by
 intro A B w0 w nm tmps vs R hvs;obtain⟨p,C,t,h1,h2,h3⟩:=R.bxs id _ hb;have h1':nm (2*id)=O p:=h1;have hpl:=(R.names _ _ h1').2;obtain⟨k1,k2⟩:=CRels.reps h3;refine(H w (fun b fr=>(∀i,nm i≠O b)/\A b fr) p vs (fun w2 hb2=>R.good w2 (R.below.after hb2 R.size R.there fun i b e=> ?_)) hpl (fun _ h=>h.1 _ h1') ⟨C,t,h2,by rw[E7]; exact k1,k2⟩ (by rw[E7]; exact T9 h1' hvs hx)).mono fun e w' h=> ?_
 .obtain⟨_,rfl⟩:=HX e;exact(R.names _ _ h1').1
 obtain⟨v,bs,rfl,g1,g2,g3,hn,hdis⟩:=h
 have hM:∀b,Base.M (.of w (Cq p)) b->b=p:=fun b hmm=>by
  obtain⟨i,_,e⟩:=Base.of_M hmm;exact(HX e).2.symm
 have hsame:∀b,b<w.heap.size->b≠p->w'.heap[b]?=w.heap[b]?:=fun b hlt h=>g1.block b hlt (fun hm=>h (hM b hm)) fun hv=>hv.elim
 have hsz:w.heap.size<=w'.heap.size:=g1.size;have hpw:p<w'.heap.size:=zS hpl hsz;let w1:World:={w' with heap:=w'.heap.setIfInBounds p (w.heap[p])}
 have hw1:∀b,b≠p->w1.heap[b]?=w'.heap[b]?:=fun b hb=>by
  show(w'.heap.setIfInBounds p _)[b]?=_
  rw[Array.getElem?_setIfInBounds_ne (Ne.symm hb)]
 have hw1p:w1.heap[p]?=w.heap[p]?:=by
  show(w'.heap.setIfInBounds p _)[p]?=_
  rw[Array.getElem?_setIfInBounds_self_of_lt hpw,Array.getElem?_eq_getElem hpl]
 have hw1s:w1.heap.size=w'.heap.size:=by show(w'.heap.setIfInBounds p _).size=_; simp
 have hbel:RowKit.Below w.heap.size w w1:=⟨g1.os,g1.tape,g1.output,by rw[hw1s]; exact hsz,fun k hk=>by
  by_cases hkp:k=p
  .subst hkp; exact hw1p
  .rw[hw1 k hkp]; exact hsame k hk hkp⟩
 let inst:Ac:=fun n=>if n % 2=1 then(bs[(n / 2) % 64]?).join else Z
 have hinst:∀n b,inst n=O b->n % 2=1/\bs[(n / 2) % 64]?=O (O b):=by
  intro n b h;simp only[inst] at h;split at h
  .rename_i h1
   refine⟨h1,?_⟩;cases hq:bs[(n / 2) % 64]? with
   | none=>rw[hq] at h; cases h
   | some q=>rw[hq] at h; simp at h; rw[h]
  .cases h
 have hl:=g3.len
 have R1:=R.grow hf hbel inst (Bj M.rows (BI d rs)) (fun n b _ h=>by rw[hw1s]; exact hn b (zK (hinst n b h).2)) (fun n m b h1 h2 h3 h4=>by
   obtain⟨k1,k2⟩:=hinst n b h3;obtain⟨k3,k4⟩:=hinst m b h4;have:=hdis _ _ _ k2 k4;unfold C6 at h1 h2
   omega) (fun id hid=>S4 _ _ _ _ _ a9 hid)
 have hfew:=St.fresh_few hf;have hne:id≠d:=St.fresh_bx hf hb
 have hp1:AN d inst nm (2*id)=O p:=by
  unfold AN;rw[if_neg (by unfold C6; omega)];exact h1'
 have hname:∀b,(O b∉bs/\b≠p)->∀i,(∀j,nm j≠O b)\/w.heap.size<=b->AN d inst nm i≠O b:=fun b hb i hor=>by
  unfold AN;split
  .intro e; exact hb.1 (zK (hinst i b e).2)
  .intro e;rcases hor with h|h
   .exact h i e
   .have:=(R.names i b e).2; omega
 have hview:∀b C,Tx w w' (fun b fr=>(∀i,nm i≠O b)/\A b fr) p bs b C->(∀i,AN d inst nm i≠O b)/\∃c t fr,(b≠p/\A b fr)/\w'.heap[b]?=O (.cells c t fr)/\c.toList=C:=by
  rintro b C ⟨cc,tt,fr,⟨q1,q2⟩,q3⟩
  rcases q2 with ⟨q2,rfl⟩|q2
  .exact⟨fun i=>hname b q1 i (.inr q2),cc,tt,_,⟨q1.2,R.all.all b (.inl (zN R.size q2))⟩,q3⟩
  .exact⟨fun i=>hname b q1 i (.inl q2.1),cc,tt,fr,⟨q1.2,q2.2⟩,q3⟩
 obtain⟨C1,t1,e1,e2,e3⟩:=g2
 have hbx1:BelowX w1.heap.size (.of w1 (Cq p)) w':=by
  refine⟨zE,zE,zE,by rw[show(Base.of w1 (Cq p)).w=w1 from zE,hw1s]; exact yI _,fun k hk hm _=> ?_,fun k hm C t fr hC=> ?_,fun k hv=>hv.elim,fun k hv=>hv.elim⟩
  .have hkp:k≠p:=fun e=>hm (.inl ⟨199999999998,by unfold AG; omega,by rw[e]; exact(show Cq p 199999999998=O p from if_pos rfl)⟩)
   exact(hw1 k hkp).symm
  .obtain⟨i,_,e⟩:=Base.of_M hm;obtain⟨_,rfl⟩:=HX e;have hC':w.heap[p]?=O (.cells C t fr):=hw1p.symm.trans hC;exact g1.room p (.inl ⟨199999999998,by unfold AG; omega,(show Cq p 199999999998=O p from if_pos zE)⟩) C t fr hC'
 have R2:=Yk R1 hp1 hbx1 ⟨C1,t1,e1,e2.mono fun b C hb2=>by
   obtain⟨q1,cc,tt,fr,q2,q3⟩:=hview b C hb2;exact⟨cc,tt,fr,⟨q2.1,.inr ⟨q1,q2.2⟩⟩,q3⟩,e3⟩
 refine⟨v,AN d inst nm,zE,R2,?_⟩;refine UY (g3.conv fun c _=> .inl fun b C hb2=> ?_) fun i=>⟨fun sz es e=> ?_,fun b e=> ?_⟩
 .obtain⟨q1,cc,tt,fr,q2,q3⟩:=hview b C hb2;exact⟨q1,cc,tt,fr,q2.2,q3⟩
 .exact S3 _ _ _ _ _ _ _ e
 .have hi:i<64:=by have:=(zJ.1 e).1; omega
  show AN d inst nm (2*(d*64+(0+i))+1)=b
  unfold AN;rw[if_pos (.inr a9)];simp only[inst];rw[if_pos a9,show(2*(d*64+(0+i))+1) / 2 % 64=i by omega,e];rfl
end
section
variable {P : Program}
end
def RC.asV:RC->RC
 | .v d=> .v d
 | .o _ es=> .v (.sl es)
def R1.asV:R1->R1
 | .sc c=> .sc c.asV
 | .ag cs=> .ag (cs.map RC.asV)
def RCRel.asV{h h':A6}{w:World}{c:RC}{v:Value}{b:I zC}(H:RCRel h w c v b)(hh:∀b C,h b C->h' b C)(hb:∀k,b=O k->∀C t,w.heap[k]?=O (.cells C t (0,0))->h' k C.toList):RCRel h' w c.asV v Z:=by
 cases H with
 | v hd=>exact .v (hd.mono hh)
 | nil=>exact .v .nil
 | o own hl=>
  obtain⟨pos,room,small,C,t,h1,h2,h3⟩:=own;exact .v (.sl (hb _ zE C t h1) pos (by simpa using h3.mono hh) hl a9 small)
def RCRels.asV{h h':A6}{w:World}(hh:∀b C,h b C->h' b C):∀{cs:J RC} {vs:J Value} {bs:J (I zC)},RCRels h w cs vs bs->(∀k,O k∈bs->∀C t,w.heap[k]?=O (.cells C t (0,0))->h' k C.toList)->RCRels h' w (cs.map RC.asV) vs (bs.map fun _=>Z)
 | _,_,_,.nil,_=> .nil
 | _,_,_,.cons a b,hb=> .cons (a.asV hh fun k e=>hb k (by rw[e]; exact zP)) (RCRels.asV hh b fun k hk=>hb k (zO _ hk))
def R1Rel.asV{h h':A6}{w:World}(hh:∀b C,h b C->h' b C){r:R1}{v:Value}{bs:J (I zC)}(H:R1Rel h w r v bs)(hb:∀k,O k∈bs->∀C t,w.heap[k]?=O (.cells C t (0,0))->h' k C.toList):R1Rel h' w r.asV v (bs.map fun _=>Z):=by
 cases H with
 | sc a=>exact .sc (a.asV hh fun k e=>hb k (by rw[e]; exact zP))
 | ag a=>exact .ag (a.asV hh hb)
def R1Rels.asV{h h':A6}{w:World}(hh:∀b C,h b C->h' b C):∀{rs:J R1} {vs:J Value} {bs:J (I zC)},R1Rels h w rs vs bs->(∀k,O k∈bs->∀C t,w.heap[k]?=O (.cells C t (0,0))->h' k C.toList)->R1Rels h' w (rs.map R1.asV) vs (bs.map fun _=>Z)
 | _,_,_,.nil,_=> .nil
 | _,_,_,.cons a b,hb=>by
  rw[yM];exact .cons (a.asV hh fun k hk=>hb k (List.mem_append_left _ hk)) (R1Rels.asV hh b fun k hk=>hb k (List.mem_append_right _ hk))
def RRel.asV{h h':A6}{w:World}(hh:∀b C,h b C->h' b C){rs:J R1}{v:Value}{bs:J (I zC)}(H:RRel h w rs v bs)(hb:∀k,O k∈bs->∀C t,w.heap[k]?=O (.cells C t (0,0))->h' k C.toList):RRel h' w (rs.map R1.asV) v (bs.map fun _=>Z):=by
 cases H with
 | one a=>exact .one (a.asV hh hb)
 | many h a=>exact .many (by simpa using h) (a.asV hh hb)
def DU{bs:J (I zC)}{b:zC}:O b∉bs.map fun _=>(Z:I zC):=by simp
def FC.asV{P:Program}{f:FuncId}{ds:J DV}{rs rs':J R1}(H:FC P f ds rs)(e:rs.map R1.asV=rs'):FC P f ds rs':=by
 subst e;intro w A vs hG hvs;refine(H w A vs hG hvs).mono fun e w' h=> ?_
 obtain⟨v,bs,rfl,h2,h3,h4,_⟩:=h;refine⟨v,bs.map fun _=>Z,zE,h2,h3.asV (fun b C ⟨c,t,fr,⟨_,k2⟩,k3⟩=>⟨c,t,fr,⟨DU,k2⟩,k3⟩) (fun k hk C t hC=>⟨C,t,_,⟨DU,.inl ⟨(h4 k hk).1,zE⟩⟩,hC,zE⟩),fun b hb=>absurd hb DU,fun i j b hi _=> ?_⟩;have:=zK hi;exact absurd this DU
end
section
inductive TV where
 | d (x:DV)
 | r
inductive TVRel (h:A6) (w:World) (o:I zC) (sz:zC) (es:J (J D)):TV->Value->Prop
 | d {x v}:DVRel h x v->TVRel h w o sz es (.d x) v
 | r {v}:RCRel h w (.o sz es) v o->TVRel h w o sz es .r v
inductive TVRels (h:A6) (w:World) (o:I zC) (sz:zC) (es:J (J D)):J TV->J Value->Prop
 | nil:TVRels h w o sz es [] []
 | cons {x v xs vs}:TVRel h w o sz es x v->TVRels h w o sz es xs vs->TVRels h w o sz es (x::xs) (v::vs)
def TVRels.len{h:A6}{w:World}{o:I zC}{sz:zC}{es:J (J D)}:∀{xs vs},TVRels h w o sz es xs vs->xs.length=vs.length
 | _,_,.nil=>rfl
 | _,_,.cons _ b=>by simp[b.len]
def TVRels.get{h:A6}{w:World}{o:I zC}{sz:zC}{es:J (J D)}:∀{xs:J TV} {vs:J Value} (i:zC) {x:TV} {v:Value},TVRels h w o sz es xs vs->xs[i]?=O x->vs[i]?=O v->TVRel h w o sz es x v
 | _,_,_,_,_,.nil,hd,_=>by simp at hd
 | _,_,0,_,_,.cons a _,hd,hv=>by simp at hd hv; subst hd hv; exact a
 | _,_,i+1,_,_,.cons _ b,hd,hv=>TVRels.get i b (by simpa using hd) (by simpa using hv)
def GV(w:World)(o:I zC):Base:=⟨w,fun _=>Z,fun b=>o=O b/\b<w.heap.size,fun _ h=>h.2,fun _=>False,fun _ h=>h.elim⟩
def TJ{w:World}{o:I zC}{b:zC}(h:(GV w o).M b):o=O b:=h.elim (fun⟨_,_,e⟩=>by cases e) fun h=>h.1
def FCt(P:Program)(f:FuncId)(xs:J TV)(sz:zC)(es0 es1:J (J D)):Prop:=
 ∀(w:World) (A:B9) (vs:J Value) (o:I zC),(∀b,o=O b->b<w.heap.size/\∀fr,¬A b fr)->(∀w2,BelowX w.heap.size (GV w o) w2->GoodW w2)->TVRels (Al A w) w o sz es0 xs vs->Calls P f vs.toArray w fun e w'=>
  ∃(v:Value) (o':I zC),e= .returned v/\(∀b,o'=O b->(w.heap.size<=b\/o=O b)/\b<w'.heap.size)/\BelowX w.heap.size (GV w o) w'/\
   RCRel (Al (fun b fr=>o'≠O b/\((w.heap.size<=b/\fr=(0,0))\/A b fr\/(o=O b/\fr=(0,0)))) w') w' (.o sz es1) v o'
def W1(id:zC):AV->I TV
 | .v (.sc (.own k))=>bif k==id then O .r else Z
 | x=>(KA x).map .d
def MO(id:zC):J AV->I (J TV)
 | []=>O []
 | x::xs=>match W1 id x,MO id xs with
  | some y,O ys=>O (y::ys)
  | _,_=>Z
section
variable {P : Program} {A : Ar} {B : zC} {w0 : Base} {w : World} {nm : Ac} {M : St} {tmps : Array Value}
def Qg{X:Cx}{id sz:zC}{es:J (J D)}{v:Value}(H:CRel X (.own id) v)(hf:A1 X.rs id=O (sz,es)):RCRel X.h X.w (.o sz es) v (X.nm (2*id+1)):=by
 rcases H.inv_own hf with ⟨rfl,k1,a0,rfl⟩|⟨b,cap,k1,k2,rfl⟩
 .rw[k1]; exact .nil
 .rw[k1]; exact .o k2 rfl
def A6r{id sz:zC}{es:J (J D)}(hf:A1 M.rows id=O (sz,es)){av:AV}{v:Value}{x:TV}(H:VRel (cx A nm M w) av v)(h:W1 id av=O x):TVRel (A9 A nm w) w (nm (2*id+1)) sz es x v:=by
 unfold W1 at h;split at h
 .rename_i k
  by_cases hk:k=id
  .subst hk;simp at h;subst h;exact .r (Qg (X:=cx A nm M w) H.inv_sc hf)
  .have:(k==id)=F:=by simpa using hk
   simp[this] at h
 .simp only[zG] at h;obtain⟨d,h1,rfl⟩:=h;exact .d (MK (X:=cx A nm M w) H h1)
def fH{id sz:zC}{es:J (J D)}(hf:A1 M.rows id=O (sz,es)):∀{avs:J AV} {vs:J Value} {xs:J TV},VsRel (cx A nm M w) avs vs->MO id avs=O xs->TVRels (A9 A nm w) w (nm (2*id+1)) sz es xs vs
 | [],vs,xs,H,h=>by
  simp[MO] at h;subst h;obtain rfl:vs= []:=zL.1 H.1.symm;exact .nil
 | a::avs,vs,xs,H,h=>by
  unfold MO at h;split at h
  .rename_i x xs' h1 h2
   cases h;cases vs with
   | nil=>have:=H.1; simp at this
   | cons v vs=>
    exact .cons (A6r hf (H.2 0 a v zE zE) h1) (fH hf ⟨by have:=H.1; simpa using this,fun i u v hu hv=>H.2 (i+1) u v (by simpa using hu) (by simpa using hv)⟩ h2)
  .cases h
def St.behindT(M:St)(id d sz:zC)(es1:J (J D)):St:={M.map (AC.kill id) with rows:=put (erase M.rows [id]) (d*64) (sz,es1)}
def FCt.callC{f:FuncId}{xs:J TV}{sz:zC}{es0 es1:J (J D)}(H:FCt P f xs sz es0 es1){id d:zC}{avs:J AV}(hx:MO id avs=O xs)(hf:A1 M.rows id=O (sz,es0))(hfr:M.fresh d=T)(hid:id<99999999999)(hne:id≠d*64) :
  CallC P f avs M (M.behindT id d sz es1) (.v (.sc (.own (d*64)))):=by
 intro A B w0 w nm tmps vs R hvs;have hM:∀b,(GV w (nm (2*id+1))).M b->nm (2*id+1)=O b:=fun b h=>TJ h
 refine(H w (fun b fr=>(∀i,nm i≠O b)/\A b fr) vs (nm (2*id+1)) (fun b e=>⟨(R.names _ _ e).2,fun _ h=>h.1 _ e⟩) (fun w2 hb2=>R.good w2 (R.below.afterZ zE hb2 R.size R.there (fun b hm=>(R.names _ _ (hM b hm)).1) fun b hv=>hv.elim)) (by rw[E7]; exact fH hf hvs hx)).mono fun e w' h=> ?_
 obtain⟨v,o',rfl,hn,hb,hr⟩:=h;have hfew:=St.fresh_few hfr;have hsame:∀b,b<w.heap.size->nm (2*id+1)≠O b->w'.heap[b]?=w.heap[b]?:=fun b hlt h=>hb.block b hlt (fun hm=>h (hM b hm)) fun hv=>hv.elim
 let nm':Ac:=fun n=>if n=2*id+1 then Z else if n=2*(d*64)+1 then o' else nm n
 have hcas:∀n b,nm' n=O b->(n=2*(d*64)+1/\o'=O b)\/(n≠2*id+1/\n≠2*(d*64)+1/\nm n=O b):=fun n b h=>by
  simp only[nm'] at h;split at h
  .cases h
  .rename_i h1
   split at h
   .rename_i h2; exact .inl ⟨h2,h⟩
   .rename_i h2; exact .inr ⟨h1,h2,h⟩
 have hbel:BelowX B w0 w':=R.below.afterZ rfl hb R.size R.there (fun b hm=>(R.names _ _ (hM b hm)).1) fun b hv=>hv.elim
 have hview:∀b C,A9 A nm w b C->A9 A nm' w' b C:=CW fun b hlt hnb=>⟨fun i e=>by
  rcases hcas i b e with ⟨_,e2⟩|⟨_,_,e2⟩
  .rcases(hn b e2).1 with h|h
   .omega
   .exact hnb _ h
  .exact hnb i e2,hsame b hlt (hnb _)⟩
 have RK:=R.killed id
 have hrow:∀k,k≠id->k / 64≠d->A1 (M.behindT id d sz es1).rows k=A1 M.rows k:=fun k h1 h2=>by
  show A1 (put (erase M.rows [id]) (d*64) (sz,es1)) k=_
  rw[Bn _ _ a9,HK];have: [id].contains k=F:=by simpa using h1
  rw[this];rfl
 have hcell:∀c v,(M.map (AC.kill id)).Uses c->CRel (cx A nm (M.map (AC.kill id)) w) c v->CRel (cx A nm' (M.behindT id d sz es1) w') c v:=fun c v hu H=>by
  obtain⟨c0,hu0,rfl⟩:=Wn hu
  have hfd:∀k,(AC.kill id c0).has k=T->k≠id/\k / 64≠d:=fun k hk=>by
   obtain⟨q1,q2⟩:=Uo hk;refine⟨q2,fun e=> ?_⟩;have:=Wo q1;rw[e,St.fresh_uses hfr hu0] at this
   cases this
  refine H.move hview (fun k hk=> .inr ?_) (fun k hk b hb2=> ?_)
  .obtain⟨q1,q2⟩:=hfd k hk;refine⟨hrow k q1 q2,?_,fun b hbn=>hsame b (R.names _ b hbn).2 fun e=> ?_⟩
   .show nm' (2*k+1)=nm (2*k+1)
    simp only[nm'];rw[if_neg a9,if_neg a9]
   .have:=R.inj _ _ _ hbn e;omega
  .show nm' (2*k)=O b
   simp only[nm'];rw[if_neg a9,if_neg a9];exact hb2
 have hv':∀b C,Al (fun b fr=>o'≠O b/\((w.heap.size<=b/\fr=(0,0))\/((∀i,nm i≠O b)/\A b fr)\/(nm (2*id+1)=O b/\fr=(0,0)))) w' b C->A9 A nm' w' b C:=fun b C ⟨cc,tt,fr,⟨g1,g2⟩,g4⟩=>by
  refine⟨fun i e=> ?_,cc,tt,fr,?_,g4⟩
  .rcases hcas i b e with ⟨_,e2⟩|⟨e1,_,e2⟩
   .exact g1 e2
   .rcases g2 with g2|g2|g2
    .have:=(R.names i b e2).2; omega
    .exact g2.1 i e2
    .exact e1 (R.inj _ _ _ e2 g2.1)
  .rcases g2 with ⟨g2,rfl⟩|g2|⟨g2,rfl⟩
   .exact R.all.all b (.inl (zN R.size g2))
   .exact g2.2
   .exact R.all.all b (R.mine (by unfold AG; omega) g2)
 refine⟨v,nm',zE,⟨hbel,zN R.size hb.size,R.all,R.good,fun i b hi=> ?_,fun i j b hi hj=> ?_,fun i hi=> ?_,fun k=> ?_,fun k cs hcs=> ?_⟩,?_⟩
 .rcases hcas i b hi with ⟨_,e2⟩|⟨_,_,e2⟩
  .obtain⟨g1,g2⟩:=hn b e2;exact⟨g1.elim (fun h=> .inl (zN R.size h)) fun h=>(R.names _ _ h).1,g2⟩
  .obtain⟨h1,h2⟩:=R.names i b e2;exact⟨h1,zS h2 hb.size⟩
 .have old:∀k,k≠2*id+1->nm k=O b->o'=O b->False:=fun k hk e e2=>by
   rcases(hn b e2).1 with h|h
   .have:=(R.names k b e).2; omega
   .exact hk (R.inj _ _ _ e h)
  rcases hcas i b hi with ⟨i1,i2⟩|⟨i1,i3,i2⟩
  .rcases hcas j b hj with ⟨j1,j2⟩|⟨j1,_,j2⟩
   .omega
   .exact(old j j1 j2 i2).elim
  .rcases hcas j b hj with ⟨j1,j2⟩|⟨j1,_,j2⟩
   .exact(old i i1 i2 j2).elim
   .exact R.inj i j b i2 j2
 .have:nm' i=nm i:=by
   simp only[nm'];unfold AG at hi
   rw[if_neg a9,if_neg a9]
  exact this.trans (R.pin i hi)
 .exact(RK.env k).to fun c v hc H=>hcell c v (.inl ⟨k,hc⟩) H
 .obtain⟨b,C,t,h1,h2,h3⟩:=RK.bxs k cs hcs;have h1':nm (2*k)=O b:=h1;refine⟨b,C,t,?_,(hsame b (R.names _ _ h1').2 fun e=> ?_).trans h2,h3.to fun c v hc H=>hcell c v (.inr ⟨k,cs,hcs,hc⟩) H⟩
  .show nm' (2*k)=O b
   simp only[nm'];rw[if_neg a9,if_neg a9];exact h1'
  .have:=R.inj _ _ _ h1' e;omega
 .have hfd:A1 (cx A nm' (M.behindT id d sz es1) w').rs (d*64)=O (sz,es1):=Bm _ _ _
  have hnd:(cx A nm' (M.behindT id d sz es1) w').nm (2*(d*64)+1)=o':=by
   show nm' (2*(d*64)+1)=o'
   simp only[nm'];rw[if_neg a9];simp
  cases hr with
  | nil=>exact .v (.sc (.ownNil hfd hnd))
  | o own hl=>exact .v (.sc (.own hfd hnd (Kq own hv') hl))
end
def TV.av:TV->AV
 | .d x=>x.av
 | .r=> .v (.sc (.own 90000))
def Ml:zC->J TV->J (zC × AV)
 | _,[]=> []
 | k,x::xs=>(k,x.av)::Ml (k+1) xs
def St.initT(xs:J TV)(sz:zC)(es0:J (J D)):St:=⟨Ml 0 xs,[],[(90000,sz,es0)]⟩
def Z0:∀(ds:J TV) (k i:zC),A1 (Ml k ds) i=if k<=i then(ds[i - k]?).map TV.av else Z
 | [],k,i=>by simp[Ml,A1]
 | d::ds,k,i=>by
  simp only[Ml,A1];by_cases hk:k=i
  .subst hk; simp
  .have h':=Cg hk;rw[h',cond_false,Z0 ds (k+1) i];by_cases h1:k<=i
   .rw[if_pos a9,if_pos h1,show i - k=(i - (k+1))+1 by omega]; simp
   .rw[if_neg a9,if_neg h1]
def DS(o:I zC):Ac:=fun i=>if i=180001 then o else Z
def SS{o:I zC}{i b:zC}(h:DS o i=O b):i=180001/\o=O b:=by
 unfold DS at h;split at h
 .exact⟨by assumption,h⟩
 .cases h
def xF{w:World}{A0:B9}{o:I zC}{xs:J TV}{sz:zC}{es0:J (J D)}{vs:J Value}(nt:zC)(ho:∀b,o=O b->b<w.heap.size/\∀fr,¬A0 b fr)(hG:∀w2,BelowX w.heap.size (GV w o) w2->GoodW w2)(h:TVRels (Al A0 w) w o sz es0 xs vs) :
  Rel (.of fun b fr=>(w.heap.size<=b/\fr=(0,0))\/A0 b fr\/(o=O b/\fr=(0,0))) w.heap.size (GV w o) (DS o) (St.initT xs sz es0) (vs.toArray++Array.replicate (nt - vs.toArray.size) undef) w:=by
 have hv:∀b C,Al A0 w b C->A9 (fun b fr=>(w.heap.size<=b/\fr=(0,0))\/A0 b fr\/(o=O b/\fr=(0,0))) (DS o) w b C:=fun b C ⟨cc,tt,fr,h0,h1⟩=>⟨fun i e=>by
  obtain⟨_,e2⟩:=SS e;exact(ho b e2).2 _ h0,cc,tt,fr,.inr (.inl h0),h1⟩
 refine⟨BelowX.start _ _ (fun _ h=>h.elim),yI _,⟨fun b hb=>hb.elim (fun h=> .inl ⟨h,zE⟩) fun h=> .inr (.inr ⟨h.1,zE⟩),fun _ _ h=>h.elim,fun _ _ h=>h.elim,fun _ _ h=>h.elim,fun h=>by cases h⟩,hG,fun i b hi=> ?_,fun i j b hi hj=> ?_,fun i hi=> ?_,fun k=> ?_,fun id cs hcs=> ?_⟩
 .obtain⟨_,e2⟩:=SS hi;have:=(ho b e2).1;exact⟨.inr (.inr ⟨e2,this⟩),this⟩
 .rw[(SS hi).1,(SS hj).1]
 .show DS o i=Z
  unfold DS;have hi:199999999998<=i:=hi;rw[if_neg a9]
 .unfold St.get;rw[show(St.initT xs sz es0).env=Ml 0 xs from rfl,Z0 xs 0 k];simp only[yQ,if_true,yV];cases hd:xs[k]? with
  | none=>exact .undef
  | some x=>
   have hk:k<vs.length:=by rw[<- h.len]; exact(zJ.1 hd).1
   have hvk:vs[k]?=O (vs[k]'hk):=zH hk
   have e:(vs.toArray++Array.replicate (nt - vs.toArray.size) undef).getD k undef=vs[k]'hk:=by
    rw[Array.getD_eq_getD_getElem?,Array.getElem?_append_left (by simpa using hk)];simp[hk]
   rw[e];have hr:=TVRels.get k h hd hvk;revert hr
   generalize vs[k]'hk=z
   intro hr;have hfd:A1 (cx (.of fun b fr=>(w.heap.size<=b/\fr=(0,0))\/A0 b fr\/(o=O b/\fr=(0,0))) (DS o) (St.initT xs sz es0) w).rs 90000=O (sz,es0):=by simp[cx,St.initT,A1]
   have hnd:(cx (.of fun b fr=>(w.heap.size<=b/\fr=(0,0))\/A0 b fr\/(o=O b/\fr=(0,0))) (DS o) (St.initT xs sz es0) w).nm (2*90000+1)=o:=by
    show DS o (2*90000+1)=o
    simp[DS]
   cases hr with
   | d hr=>exact DVRel.vrel (X:=cx (.of fun b fr=>(w.heap.size<=b/\fr=(0,0))\/A0 b fr\/(o=O b/\fr=(0,0))) (DS o) (St.initT xs sz es0) w) (hr.mono hv)
   | r hr=>
    cases hr with
    | nil=>exact .v (.sc (.ownNil hfd hnd))
    | o own hl=>exact .v (.sc (.own hfd hnd (Kq own hv) hl))
 .cases hcs
def QU(ts:J RV)(sz:zC)(es1:J (J D))(e:Xl)(M:St):Prop:=
 match e with
 | .exit _=>False
 | .pan _=>False
 | _=>OutVs M ts [.sc (.o sz es1)]
section
variable {P : Program}
def iQ(hm:P.follows .mixedOrders=T){f:FuncId}{c:Xf}{ts:J RV}{nt:zC}{xs:J TV}{sz:zC}{es0 es1:J (J D)}(he:AF P f=O (c.strip,ts,nt))(hl:xs.length<=nt)(h:B0 P c (QU ts sz es1) (St.initT xs sz es0)):FCt P f xs sz es0 es1:=by
 unfold AF at he
 split at he
 .rename_i fn hf
  split at he
  .rename_i C ts' hb hr
   simp only[zG] at he
   obtain⟨c',hc,e⟩:=he;cases e;intro w A0 vs o ho hG hvs;refine calls_of_wp hf hb ?_;have hlv:=hvs.len;refine wp_mono (Iq (df:= []) hm c C _ (DS o) (St.initT xs sz es0) _ w hc h (xF fn.ntmps ho hG hvs) d3 zE) fun e a w' hq=> ?_
   obtain⟨e',nm,M,he,hq,R,hnt,hdf⟩:=hq
   have key:OutVs M ts [.sc (.o sz es1)]->a.defers= []/\∃v,(results fn a.tmps).run P w'= .ok v w'/\∃(v':Value) (o':I zC),Ending.returned v= .returned v'/\(∀b,o'=O b->(w.heap.size<=b\/o=O b)/\b<w'.heap.size)/\BelowX w.heap.size (GV w o) w'/\
     RCRel (Al (fun b fr=>o'≠O b/\((w.heap.size<=b/\fr=(0,0))\/A0 b fr\/(o=O b/\fr=(0,0)))) w') w' (.o sz es1) v' o':=by
    intro hout;let bs:=(D4 M ts [.sc (.o sz es1)]).map (Ba nm)
    have hbs:∀b,O b∈bs->∃id,nm (2*id+1)=O b:=by
     intro b hb;obtain⟨q,_,hb⟩:=zV.1 hb;cases q with
     | none=>simp[Ba] at hb
     | some id=>exact⟨id,hb⟩
    have hview:∀b C,A9 (fun b fr=>(w.heap.size<=b/\fr=(0,0))\/A0 b fr\/(o=O b/\fr=(0,0))) nm w' b C->Al (fun b fr=>O b∉bs/\((w.heap.size<=b/\fr=(0,0))\/A0 b fr\/(o=O b/\fr=(0,0)))) w' b C:=fun b C ⟨g1,cc,tt,fr,g2,g3⟩=>⟨cc,tt,fr,⟨fun hm2=>by
     obtain⟨id,e⟩:=hbs b hm2;exact g1 _ e,g2⟩,g3⟩
    obtain⟨vs',hrun,hvl,hrel⟩:=I0 (P:=P) (f:=fun | .tmp t=>pure (a.tmps.getD t undef) | .cell c t=>do loadVar t (<- asAddr (a.tmps.getD c undef))) R hview (fun _=>rfl) (fun _ _=>rfl) hr hout;have h1:vs'.length=1:=by rw[hvl,<- hout.len]; rfl
    obtain⟨v1,rfl⟩:=zT.1 h1
    have hrc:∃o',bs= [o']/\RCRel (Al (fun b fr=>O b∉bs/\((w.heap.size<=b/\fr=(0,0))\/A0 b fr\/(o=O b/\fr=(0,0)))) w') w' (.o sz es1) v1 o':=by
     revert hrel
     show R1Rels _ _ _ [v1] bs->_
     generalize hgen:(Al (fun b fr=>O b∉bs/\((w.heap.size<=b/\fr=(0,0))\/A0 b fr\/(o=O b/\fr=(0,0)))) w')=V
     clear hgen hview hbs
     generalize bs=q
     intro hrel;cases hrel with | cons x y=>
     cases y;cases x with | sc x=>exact⟨_,d0,x⟩
    obtain⟨o',hb1,hrc⟩:=hrc;rw[hb1] at hrc hbs
    refine⟨hdf,v1,?_,v1,o',zE,fun b hb=> ?_,R.below,?_⟩
    .unfold results;rw[<- Array.toArray_toList (xs:=fn.results)];simp only[yG,Sem.run_bind,map_eq_pure_bind];erw [hrun]
     simp only[Result.andThen_ok,Sem.run_pure];simp
    .obtain⟨id,e⟩:=hbs b (by simp[hb]);obtain⟨q1,q2⟩:=R.names _ _ e;exact⟨q1.imp (fun h=>h) fun h=>TJ h,q2⟩
    .have hvv:∀b C,Al (fun b fr=>O b∉ [o']/\((w.heap.size<=b/\fr=(0,0))\/A0 b fr\/(o=O b/\fr=(0,0)))) w' b C->Al (fun b fr=>o'≠O b/\((w.heap.size<=b/\fr=(0,0))\/A0 b fr\/(o=O b/\fr=(0,0)))) w' b C:=fun b C ⟨cc,tt,fr,⟨g1,g2⟩,g3⟩=>⟨cc,tt,fr,⟨fun e=>g1 (by simp[e]),g2⟩,g3⟩
     cases hrc with
     | nil=>exact .nil
     | o own hl=>exact .o (Kq own hvv) hl
   cases e' with
   | normal=>obtain rfl:e= .normal:=he; exact key hq
   | ret=>obtain rfl:e= .ret:=he; exact key hq
   | exit id=>exact hq.elim
   | pan d=>exact hq.elim
  .cases he
 .cases he
def iR(hm:P.follows .mixedOrders=T){f nt:zC}{c:Xf}{ts:J RV}{xs:J TV}{sz:zC}{es0 es1:J (J D)}{M:St}(he:AF P f=O (c.strip,ts,nt))(hl:zX xs.length nt=T)(hσ:St.initT xs sz es0=M)(h:go P [.code c] (QU ts sz es1) .normal (O M)):FCt P f xs sz es0 es1:=
 iQ hm he (zM hl) (hσ▸Kb h)
def Zi{k:J Fr}{Q:Xl->St->Prop}{M:St}{its:J AItem}{d f:zC}{args:J Opd}{xs:J TV}{sz:zC}{es0 es1:J (J D)}(hf:FCt P f xs sz es0 es1)(id:zC)(hx:MO id (args.map M.val)=O xs)(hr:A1 M.rows id=O (sz,es0))(hfr:M.fresh d=T)(hid:Nat.blt id 99999999999=T)(hne:(id==d*64)=F)
  (h:go P (.ops its::k) Q .normal (O ((M.behindT id d sz es1).set d (.v (.sc (.own (d*64))))))):go P (.ops ((Z,.call d f args)::its)::k) Q .normal (O M):=
 Pv (hf.callC hx hr hfr (by simpa[Nat.blt_eq] using hid) (by simpa using hne)) h
def Yj{M:St}{id d sz:zC}{es1:J (J D)}:M.behindT id d sz es1=⟨(M.map (AC.kill id)).env,(M.map (AC.kill id)).bx,put (erase M.rows [id]) (d*64) (sz,es1)⟩:=rfl
variable {k : J Fr} {Q : Xl -> St -> Prop} {M : St} {its : J AItem} {d f : zC} {args : J Opd}
def AD{xs:J DV}{rs:J R1}(hf:FC P f xs rs)(h:go P (.ops its::k) Q .normal (O (M.inst d rs)))(h1:M.toIVs args=O xs:=by exact rfl)(h3:M.fresh d=T:=by exact rfl)(h4:zX (rs.flatMap R1.cells).length 64=T:=by exact rfl) :
  go P (.ops ((Z,.call d f args)::its)::k) Q .normal (O M):=K9 hf h1 h3 (zM h4) h
def CO{N:J zC}{ds:J AY}{xs:J DV}{rs:J R1}(hf:FC P f xs rs)(h:go P (.dops ds::k) Q .normal (O (M.inst d rs)))(h1:(M.less N).toIVs args=O xs:=by exact rfl)(h3:M.fresh d=T:=by exact rfl)(h4:zX (rs.flatMap R1.cells).length 64=T:=by exact rfl) :
  go P (.dops ((O N,Z,.call d f args)::ds)::k) Q .normal (O M):=ud hf h1 h3 (zM h4) h
def N1{X:Opd}{y:V1}(H:go P (.ops its::k) Q .normal (O {(M.set d (.v (.sc (.pb d 0)))) with bx:=put M.bx d y.cells }))(hX:M.val X= .v y:=by exact rfl)(hf:M.fresh d=T:=by exact rfl)(hu:y.cells.all (fun c=> !c.uses d)=T:=by exact rfl) :
  go P (.ops ((Z,.box d X)::its)::k) Q .normal (O M):=uW hX hf hu H
def MV{cs:J AC}(H:go P (.ops its::k) Q .normal (O {(M.set d (.v (.sc (.pb d 0)))) with bx:=put M.bx d cs }))(hf:M.fresh d=T:=by exact rfl)(hu:cs.all (fun c=> !c.uses d)=T:=by exact rfl) :
  go P (.ops ((Z,.alloc d cs)::its)::k) Q .normal (O M):=uJ hf hu H
def AU{sz:zC}{zs:J D}{len:zC}{ps:J (zC × Opd)}{es:J (J D)}(H:go P (.ops its::k) Q .normal (O {(M.set d (.v (.sc (.own (d*64))))) with rows:=put M.rows (d*64) (sz,es) }))(hm:M.made (.bslice d sz zs len ps)=O (.row d sz es):=by exact rfl)(hf:M.fresh d=T:=by exact rfl) :
  go P (.ops ((Z,.bslice d sz zs len ps)::its)::k) Q .normal (O M):=S7 hm hf H
def CC{b:zB}(h:go P k Q .normal (O M))(hb:b=T:=by exact rfl):go P (.fr b::k) Q .normal (O M):=ur hb h
def Gn{id sz:zC}{es:J (J D)}(H:go P (.ops its::k) Q .normal (O {(M.map (AC.frz id es)) with rows:=erase M.rows [id] }))(hf:A1 M.rows id=O (sz,es):=by exact rfl)(h0:(id / 99999999999==0)=T:=by exact rfl) :
  go P (.ops ((Z,.frz id)::its)::k) Q .normal (O M):=uv hf H h0
end
def t0{α β:Sort _}{a:α}{b:β}:(a=a/\True)/\b=b:=⟨⟨rfl,⟨⟩⟩,rfl⟩
def WP{P:Program}(hm:P.follows .mixedOrders=T)(c:Xf)(ts:J RV)(nt:zC){f:FuncId}{ds:J DV}{rs:J R1}(h:go P [.code c] (A5 ts rs) .normal (O (St.init ds)))(he:AF P f=O (c.strip,ts,nt):=by kernel_rfl)(hl:zX ds.length nt=T:=by exact rfl):FC P f ds rs:=WO hm he hl h
abbrev Kp(P:Program)(A B C:J zC)(τ:St)(k:J Fr)(Q:Xl->St->Prop):Prop:=∀{M:St},M.kept A B C=τ->go P k Q .normal (O M)
abbrev aM{α:Type}(r:α->J D)(l:J α):AC:=aL (zI r l)
abbrev pB(n:zC):zC × AV:=(n,vc (.pb n 0))
abbrev pI(n:zC)(x:zA):zC × AV:=(n,vc (aI x))
abbrev pL{α:Type}(n:zC)(r:α->J D)(l:J α):zC × AV:=(n,vc (aL (zI r l)))
abbrev pW(n m:zC):zC × AV:=(n,vc (.own m))
end
def Wk{n:zC}{h:n<2 ^ 8}:UInt8.ofBitVec (BitVec.ofFin ⟨n,h⟩)=UInt8.ofNat n:=by
 apply UInt8.toNat_inj.1
 simp[UInt8.toNat,UInt8.ofNat,BitVec.toNat];omega
def Gz(c:Xf):Xf:=c
def Xf.cnt:Xf->zC
 | .seq x y=>x.cnt+y.cnt+1
 | .cond _ x y=>x.cnt+y.cnt+1
 | .block _ c=>c.cnt+1
 | .loop c=>c.cnt+1
 | _=>1
abbrev Hw:=J (zC × J zC × J zC × J zC) × J (zC × zC × AItem)
abbrev h0:Hw:=([],[])
def Hw.cut(H:Hw)(n:zC)(c:Xf):Xf:=match H.1.lookup n with | some (a,b,r)=>Gz (.seq (.reg [(Z,.keep a b r)]) c) | none=>c
def Mo(n:zC):J (zC × zC × AItem)->J AItem->J AItem
 | [],l=>l
 | (m,j,x)::r,l=>bif m==n then Mo n r (l.take j++x::l.drop j) else Mo n r l
def CK(H:Hw):zC->Xf->Xf
 | n,.seq x y=>H.cut n (.seq (CK H (n+1) x) (CK H (n+1+x.cnt) y))
 | n,.cond c x y=>H.cut n (.cond c (CK H (n+1) x) (CK H (n+1+x.cnt) y))
 | n,.block i c=>H.cut n (.block i (CK H (n+1) c))
 | n,.loop c=> .loop (H.cut n (CK H (n+1) c))
 | n,.reg l=>H.cut n (.reg (Mo n H.2 l))
 | n,.pan l x=>H.cut n (.pan (Mo n H.2 l) x)
 | n,.cal l d f xs=>H.cut n (.cal (Mo n H.2 l) d f xs)
 | n,.drw l=>H.cut n (match Mo n H.2 [] with | []=> .drw l | s=> .seq (.reg s) (.drw l))
 | n,c=>H.cut n c
def Kv(H:Hw)(t:zC):zC->Xf->J Fr->J Fr
 | n,.seq x y,k=>bif t==n then .code (CK H n (.seq x y))::k else bif Nat.blt t (n+1+x.cnt) then Kv H t (n+1) x (.code (CK H (n+1+x.cnt) y)::k) else Kv H t (n+1+x.cnt) y k
 | n,.cond c x y,k=>bif t==n then .code (CK H n (.cond c x y))::k else bif Nat.blt t (n+1+x.cnt) then Kv H t (n+1) x k else Kv H t (n+1+x.cnt) y k
 | n,.block i c,k=>bif t==n then .code (CK H n (.block i c))::k else Kv H t (n+1) c (.blk i::k)
 | n,.loop c,k=>bif t==n then .code (CK H n (.loop c))::k else Kv H t (n+1) c (.code (CK H n (.loop c))::k)
 | n,c,k=> .code (CK H n c)::k
def R8(P:Program)(f:zC):Xf:=match AF P f with | some e=>e.1 | none=> .skip
def sk(P:Program)(f:zC)(H:Hw)(t:zC):J Fr:=Kv H t 0 (R8 P f) []
abbrev By(P:Program)(f:zC)(H:Hw):Xf:=CK H 0 (R8 P f)
abbrev Kh(P:Program)(f:zC)(H:Hw)(t:zC)(A B C:J zC)(τ:St)(Q:Xl->St->Prop):Prop:=∀{M:St},M.kept A B C=τ->∀{S:J Fr},S=sk P f H t->go P S Q .normal (O M)
def BC{P:Program}{f:zC}(H:Hw){Q:Xl->St->Prop}{M:St}(h:∀S,S=sk P f H 0->go P S Q .normal (O M))(hs:sk P f H 0= [.code (CK H 0 (R8 P f))]:=by kernel_rfl):go P [.code (By P f H)] Q .normal (O M):=h _ hs.symm
def Av{P:Program}{c:Xf}{k:J Fr}{Q:Xl->St->Prop}{M:I St}(h:go P (.code c::k) Q .normal M):go P (.code (Gz c)::k) Q .normal M:=h
def A3{P:Program}(hm:P.follows .mixedOrders=T)(H:Hw)(ts:J RV)(nt:zC){f:FuncId}{ds:J DV}{rs:J R1}(h:∀S,S=sk P f H 0->go P S (A5 ts rs) .normal (O (St.init ds)))(he:AF P f=O ((By P f H).strip,ts,nt):=by kernel_rfl)(hs:sk P f H 0= [.code (CK H 0 (R8 P f))]:=by kernel_rfl)(hl:zX ds.length nt=T:=by exact rfl):FC P f ds rs:=WO hm he hl (BC H h hs)
def ev{P:Program}{Q:Xl->St->Prop}{x:Xl}{M:I St}{S E S1 S2:J Fr}(hS:S=E)(h:go P S2 Q x M)(e1:E=S1:=by conv=>lhs; reduce)(e2:S1=S2:=by first | (simp only[Int.reduceOfNat,Int.reduceNegSucc,Wk,UInt8.reduceOfNat]; done) | (simp only[Int.reduceOfNat,Int.reduceNegSucc,Wk,UInt8.reduceOfNat]; rfl) | rfl):go P S Q x M:=by rw[hS,e1,e2]; exact h
section
inductive WV where
 | d (x:DV)
 | r
 | p (k:zC)
 | clo (f:FuncId) (ks:J zC)
def WV.av:WV->AV
 | .d x=>x.av
 | .r=> .v (.sc (.own 99999999999))
 | .p k=> .v (.sc (.pb (99999999999+k) 0))
 | .clo f ks=> .v (.sc (.clo f (ks.map (99999999999+ ·))))
inductive WVRel (h:A6) (w:World) (ps:J zC) (o:I zC) (sz:zC) (es:J (J D)):WV->Value->Prop
 | d {x v}:DVRel h x v->WVRel h w ps o sz es (.d x) v
 | r {v}:RCRel h w (.o sz es) v o->WVRel h w ps o sz es .r v
 | p {k b}:ps[k]?=O b->WVRel h w ps o sz es (.p k) (.pointer (O ⟨b,0,Z⟩))
 | clo {f ks bs}:ks.mapM (fun k=>ps[k]?)=O bs->WVRel h w ps o sz es (.clo f ks) (.func (.func f) #[] (bs.map fun b=>Value.pointer (O ⟨b,0,Z⟩)).toArray)
inductive WVRels (h:A6) (w:World) (ps:J zC) (o:I zC) (sz:zC) (es:J (J D)):J WV->J Value->Prop
 | nil:WVRels h w ps o sz es [] []
 | cons {x v xs vs}:WVRel h w ps o sz es x v->WVRels h w ps o sz es xs vs->WVRels h w ps o sz es (x::xs) (v::vs)
section
variable {h : A6} {w : World} {ps : J zC} {o : I zC} {sz : zC} {es : J (J D)}
def WVRels.len:∀{xs vs},WVRels h w ps o sz es xs vs->xs.length=vs.length
 | _,_,.nil=>rfl
 | _,_,.cons _ b=>by simp[b.len]
def WVRels.get:∀{xs:J WV} {vs:J Value} (i:zC) {x:WV} {v:Value},WVRels h w ps o sz es xs vs->xs[i]?=O x->vs[i]?=O v->WVRel h w ps o sz es x v
 | _,_,_,_,_,.nil,hd,_=>by simp at hd
 | _,_,0,_,_,.cons a _,hd,hv=>by simp at hd hv; subst hd hv; exact a
 | _,_,i+1,_,_,.cons _ b,hd,hv=>WVRels.get i b (by simpa using hd) (by simpa using hv)
end
def WS(h:A6)(w:World)(ps:J zC)(cs:J (J D)):Prop:=∀(k:zC) c,cs[k]?=O c->∃p C t,ps[k]?=O p/\w.heap[p]?=O (.cells C t (0,0))/\Reps h c C.toList/\C.toList.length=c.length
def Qd(ps:J zC)(o:I zC):Ac:=fun i=>if i=199999999999 then o else if 199999999998<=i/\i % 2=0 then ps[(i - 199999999998) / 2]? else Z
def A1u{ps:J zC}{o:I zC}{i b:zC}(h:Qd ps o i=O b):AG<=i/\((i=199999999999/\o=O b)\/∃k,i=2*(99999999999+k)/\ps[k]?=O b):=by
 unfold Qd at h;unfold AG;split at h
 .exact⟨a9,.inl ⟨by assumption,h⟩⟩
 .split at h
  .rename_i q
   exact⟨q.1,.inr ⟨(i - 199999999998) / 2,a9,h⟩⟩
  .cases h
def A1t{ps:J zC}{o:I zC}:Qd ps o (2*99999999999+1)=o:=by simp[Qd]
def KO(w:World)(ps:J zC)(o:I zC):Base:= .of w (Qd ps o)
def nb{w:World}{ps:J zC}{o:I zC}{b:zC}(h:(KO w ps o).M b):o=O b\/b∈ps:=by
 obtain⟨i,_,e⟩:=Base.of_M h;rcases(A1u e).2 with ⟨_,e⟩|⟨k,_,e⟩
 .exact .inl e
 .exact .inr (zK e)
def FCw(P:Program)(f:FuncId)(xs:J WV)(sz:zC)(cs0 es0:J (J D))(cs1 es1:J (J D)):Prop:=
 ∀(w:World) (A:B9) (ps:J zC) (o:I zC) (vs:J Value),ps.Nodup->(∀b∈ps,b<w.heap.size/\(∀fr,¬A b fr)/\o≠O b)->(∀b,o=O b->b<w.heap.size/\∀fr,¬A b fr)->(∀w2,BelowX w.heap.size (KO w ps o) w2->GoodW w2)->
  WS (Al A w) w ps cs0->WVRels (Al A w) w ps o sz es0 xs vs->Calls P f vs.toArray w fun e w'=>∃v,e= .returned v/\BelowX w.heap.size (KO w ps o) w'/\
   WS (Al (fun b fr=>(w.heap.size<=b/\fr=(0,0))\/A b fr) w') w' ps cs1/\∃v',RCRel (Al (fun b fr=>(w.heap.size<=b/\fr=(0,0))\/A b fr) w') w' (.o sz es1) v' o
def W4(ids:J zC)(rid:zC):AV->I WV
 | .v (.sc (.own k))=>bif k==rid then O .r else Z
 | .v (.sc (.pb k 0))=>(ids.idxOf? k).map .p
 | .v (.sc (.clo f l))=>(l.mapM fun i=>ids.idxOf? i).map (.clo f)
 | x=>(KA x).map .d
def QB(ids:J zC)(rid:zC):J AV->I (J WV)
 | []=>O []
 | x::xs=>match W4 ids rid x,QB ids rid xs with
  | some y,O ys=>O (y::ys)
  | _,_=>Z
def N0(bx:J (zC × J AC)):J zC->I (J (J AC))
 | []=>O []
 | id::ids=>match A1 bx id,N0 bx ids with
  | some r,O R=>O (r::R)
  | _,_=>Z
def TN{bx:J (zC × J AC)}:∀{ids:J zC} {R:J (J AC)},N0 bx ids=O R->R.length=ids.length/\∀(j id:zC),ids[j]?=O id->A1 bx id=R[j]?
 | [],R,h=>by
  simp[N0] at h;subst h;exact⟨zE,fun j id hj=>by simp at hj⟩
 | id::ids,R,h=>by
  simp only[N0] at h;split at h
  .rename_i r R' h1 h2
   cases h;obtain⟨q1,q2⟩:=TN h2;refine⟨by simp[q1],fun j i hj=> ?_⟩;cases j with
   | zero=>simp at hj; subst hj; simpa using h1
   | succ j=>simpa using q2 j i (by simpa using hj)
  .cases h
def AC.nz:AC->AC
 | .nil=> .dat (.sl [])
 | c=>c
def CRel.nz{X:Cx}{c:AC}{v:Value}(H:CRel X c v):CRel X c.nz v:=by
 cases c with
 | nil=>cases H; exact .dat .nil
 | _=>exact H
def CRels.nz{X:Cx}:∀{cs:J AC} {vs:J Value},CRels X cs vs->CRels X (cs.map AC.nz) vs
 | _,_,.nil=> .nil
 | _,_,.cons a b=> .cons a.nz b.nz
def Fh(bx:J (zC × J AC)):J zC->J (J D)->J (zC × J AC)
 | id::ids,c::cs=>Fh (put bx id (c.map .dat)) ids cs
 | _,_=>bx
def VC{id:zC}:∀{ids:J zC} {cs:J (J D)} {bx:J (zC × J AC)},id∉ids->A1 (Fh bx ids cs) id=A1 bx id
 | [],_,_,_=>by simp[Fh]
 | _::_,[],_,_=>by simp[Fh]
 | i::ids,c::cs,bx,h=>by
  simp only[zR,not_or] at h;rw[Fh,VC h.2,Bn _ _ h.1]
def dM:∀{ids:J zC} {cs:J (J D)} {bx:J (zC × J AC)} {j id:zC} {c:J D},ids.Nodup->ids[j]?=O id->cs[j]?=O c->A1 (Fh bx ids cs) id=O (c.map .dat)
 | [],_,_,_,_,_,_,h,_=>by simp at h
 | _::_,[],_,_,_,_,_,_,h=>by simp at h
 | i::ids,c::cs,bx,j,id,d,hn,h1,h2=>by
  rw[List.nodup_cons] at hn
  cases j with
  | zero=>
   simp at h1 h2
   subst h1 h2;rw[Fh,VC hn.1,Bm]
  | succ j=>
   rw[Fh];exact dM hn.2 (by simpa using h1) (by simpa using h2)
def VE{X:Cx}:∀{c:J D} {vs:J Value},CRels X (c.map .dat) vs->Reps X.h c vs/\vs.length=c.length
 | [],vs,h=>by
  have h:CRels X [] vs:=h;cases h;exact⟨.nil,zE⟩
 | c::cs,vs,h=>by
  have h:CRels X (.dat c::cs.map .dat) vs:=h;cases h with | cons a b=>cases a with | dat a=>exact⟨.cons a (VE b).1,by simp[(VE b).2]⟩
def dV{X:Cx}:∀{c:J D} {vs:J Value},Reps X.h c vs->vs.length=c.length->CRels X (c.map .dat) vs
 | [],[],_,_=> .nil
 | [],_::_,_,h=>by cases h
 | c::cs,vs,h,hl=>by
  cases h with | cons a b=>exact .cons (.dat a) (dV b (by simpa using hl))
def Cv(nm:Ac)(ids:J zC):J zC:=ids.map fun i=>(nm (2*i)).getD 0
section
variable {P : Program} {A : Ar} {B : zC} {w0 : Base} {w : World} {nm : Ac} {M : St} {tmps : Array Value}
def A6u{ids:J zC}{rid sz:zC}{es:J (J D)}(hf:A1 M.rows rid=O (sz,es)){av:AV}{v:Value}{x:WV}(H:VRel (cx A nm M w) av v)(h:W4 ids rid av=O x):WVRel (A9 A nm w) w (Cv nm ids) (nm (2*rid+1)) sz es x v:=by
 have hat:∀{k j b:zC},ids.idxOf? k=O j->nm (2*k)=O b->(Cv nm ids)[j]?=O b:=fun{k j b} h1 h2=>by
  have:=List.idxOf?_eq_some_iff.1 h1;obtain⟨hj,e,_⟩:=this;simp only[Cv,zY,zH hj];simp[e,h2]
 unfold W4 at h;split at h
 .rename_i k
  by_cases hk:k=rid
  .subst hk;simp at h;subst h;exact .r (Qg (X:=cx A nm M w) H.inv_sc hf)
  .have:(k==rid)=F:=by simpa using hk
   simp[this] at h
 .simp only[zG] at h;obtain⟨j,h1,rfl⟩:=h;cases H.inv_sc with | pb e=>exact .p (hat h1 e)
 .rename_i f l
  simp only[zG] at h;obtain⟨js,h1,rfl⟩:=h;cases H.inv_sc with | @clo _ _ bs e=>
  refine .clo ?_;clear H
  induction l generalizing js bs with
  | nil=>simp at h1 e; subst h1 e; rfl
  | cons i l ih=>
   simp only[yF] at h1 e
   cases a1:ids.idxOf? i with
   | none=>rw[a1] at h1; cases h1
   | some j=>
    rw[a1] at h1
    cases a2:l.mapM fun i=>ids.idxOf? i with
    | none=>rw[a2] at h1; cases h1
    | some js'=>
     rw[a2] at h1
     cases h1;cases b1:(cx A nm M w).nm (2*i) with
     | none=>rw[b1] at e; cases e
     | some b=>
      rw[b1] at e
      cases b2:l.mapM fun i=>(cx A nm M w).nm (2*i) with
      | none=>rw[b2] at e; cases e
      | some bs'=>
       rw[b2] at e
       cases e;have e1:=hat a1 b1;have e2:=ih _ a2 b2;simp only[yF,e1,e2];rfl
 .simp only[zG] at h;obtain⟨d,h1,rfl⟩:=h;exact .d (MK (X:=cx A nm M w) H h1)
def fL{ids:J zC}{rid sz:zC}{es:J (J D)}(hf:A1 M.rows rid=O (sz,es)):∀{avs:J AV} {vs:J Value} {xs:J WV},VsRel (cx A nm M w) avs vs->QB ids rid avs=O xs->WVRels (A9 A nm w) w (Cv nm ids) (nm (2*rid+1)) sz es xs vs
 | [],vs,xs,H,h=>by
  simp[QB] at h;subst h;obtain rfl:vs= []:=zL.1 H.1.symm;exact .nil
 | a::avs,vs,xs,H,h=>by
  unfold QB at h;split at h
  .rename_i x xs' h1 h2
   cases h;cases vs with
   | nil=>have:=H.1; simp at this
   | cons v vs=>
    exact .cons (A6u hf (H.2 0 a v zE zE) h1) (fL hf ⟨by have:=H.1; simpa using this,fun i u v hu hv=>H.2 (i+1) u v (by simpa using hu) (by simpa using hv)⟩ h2)
  .cases h
def St.behindW(M:St)(ids:J zC)(rid sz:zC)(cs1 es1:J (J D)):St:={M with bx:=Fh M.bx ids cs1,rows:=put M.rows rid (sz,es1)}
def FCw.callC{f:FuncId}{xs:J WV}{sz:zC}{cs0 es0 cs1 es1:J (J D)}(H:FCw P f xs sz cs0 es0 cs1 es1){ids:J zC}{rid:zC}{avs:J AV}(hx:QB ids rid avs=O xs)(hb:(N0 M.bx ids).map (zI (zI AC.nz))=O (cs0.map (zI .dat)))(hf:A1 M.rows rid=O (sz,es0))(hnd:ids.Nodup)(hc:cs1.length=cs0.length)(hl:es1.length=es0.length) :
  CallC P f avs M (M.behindW ids rid sz cs1 es1) .undef:=by
 intro A B w0 w nm tmps vs R hvs;obtain⟨R0,hb0,hb⟩:=zG.1 hb;obtain⟨hbl,hbat⟩:=TN hb0
 have hbl:cs0.length=ids.length:=by
  have:=congrArg yX hb;simp only[yE] at this
  omega
 have hbox:∀(j id:zC),ids[j]?=O id->∃b c C t,nm (2*id)=O b/\cs0[j]?=O c/\(Cv nm ids)[j]?=O b/\w.heap[b]?=O (.cells C t (0,0))/\Reps (A9 A nm w) c C.toList/\C.toList.length=c.length:=fun j id hj=>by
  have hjl:j<cs0.length:=by rw[hbl]; exact(zJ.1 hj).1
  have e:=hbat j id hj;have hjr:j<R0.length:=by rw[(TN hb0).1]; exact(zJ.1 hj).1
  rw[zH hjr] at e
  have eq:R0[j].map AC.nz=cs0[j].map .dat:=by
   have:=congrArg (fun l=>l[j]?) hb;simpa[hjr,hjl] using this
  obtain⟨b,C,t,k1,k2,k3⟩:=R.bxs id _ e;have k3:=k3.nz;rw[eq] at k3
  have k1:nm (2*id)=O b:=k1;refine⟨b,cs0[j],C,t,k1,zH hjl,?_,k2,VE k3⟩;simp[Cv,hj,k1]
 have hps:∀b∈Cv nm ids,∃j id:zC,ids[j]?=O id/\(Cv nm ids)[j]?=O b/\nm (2*id)=O b:=fun b hm=>by
  obtain⟨j,hj⟩:=yN hm;have hjl:j<ids.length:=by have:=(zJ.1 hj).1; simpa[Cv] using this
  obtain⟨b',_,_,_,k1,_,k3,_⟩:=hbox j _ (zH hjl);rw[hj] at k3
  cases k3;exact⟨j,_,zH hjl,hj,k1⟩
 have hM:∀b,(KO w (Cv nm ids) (nm (2*rid+1))).M b->nm (2*rid+1)=O b\/∃id∈ids,nm (2*id)=O b:=fun b h=>by
  rcases nb h with h|h
  .exact .inl h
  .obtain⟨j,id,h1,_,h3⟩:=hps b h;exact .inr ⟨id,zK h1,h3⟩
 have hnames:∀b,(KO w (Cv nm ids) (nm (2*rid+1))).M b->B<=b\/w0.M b:=fun b h=>(hM b h).elim (fun h=>(R.names _ _ h).1) fun⟨_,_,h⟩=>(R.names _ _ h).1
 have hpn:(Cv nm ids).Nodup:=by
  rw[List.Nodup,yU];intro i j hi hj hij e;have hi':i<ids.length:=by simpa[Cv] using hi
  have hj':j<ids.length:=by simpa[Cv] using hj
  obtain⟨b,_,_,_,a1,_,a3,_⟩:=hbox i _ (zH hi');obtain⟨c,_,_,_,b1,_,b3,_⟩:=hbox j _ (zH hj');rw[zH hi] at a3
  rw[zH hj] at b3
  cases a3;cases b3;rw[e] at a1
  have:=R.inj _ _ _ a1 b1;have e2:ids[i]=ids[j]:=by omega
  exact yU.1 hnd i j hi' hj' hij e2
 refine(H w (fun b fr=>(∀i,nm i≠O b)/\A b fr) (Cv nm ids) (nm (2*rid+1)) vs hpn (fun b hm=> ?_) (fun b e=>⟨(R.names _ _ e).2,fun _ h=>h.1 _ e⟩) (fun w2 hb2=>R.good w2 (R.below.afterZ zE hb2 R.size R.there hnames fun b hv=>hv.elim)) (fun k c hk=> ?_) (by rw[E7]; exact fL hf hvs hx)).mono fun e w' h=> ?_
 .obtain⟨_,id,_,_,e⟩:=hps b hm;refine⟨(R.names _ _ e).2,fun _ h=>h.1 _ e,fun e2=> ?_⟩;have:=R.inj _ _ _ e e2;omega
 .have hkl:k<ids.length:=by rw[<- hbl]; exact(zJ.1 hk).1
  obtain⟨b,c',C,t,k1,k2,k3,k4,k5⟩:=hbox k _ (zH hkl);rw[hk] at k2
  cases k2;exact⟨b,C,t,k3,k4,by rw[E7]; exact k5.1,k5.2⟩
 obtain⟨v,rfl,hb2,hh,v',hr⟩:=h;have hbel:BelowX B w0 w':=R.below.afterZ rfl hb2 R.size R.there hnames fun b hv=>hv.elim
 have hsame:∀b,b<w.heap.size->nm (2*rid+1)≠O b->(∀id∈ids,nm (2*id)≠O b)->w'.heap[b]?=w.heap[b]?:=fun b hlt h1 h2=>hb2.block b hlt (fun hm=>(hM b hm).elim h1 fun⟨id,q1,q2⟩=>h2 id q1 q2) fun hv=>hv.elim
 have hview:∀b C,A9 A nm w b C->A9 A nm w' b C:=CW fun b hlt hnb=>⟨hnb,hsame b hlt (hnb _) fun id _=>hnb _⟩
 have hvw:∀b C,Al (fun b fr=>(w.heap.size<=b/\fr=(0,0))\/((∀i,nm i≠O b)/\A b fr)) w' b C->A9 A nm w' b C:=fun b C ⟨cc,tt,fr,g1,g2⟩=>by
  rcases g1 with ⟨g1,rfl⟩|g1
  .exact⟨fun i e=>by have:=(R.names i b e).2; omega,cc,tt,(0,0),R.all.all b (.inl (zN R.size g1)),g2⟩
  .exact⟨g1.1,cc,tt,fr,g1.2,g2⟩
 have hcell:∀c v,CRel (cx A nm M w) c v->CRel (cx A nm (M.behindW ids rid sz cs1 es1) w') c v:=fun c v H=>by
  by_cases hc2:c.has rid=T
  .refine H.turn hc2 (X:=cx A nm M w) (Y:=cx A nm (M.behindW ids rid sz cs1 es1) w') (id:=rid) (sz:=sz) (es:=es0) (es':=es1) hf (Bm _ _ _) hl zE fun b cap hn own=> ?_
   have hn':nm (2*rid+1)=O b:=hn;rw[hn'] at hr
   cases hr with | o own' _=>
   obtain⟨k1,k2,k3,C',t',k4,k5,k6⟩:=own';obtain⟨q1,q2,q3,C,t,q4,q5,q6⟩:=own;have hm:Base.M (KO w (Cv nm ids) (nm (2*rid+1))) b:= .inl ⟨2*99999999999+1,by unfold AG; omega,(A1t (ps:=Cv nm ids) (o:=nm (2*rid+1))).trans hn'⟩;obtain⟨C2,e1,e2⟩:=hb2.room b hm C t (0,0) q4;rw[k4] at e1
   cases e1;have hcap:=yB k1 (k5.symm.trans (e2.trans q5));subst hcap;exact⟨k1,k2,k3,C',t',k4,k5,k6.mono hvw⟩
  .refine H.move hview (fun id hid=> .inr ⟨?_,zE,fun b hbn=> ?_⟩) (fun id _ b hb2=>hb2)
   .show A1 (put M.rows rid (sz,es1)) id=A1 M.rows id
    rw[Bn _ _ fun e=>hc2 (by rw[<- e]; exact hid)]
   .refine hsame b (R.names _ _ hbn).2 (fun e=> ?_) fun id' _ e=> ?_
    .have:=R.inj _ _ _ hbn e;have e3:id=rid:=by omega
     exact hc2 (e3▸hid)
    .have:=R.inj _ _ _ hbn e;omega
 refine⟨v,nm,zE,⟨hbel,zN R.size hb2.size,R.all,R.good,fun i b hi=> ?_,R.inj,R.pin,fun k=>(R.env k).to fun c v _=>hcell c v,fun id cs hcs=> ?_⟩,.undef⟩
 .obtain⟨h1,h2⟩:=R.names i b hi;exact⟨h1,zS h2 hb2.size⟩
 .have hcs:A1 (Fh M.bx ids cs1) id=O cs:=hcs;by_cases hid:id∈ids
  .obtain⟨j,hj⟩:=yN hid;have hjl:j<cs1.length:=by rw[hc,hbl]; exact(zJ.1 hj).1
   rw[dM hnd hj (zH hjl)] at hcs
   cases hcs;obtain⟨b,_,_,_,k1,_,k3,_⟩:=hbox j id hj;obtain⟨p,C,t,h1,h2,h3,h4⟩:=hh j _ (zH hjl);rw[k3] at h1
   cases h1;exact⟨b,C,t,k1,h2,dV (X:=cx A nm (M.behindW ids rid sz cs1 es1) w') (h3.mono hvw) h4⟩
  .rw[VC hid] at hcs
   obtain⟨b,C,t,h1,h2,h3⟩:=R.bxs id cs hcs;have h1:nm (2*id)=O b:=h1;refine⟨b,C,t,h1,(hsame b (R.names _ _ h1).2 (fun e=> ?_) fun id' hi e=> ?_).trans h2,h3.to fun c v _=>hcell c v⟩
   .have:=R.inj _ _ _ h1 e; omega
   .have:=R.inj _ _ _ h1 e;have e3:id=id':=by omega
    exact hid (e3▸hi)
end
section
variable {P : Program}
variable {k : J Fr} {Q : Xl -> St -> Prop} {M : St} {its : J AItem} {d f : zC} {args : J Opd} {xs : J WV} {sz : zC} {cs0 es0 cs1 es1 : J (J D)}
end
section
variable {P : Program} {A : Ar} {B : zC} {w0 : Base} {w : World} {nm : Ac} {M : St} {tmps : Array Value}
end
end
section
open Go.MapKept
section
variable {P : Program} {mt kt et : TypeId}
end
section
variable {P : Program} {A : Ar} {B : zC} {w0 : Base} {w w' : World} {nm : Ac} {M τ : St} {a : Act} {ops : Array Oper} {o : Oper} {rest : J Oper} {Q : Exit -> Act -> World -> Prop} {g : I (zC × zB)}
def ED(P:Program)(ops:Array Oper)(d:zC)(o:Oper)(ao:AOp)(g:I (zC × zB)):Prop:=o.dst=O d/\Ad P d o=O ao/\Ir ops o.guard=O g
def Ih(ops:Array Oper)(d:I zC)(o:Oper)(x:Op)(g:I (zC × zB)):Prop:=o.dst=d/\o.op=x/\Ir ops o.guard=O g
end
structure TideOps (P:Program) (nt:zC) (ops:Array Oper) (mt kt et:TypeId):Prop where
 hm:P.underlying mt=O (.map kt et)
 hk:P.underlying kt=O .string
 hz:∀w,(zeroValue et).run P w= .ok (.int .i64 0) w
 hl:ops.toList= [ops[0]!,ops[1]!,ops[2]!,ops[3]!,ops[4]!,ops[5]!,ops[6]!,ops[7]!,ops[8]!,ops[9]!,ops[10]!,ops[11]!,ops[12]!,ops[13]!,ops[14]!,ops[15]!,ops[16]!]
 h14:ED P ops 14 ops[0]! (.mv 14 (.t 6)) Z
 h15:ED P ops 15 ops[1]! (.un 15 .not (.t 14)) Z
 h16:ED P ops 16 ops[2]! (.mv 16 (.t 15)) Z
 h17:ED P ops 17 ops[3]! (.mv 17 (.t 5)) (O (16,F))
 h18:ED P ops 18 ops[4]! (.len 18 (.t 17)) (O (16,F))
 h19:Ih ops (O 19) ops[5]! (.makeMap mt Z) (O (16,F))
 hi1:Ih ops Z ops[6]! (.insert mt (.tmp 19) (.const (.string ⟨([109,101,97,110]:J zD).toArray⟩)) (.const (.int .i64 1))) (O (16,F))
 hi2:Ih ops Z ops[7]! (.insert mt (.tmp 19) (.const (.string ⟨([119,97,118,101]:J zD).toArray⟩)) (.const (.int .i64 3))) (O (16,F))
 hi3:Ih ops Z ops[8]! (.insert mt (.tmp 19) (.const (.string ⟨([115,117,114,103,101]:J zD).toArray⟩)) (.const (.int .i64 2))) (O (16,F))
 hi4:Ih ops Z ops[9]! (.insert mt (.tmp 19) (.const (.string ⟨([103,97,112]:J zD).toArray⟩)) (.const (.int .i64 1))) (O (16,F))
 h20:Ih ops (O 20) ops[10]! (.move (.tmp 19)) (O (16,F))
 h21:ED P ops 21 ops[11]! (.mv 21 (.t 1)) (O (16,F))
 h22:ED P ops 22 ops[12]! (.iaddr 22 (.t 21) (.c (.v (.sc (.dat (.int .i64 0))))) 1) (O (16,F))
 h23:ED P ops 23 ops[13]! (.load 23 (.t 22) F 1) (O (16,F))
 h24:Ih ops (O 24) ops[14]! (.lookup mt (.tmp 20) (.tmp 23) F) (O (16,F))
 h25:ED P ops 25 ops[15]! (.bin 25 .neq (.t 18) (.t 24)) (O (16,F))
 h26:ED P ops 26 ops[16]! (.pick 26 (.t 16) (.c (.v (.sc (.dat (.bool T))))) (.t 25)) Z
 hnt:26<nt
section
variable {P : Program} {M : St} {ops : Array Oper} {id mt kt et nt : zC} {C : Code}
end
end
section
inductive Tg (b:zC):D->Prop
 | here {k es}:Tg b (.slb b k es)
 | sl {es r d}:r∈es->d∈r->Tg b d->Tg b (.sl es)
def Ca(b:zC)(es:J (J D)):Prop:=∃r∈es,∃d∈r,Tg b d
def Reps.mem{h:A6}{d:D}:∀{ds:J D} {vs:J Value},Reps h ds vs->d∈ds->∃v,Rep h d v
 | _,_,.nil,hd=>by cases hd
 | _,_,.cons a b,hd=>by
  rcases zR.1 hd with rfl|hd
  .exact⟨_,a⟩
  .exact b.mem hd
def RepRows.mem{h:A6}{sz:zC}{r:J D}:∀{es:J (J D)} {vs:J Value},RepRows h sz es vs->r∈es->∃us,Reps h r us
 | _,_,.nil,hd=>by cases hd
 | _,_,.cons _ b c,hd=>by
  rcases zR.1 hd with rfl|hd
  .exact⟨_,b⟩
  .exact c.mem hd
def Rep.tg{h:A6}{b:zC}:∀{d:D} {v:Value},Tg b d->Rep h d v->∃C,h b C:=by
 intro d v H
 induction H generalizing v with
 | here=>intro R; cases R with | slb a _ _ _ _ _ _=>exact⟨_,a⟩
 | sl h1 h2 _ ih=>
  intro R;cases R with
  | nil=>cases h1
  | sl a _ b _ _ _=>
   obtain⟨us,hr⟩:=b.mem h1;obtain⟨u,hu⟩:=hr.mem h2;exact ih hu
def RepRows.tg{h:A6}{b sz:zC}{es:J (J D)}{vs:J Value}(H:RepRows h sz es vs):Ca b es->∃C,h b C:=fun⟨r,h1,d,h2,h3⟩=>by
 obtain⟨us,hr⟩:=H.mem h1;obtain⟨u,hu⟩:=hr.mem h2;exact hu.tg h3
def OwnB.tg{h:A6}{w:World}{b c sz cap:zC}{es:J (J D)}(H:OwnB h w c sz cap es)(ht:Ca b es):∃C,h b C:=by
 obtain⟨_,_,_,C,t,_,_,h6⟩:=H;exact h6.tg ht
def AC.tg(rs:Rows)(b:zC):AC->Prop
 | .dat d=>Tg b d
 | .own id | .osub id _ _ | .pe id _ _=>∃sz es,A1 rs id=O (sz,es)/\Ca b es
 | _=>False
def St.tg(M:St)(b:zC):Prop:=∃c,M.Uses c/\c.tg M.rows b
def CRel.tg{X:Cx}{b:zC}{c:AC}{v:Value}(H:CRel X c v)(ht:c.tg X.rs b):∃C,X.h b C:=by
 cases c with
 | dat d=>exact H.inv_dat.tg ht
 | own id=>
  obtain⟨sz,es,h1,h2⟩:=ht;rcases H.inv_own h1 with ⟨rfl,_⟩|⟨_,_,_,h3,_⟩
  .obtain⟨r,hr,_⟩:=h2; cases hr
  .exact h3.tg h2
 | osub id lo hi=>
  obtain⟨sz,es,h1,h2⟩:=ht;rcases H.inv_osub h1 with ⟨rfl,_⟩|⟨_,_,_,_,_,h3,_⟩
  .obtain⟨r,hr,_⟩:=h2; cases hr
  .exact h3.tg h2
 | pe id i o=>
  obtain⟨sz,es,h1,h2⟩:=ht;obtain⟨_,_,_,h3,_⟩:=H.inv_pe h1;exact h3.tg h2
 | _=>exact ht.elim
section
variable {P : Program} {A : Ar} {B : zC} {w0 : Base} {w : World} {nm : Ac} {M : St} {tmps : Array Value}
def CRels.all{X:Cx}{Q:AC->Prop}(hQ:∀c v,CRel X c v->Q c):∀{cs:J AC} {vs:J Value},CRels X cs vs->∀c∈cs,Q c
 | _,_,.nil=>fun c hc=>by cases hc
 | _,_,.cons a b=>fun c hc=>by
  rcases zR.1 hc with rfl|hc
  .exact hQ _ _ a
  .exact b.all hQ c hc
def V1Rel.all{X:Cx}{Q:AC->Prop}(hQ:∀c v,CRel X c v->Q c){x:V1}{v:Value}(H:V1Rel X x v):∀c∈x.cells,Q c:=by
 cases H with
 | sc h=>exact CRels.all hQ (.cons h .nil)
 | ag h=>exact CRels.all hQ h
def V1Rels.all{X:Cx}{Q:AC->Prop}(hQ:∀c v,CRel X c v->Q c):∀{l:J V1} {vs:J Value},V1Rels X l vs->∀c∈l.flatMap V1.cells,Q c
 | _,_,.nil=>fun c hc=>by simp at hc
 | _,_,.cons a b=>fun c hc=>by
  simp only[List.flatMap_cons,List.mem_append] at hc
  exact hc.elim (a.all hQ c) (b.all hQ c)
def VRel.all{X:Cx}{Q:AC->Prop}(hQ:∀c v,CRel X c v->Q c){x:AV}{v:Value}(H:VRel X x v):∀c∈x.cells,Q c:=by
 cases H with
 | undef=>intro c hc; cases hc
 | no=>intro c hc; cases hc
 | v h=>exact h.all hQ
 | tup h=>exact h.all hQ
 | ev h=>intro c hc; simp only[AV.cells,zZ] at hc; subst hc; exact hQ _ _ h
def Rel.uses(R:Rel A B w0 nm M tmps w){Q:AC->Prop}(hQ:∀c v,CRel (cx A nm M w) c v->Q c):∀c,M.Uses c->Q c:=by
 rintro c (⟨k,hc⟩|⟨id,cs,hf,hc⟩)
 .exact(R.env k).all hQ c hc
 .obtain⟨_,C,t,_,_,h3⟩:=R.bxs id cs hf;exact h3.all hQ c hc
def Rel.tg(R:Rel A B w0 nm M tmps w){b:zC}(h:M.tg b):∃C,A9 A nm w b C:=by
 obtain⟨c,hu,ht⟩:=h;exact R.uses (Q:=fun c=>c.tg M.rows b->∃C,A9 A nm w b C) (fun c v H ht=>CRel.tg (X:=cx A nm M w) H ht) c hu ht
def St.tg_own{k id sz b:zC}{es:J (J D)}(h:M.get k= .v (.sc (.own id)))(hf:A1 M.rows id=O (sz,es))(ht:Ca b es):M.tg b:=
 ⟨.own id,.inl ⟨k,by rw[h]; simp[AV.cells,V1.cells]⟩,sz,es,hf,ht⟩
end
mutual
inductive Un:D->D->Prop
 | same {d}:Un d d
 | slb {b k es es'}:UnRows es es'->Un (.slb b k es) (.sl es')
 | sl {es es'}:UnRows es es'->Un (.sl es) (.sl es')
inductive Uns:J D->J D->Prop
 | nil:Uns [] []
 | cons {d d' ds ds'}:Un d d'->Uns ds ds'->Uns (d::ds) (d'::ds')
inductive UnRows:J (J D)->J (J D)->Prop
 | nil:UnRows [] []
 | cons {d d' ds ds'}:Uns d d'->UnRows ds ds'->UnRows (d::ds) (d'::ds')
end
def Uns.refl:∀{ds:J D},Uns ds ds
 | []=> .nil
 | _::_=> .cons .same .refl
def UnRows.refl:∀{ds:J (J D)},UnRows ds ds
 | []=> .nil
 | _::_=> .cons .refl .refl
def Uns.len:∀{a b:J D},Uns a b->a.length=b.length
 | _,_,.nil=>rfl
 | _,_,.cons _ h=>by simp[h.len]
def UnRows.len:∀{a b:J (J D)},UnRows a b->a.length=b.length
 | _,_,.nil=>rfl
 | _,_,.cons _ h=>by simp[h.len]
mutual
def Rep.un{h:A6}:∀{d d':D} {v:Value},Un d d'->Rep h d v->Rep h d' v
 | _,_,_,.same,H=>H
 | _,_,_,.slb u,.slb a z b c d e _=> .sl a z (RepRows.un u b) (c.trans u.len) d e
 | _,_,_,.sl u,.nil=>by cases u; exact .nil
 | _,_,_,.sl u,.sl a z b c d e=> .sl a z (RepRows.un u b) (c.trans u.len) d e
def Reps.un{h:A6}:∀{d d':J D} {v:J Value},Uns d d'->Reps h d v->Reps h d' v
 | _,_,_,.nil,.nil=> .nil
 | _,_,_,.cons u us,.cons a b=> .cons (Rep.un u a) (Reps.un us b)
def RepRows.un{h:A6}{sz:zC}:∀{d d':J (J D)} {v:J Value},UnRows d d'->RepRows h sz d v->RepRows h sz d' v
 | _,_,_,.nil,.nil=> .nil
 | _,_,_,.cons u us,.cons a b c=> .cons (u.len.symm.trans a) (Reps.un u b) (RepRows.un us c)
end
inductive UnV:DV->DV->Prop
 | sc {d d'}:Un d d'->UnV (.sc d) (.sc d')
 | ag {d d'}:Uns d d'->UnV (.ag d) (.ag d')
inductive UnVs:J DV->J DV->Prop
 | nil:UnVs [] []
 | cons {d d' ds ds'}:UnV d d'->UnVs ds ds'->UnVs (d::ds) (d'::ds')
def UnV.refl{d:DV}:UnV d d:=by cases d<;>first | exact .sc .same | exact .ag .refl
def UnVs.refl:∀{ds:J DV},UnVs ds ds
 | []=> .nil
 | _::_=> .cons .refl .refl
def DVRels.un{h:A6}:∀{d d':J DV} {v:J Value},UnVs d d'->DVRels h d v->DVRels h d' v
 | _,_,_,.nil,.nil=> .nil
 | _,_,_,.cons (.sc u) us,.cons (.sc a) b=> .cons (.sc (a.un u)) (b.un us)
 | _,_,_,.cons (.ag u) us,.cons (.ag a e) b=> .cons (.ag (a.un u) (u.len.symm.trans e)) (b.un us)
def FC.un{P:Program}{f:FuncId}{ds ds':J DV}{rs:J R1}(H:FC P f ds rs)(u:UnVs ds' ds):FC P f ds' rs:=fun w A vs hG hvs=>H w A vs hG (hvs.un u)
def RC.tg(b:zC):RC->Prop
 | .v d=>Tg b d
 | .o _ es=>Ca b es
def R1s.tg(b:zC)(rs:J R1):Prop:=∃c∈rs.flatMap R1.cells,c.tg b
def FCs(P:Program)(f:FuncId)(ds:J DV)(RS:J R1->Prop):Prop:=
 ∀(w:World) (A:B9) (vs:J Value),GoodW w->DVRels (Al A w) ds vs->Calls P f vs.toArray w fun e w'=>
  ∃(rs:J R1) (v:Value) (bs:J (I zC)),RS rs/\e= .returned v/\RowKit.Below w.heap.size w w'/\RRel (Al (fun b fr=>O b∉bs/\((w.heap.size<=b/\fr=(0,0))\/False)) w') w' rs v bs/\
   (∀b,O b∈bs->w.heap.size<=b/\b<w'.heap.size)/\(∀(i j b:zC),bs[i]?=O (O b)->bs[j]?=O (O b)->i=j)
def FCf.s{P:Program}{f:FuncId}{ds:J DV}{rs:J R1}(H:FCf P f ds rs):FCs P f ds (· = rs):=fun w A vs hG hvs=>(H w A vs hG hvs).mono fun e w' ⟨v,bs,h⟩=>⟨rs,v,bs,rfl,h⟩
def FCs.mono{P:Program}{f:FuncId}{ds:J DV}{RS RS':J R1->Prop}(H:FCs P f ds RS)(h:∀rs,RS rs->RS' rs):FCs P f ds RS':=fun w A vs hG hvs=>(H w A vs hG hvs).mono fun e w' ⟨rs,v,bs,h1,h2⟩=>⟨rs,v,bs,h rs h1,h2⟩
def FC.newf{P:Program}{f:FuncId}{ds:J DV}{rs:J R1}(H:FC P f ds rs)(hf:CB rs):FCf P f ds rs:=fun w A vs hG hvs=>(H w A vs hG hvs).mono fun e w' ⟨v,bs,h1,h2,h3,h4⟩=>⟨v,bs,h1,h2,h3.conv fun c hc=> .inr (hf c hc),h4⟩
def RCRel.tg{h:A6}{w:World}{b:zC}{c:RC}{v:Value}{o:I zC}(H:RCRel h w c v o)(ht:c.tg b):∃C,h b C:=by
 cases H with
 | v a=>exact a.tg ht
 | nil=>obtain⟨r,hr,_⟩:=ht; cases hr
 | o a _=>exact a.tg ht
def RCRels.get{h:A6}{w:World}{c:RC}:∀{cs:J RC} {vs:J Value} {bs:J (I zC)},RCRels h w cs vs bs->c∈cs->∃v o,RCRel h w c v o
 | _,_,_,.nil,hc=>by cases hc
 | _,_,_,.cons a b,hc=>by
  rcases zR.1 hc with rfl|hc
  .exact⟨_,_,a⟩
  .exact b.get hc
def R1Rel.get{h:A6}{w:World}{c:RC}{r:R1}{v:Value}{bs:J (I zC)}(H:R1Rel h w r v bs)(hc:c∈r.cells):∃v o,RCRel h w c v o:=by
 cases H with
 | sc a=>exact(RCRels.cons a .nil).get hc
 | ag a=>exact a.get hc
def R1Rels.get{h:A6}{w:World}{c:RC}:∀{rs:J R1} {vs:J Value} {bs:J (I zC)},R1Rels h w rs vs bs->c∈rs.flatMap R1.cells->∃v o,RCRel h w c v o
 | _,_,_,.nil,hc=>by simp at hc
 | _,_,_,.cons a b,hc=>by
  simp only[List.flatMap_cons,List.mem_append] at hc
  exact hc.elim a.get b.get
def RRel.get{h:A6}{w:World}{c:RC}{rs:J R1}{v:Value}{bs:J (I zC)}(H:RRel h w rs v bs)(hc:c∈rs.flatMap R1.cells):∃v o,RCRel h w c v o:=by
 cases H with
 | one a=>exact a.get (by simpa using hc)
 | many _ a=>exact a.get hc
section
variable {P : Program} {A : Ar} {B : zC} {w0 : Base} {w : World} {nm : Ac} {M : St} {tmps : Array Value}
def A7b{b:zC}{C:J Value}(h:A9 A nm w b C):b<w.heap.size:=by
 obtain⟨_,c,t,fr,_,h2,_⟩:=h;exact DO h2
def XR(M:St)(rs:J R1):Prop:=∀t t',M.tg t->R1s.tg t' rs->t<t'
def FCs.callS{f:FuncId}{ds ds':J DV}{RS:J R1->Prop}(H:FCs P f ds RS){d:zC}{avs:J AV}(hx:M.toDL avs=O ds')(hu:UnVs ds' ds)(hfr:M.fresh d=T)(h64:∀rs,RS rs->(rs.flatMap R1.cells).length<=64) :
  QL P f avs M fun M' r=>∃rs,RS rs/\XR M rs/\M'={M with rows:=Bj M.rows (BI d rs)}/\r=BN d rs:=by
 intro A B w0 w nm tmps vs R hvs;refine(H w (fun _ _=>True) vs (R.good w R.below) (((VX R hvs hx).un hu).mono fun _ _ h=>Wp h)).mono fun e w' h=> ?_
 obtain⟨rs,v,bs,hrs,rfl,h2,h3,h4,h5⟩:=h;obtain⟨nm',R',hv⟩:=R.behind0 hfr (h64 _ hrs) (A':=fun _ _=>False) (.inl fun _ _ h=>h.elim) h2 h3 h4 h5;refine⟨v,nm',_,_,zE,⟨rs,hrs,fun t t' ht ht'=> ?_,zE,zE⟩,R',hv⟩;obtain⟨C,hC⟩:=R.tg ht;obtain⟨c,hc,hct⟩:=ht';obtain⟨v1,o1,hr1⟩:=h3.get hc;obtain⟨C',cc,tt,fr,⟨_,k⟩,_⟩:=hr1.tg hct;have:=A7b hC;rcases k with k|k
 .omega
 .exact k.elim
def HN{k:J Fr}{Q:Xl->St->Prop}{its:J AItem}{d f:zC}{args:J Opd}{ds ds':J DV}{RS:J R1->Prop}(H:FCs P f ds RS)(hx:M.toDL (args.map M.val)=O ds')(hu:UnVs ds' ds)(hfr:M.fresh d=T)(h64:∀rs,RS rs->(rs.flatMap R1.cells).length<=64)
  (h:∀rs,RS rs->XR M rs->go P (.ops its::k) Q .normal (O (M.inst d rs))):go P (.ops ((Z,.call d f args)::its)::k) Q .normal (O M):=
 .inr (.inr ⟨_,H.callS hx hu hfr h64,fun _ _ ⟨rs,h1,h2,e1,e2⟩=>by subst e1 e2; exact h rs h1 h2⟩)
end
def Fy(ts:J RV)(RS:J R1->Prop)(e:Xl)(M:St):Prop:=∃rs,RS rs/\A5 ts rs e M
section
variable {P : Program}
def iP(hm:P.follows .mixedOrders=T){f:FuncId}{fn:Func}{C:Code}{c:Xf}{ts:J RV}{ds:J DV}{RS:J R1->Prop}(hf:P.funcs[f]?=O fn)(hb:fn.body=O C)(hc:Bc P fn.ntmps C=O c.strip)
  (hr:DY P fn.results.toList=O ts) (hl:ds.length<=fn.ntmps) (h:B0 P c (Fy ts RS) (St.initO ds)):FCs P f ds RS:=by
 intro w A0 vs hG hvs;refine calls_of_wp hf hb ?_;have hlen:=hvs.len;refine wp_mono (Iq (df:= []) hm c C _ (fun _=>Z) (St.initO ds) _ w hc h (bX fn.ntmps hG hvs) d3 zE) fun e a w' hp=> ?_
 obtain⟨e',nm,M,he,⟨rs,hrs,hq⟩,R,hnt,hdf⟩:=hp
 have key:QS ts rs M->a.defers= []/\∃v,(results fn a.tmps).run P w'= .ok v w'/\∃(rs:J R1) (v':Value) (bs:J (I zC)),RS rs/\Ending.returned v= .returned v'/\RowKit.Below w.heap.size w w'/\
   RRel (Al (fun b fr=>O b∉bs/\((w.heap.size<=b/\fr=(0,0))\/False)) w') w' rs v' bs/\(∀b,O b∈bs->w.heap.size<=b/\b<w'.heap.size)/\(∀(i j b:zC),bs[i]?=O (O b)->bs[j]?=O (O b)->i=j):=by
  rintro⟨ho,hnd⟩
  let ids:=D4 M ts rs
  have hbs:∀b,O b∈ids.map (Ba nm)->∃id,O id∈ids/\nm (2*id+1)=O b:=by
   intro b hb;obtain⟨o,ho,hb⟩:=zV.1 hb;cases o with
   | none=>simp[Ba] at hb
   | some id=>exact⟨id,ho,hb⟩
  have hview:∀b C,A9 (fun b fr=>w.heap.size<=b/\fr=(0,0)) nm w' b C->Al (fun b fr=>O b∉ids.map (Ba nm)/\((w.heap.size<=b/\fr=(0,0))\/False)) w' b C:=by
   rintro b C ⟨h1,c,t,fr,h2,h3⟩
   refine⟨c,t,fr,⟨fun hb=> ?_,.inl h2⟩,h3⟩;obtain⟨id,_,hn⟩:=hbs b hb;exact h1 _ hn
  obtain⟨vs',hrun,hvl,hrel⟩:=I0 (P:=P) (f:=fun | .tmp t=>pure (a.tmps.getD t undef) | .cell c t=>do loadVar t (<- asAddr (a.tmps.getD c undef))) R hview (fun _=>rfl) (fun _ _=>rfl) hr ho;refine⟨hdf,(if h:vs'.length=1 then vs'[0] else .tuple vs'.toArray),?_,rs,_,ids.map (Ba nm),hrs,zE,R.below.plain (fun _=>rfl),?_,fun b hb=> ?_,fun i j b hi hj=> ?_⟩
  .unfold results;rw[<- Array.toArray_toList (xs:=fn.results)];simp only[yG,Sem.run_bind,map_eq_pure_bind];erw [hrun]
   simp only[Result.andThen_ok,Sem.run_pure];simp
  .split
   .rename_i h1
    obtain⟨v1,rfl⟩:=zT.1 h1;have hrl:rs.length=1:=by rw[ho.len,<- hvl]; exact h1
    obtain⟨r,rfl⟩:=zT.1 hrl;revert hrel
    show R1Rels _ _ [r] [v1] (ids.map (Ba nm))->_
    generalize ids.map (Ba nm)=bs
    intro hrel;cases hrel with
    | cons h1 h2=>
     cases h2;simp only[yA] at h1 ⊢
     exact .one h1
   .rename_i h1
    refine .many ?_ hrel;rw[ho.len,<- hvl];exact h1
  .obtain⟨id,_,hn⟩:=hbs b hb;obtain⟨k1,k2⟩:=R.names _ _ hn;refine⟨k1.resolve_right ?_,k2⟩;intro hmm;obtain⟨i,_,hi⟩:=Base.of_M hmm;cases hi
  .simp only[zY,zG] at hi hj
   obtain⟨x,hx,hxb⟩:=hi;obtain⟨y,hy,hyb⟩:=hj;cases x with
   | none=>simp[Ba] at hxb
   | some x=>
    cases y with
    | none=>simp[Ba] at hyb
    | some y=>
     have:=R.inj _ _ _ hxb hyb;have e:x=y:=by omega
     subst e;exact SV hnd i j x hx hy
 cases e' with
 | normal=>obtain rfl:e= .normal:=he; exact key hq
 | ret=>obtain rfl:e= .ret:=he; exact key hq
 | exit id=>exact hq.elim
 | pan d=>exact hq.elim
def iO(hm:P.follows .mixedOrders=T){f:FuncId}{c:Xf}{ts:J RV}{nt:zC}{ds:J DV}{RS:J R1->Prop}(he:AF P f=O (c.strip,ts,nt))(hl:ds.length<=nt)(h:B0 P c (Fy ts RS) (St.initO ds)):FCs P f ds RS:=by
 unfold AF at he
 split at he
 .rename_i fn hf
  split at he
  .rename_i C ts' hb hr
   simp only[zG] at he
   obtain⟨c',hc,e⟩:=he;cases e;exact iP hm hf hb hc hr hl h
  .cases he
 .cases he
def QN(hm:P.follows .mixedOrders=T){f nt:zC}{c:Xf}{ts:J RV}{ds:J DV}{RS:J R1->Prop}{M:St}(he:AF P f=O (c.strip,ts,nt))(hl:zX ds.length nt=T)(hσ:St.initO ds=M)
  (h:go P [.code c] (Fy ts RS) .normal (O M)):FCs P f ds RS:=iO hm he (zM hl) (hσ▸Kb h)
end
end
def D.tagW(k:I zC)(b:zC):D->D
 | .sl (e::es)=> .slb b k (e::es)
 | d=>d
def RC.tagO(b:zC):RC->RC
 | .o sz es=> .v (D.tagW (O sz) b (.sl es))
 | c=>c
def Ib(g:zC->zC):zC->J RC->J RC
 | _,[]=> []
 | j,c::cs=>c.tagO (g j)::Ib g (j+1) cs
def D6(g:zC->zC):zC->J R1->J R1
 | _,[]=> []
 | j,.sc c::rs=> .sc (c.tagO (g j))::D6 g (j+1) rs
 | j,.ag cs::rs=> .ag (Ib g j cs)::D6 g (j+cs.length) rs
def OwnB.tagW{h:A6}{w:World}{b sz cap:zC}{es:J (J D)}{h':A6}(H:OwnB h w b sz cap es)(hh:∀b C,h b C->h' b C)(hb:∀C t,w.heap[b]?=O (.cells C t (0,0))->h' b C.toList) :
  Rep h' (D.tagW (O sz) b (.sl es)) (.slice (O ⟨b,0,Z⟩) es.length cap):=by
 obtain⟨a1,a2,a3,C,t,a4,a5,a6⟩:=H;cases es with
 | nil=>exact .nil
 | cons e es=>exact .slb (C:=C.toList) (hb C t a4) a1 (by simpa using a6.mono hh) rfl a2 a3 (fun s hs=>by cases hs; exact⟨rfl,rfl,by simpa using a5⟩)
def RCRel.tagO{h h':A6}{w:World}{c:RC}{v:Value}{o:I zC}(H:RCRel h w c v o)(hh:∀b C,h b C->h' b C)(hb:∀b C t,o=O b->w.heap[b]?=O (.cells C t (0,0))->h' b C.toList):RCRel h' w (c.tagO (o.getD 0)) v Z:=by
 cases H with
 | v a=>exact .v (a.mono hh)
 | nil=>exact .v .nil
 | o a hl=>subst hl; exact .v (a.tagW hh fun C t e=>hb _ C t rfl e)
def RCRels.tagO{h h':A6}{w:World}{g:zC->zC}:∀{cs:J RC} {vs:J Value} {bs:J (I zC)} {j:zC},RCRels h w cs vs bs->(∀b C,h b C->h' b C)->(∀b C t,O b∈bs->w.heap[b]?=O (.cells C t (0,0))->h' b C.toList)->
  (∀(i:zC) (o:I zC),bs[i]?=O o->g (j+i)=o.getD 0)->RCRels h' w (Ib g j cs) vs (bs.map fun _=>Z)
 | _,_,_,_,.nil,_,_,_=> .nil
 | _,_,_,j,.cons a b,hh,hb,hg=>by
  refine .cons ?_ (RCRels.tagO b hh (fun b C t hm=>hb b C t (zO _ hm)) fun i o hi=> ?_)
  .have:=hg 0 _ rfl;rw[Nat.add_zero] at this
   rw[this];exact a.tagO hh fun b C t e=>hb b C t (by rw[e]; exact zP)
  .have:=hg (i+1) o (by simpa using hi);rwa [show j+(i+1)=j+1+i by omega] at this
def VT{g:zC->zC}:∀{rs:J R1} {j:zC},(D6 g j rs).length=rs.length
 | [],_=>rfl
 | .sc _::_,_=>by simp[D6,VT]
 | .ag _::_,_=>by simp[D6,VT]
def R1Rels.tagO{h h':A6}{w:World}{g:zC->zC}:∀{rs:J R1} {vs:J Value} {bs:J (I zC)} {j:zC},R1Rels h w rs vs bs->(∀b C,h b C->h' b C)->(∀b C t,O b∈bs->w.heap[b]?=O (.cells C t (0,0))->h' b C.toList)->
  (∀(i:zC) (o:I zC),bs[i]?=O o->g (j+i)=o.getD 0)->R1Rels h' w (D6 g j rs) vs (bs.map fun _=>Z)
 | _,_,_,_,.nil,_,_,_=> .nil
 | _,_,_,j,.cons (c:= .sc c) a b,hh,hb,hg=>by
  cases a with | sc a=>
  have h1:=hg 0 _ rfl;rw[Nat.add_zero] at h1
  refine R1Rels.cons (b:= [Z]) (.sc ?_) (R1Rels.tagO b hh (fun b C t hm=>hb b C t (zO _ hm)) fun i o hi=> ?_)
  .rw[h1];exact a.tagO hh fun b C t e=>hb b C t (by rw[e]; exact zP)
  .have:=hg (i+1) o (by simpa using hi);rwa [show j+(i+1)=j+1+i by omega] at this
 | _,_,_,j,.cons (c:= .ag cs) (bs:=bs2) a b,hh,hb,hg=>by
  rename_i AU
  cases a with | ag a=>
  have hl:=a.len;rw[yM];refine .cons (.ag (a.tagO hh (fun b C t hm=>hb b C t (List.mem_append_left _ hm)) fun i o hi=>hg i o ?_)) (R1Rels.tagO b hh (fun b C t hm=>hb b C t (List.mem_append_right _ hm)) fun i o hi=> ?_)
  .rw[List.getElem?_append_left (zJ.1 hi).1]; exact hi
  .have:=hg (cs.length+i) o (by rw[List.getElem?_append_right a9,show cs.length+i - _=i by rw[hl]; omega]; exact hi);rwa [show j+(cs.length+i)=j+cs.length+i by omega] at this
def RRel.tagO{h h':A6}{w:World}{rs:J R1}{v:Value}{bs:J (I zC)}(H:RRel h w rs v bs)(hh:∀b C,h b C->h' b C)(hb:∀b C t,O b∈bs->w.heap[b]?=O (.cells C t (0,0))->h' b C.toList) :
  RRel h' w (D6 (fun j=>((bs[j]?).join).getD 0) 0 rs) v (bs.map fun _=>Z):=by
 have hg:∀(i:zC) (o:I zC),bs[i]?=O o->(fun j=>((bs[j]?).join).getD 0) (0+i)=o.getD 0:=fun i o hi=>by simp[hi]
 cases H with
 | one a=>
  have:=R1Rels.tagO (h':=h') (j:=0) (g:=fun j=>((bs[j]?).join).getD 0) (.cons a .nil) hh (by simpa using hb) (fun i o hi=>hg i o (by simpa using hi));rename_i r
  cases r with
  | sc c=>
   simp only[D6,yA] at this ⊢
   revert this
   generalize zI (fun _=>Z) bs=q
   intro this;cases this with | cons x y=>cases y; rw[yA]; exact .one x
  | ag cs=>
   simp only[D6,yA] at this ⊢
   revert this
   generalize zI (fun _=>Z) bs=q
   intro this;cases this with | cons x y=>cases y; rw[yA]; exact .one x
 | many hl a=>exact .many (by rwa [VT]) (a.tagO hh hb hg)
def FCf.tag{P:Program}{f:FuncId}{ds:J DV}{rs:J R1}(H:FCf P f ds rs):FCs P f ds fun rs'=>∃g,rs'=D6 g 0 rs:=fun w A vs hG hvs=>(H w A vs hG hvs).mono fun e w' ⟨v,bs,h1,h2,h3,h4,h5⟩=>by
 refine⟨_,v,bs.map fun _=>Z,⟨_,zE⟩,h1,h2,h3.tagO (fun b C hC=> ?_) (fun b C t hm hC=> ?_),fun b hb=> ?_,fun i j b hi=> ?_⟩
 .obtain⟨c,t,fr,⟨_,k⟩,k2⟩:=hC;exact⟨c,t,fr,⟨d0,k⟩,k2⟩
 .exact⟨C,t,_,⟨d0,.inl ⟨(h4 b hm).1,zE⟩⟩,hC,zE⟩
 .simp at hb
 .simp at hi
section
inductive Sh:D->Prop
 | flat {d}:d.flat=T->Sh d
 | nil:Sh (.sl [])
 | slb {b k es}:(∀r∈es,∀d∈r,d.flat=T)->Sh (.slb b k es)
def Rep.sh{h h':A6}{d:D}{v:Value}(H:Sh d)(R:Rep h d v)(hh:∀b C,Tg b d->h b C->h' b C):Rep h' d v:=by
 cases H with
 | flat hf=>exact R.flat hf
 | nil=>cases R with
  | nil=>exact .nil
  | sl a z b c d e=>simp at c; subst c; exact .nil
 | slb hf=>cases R with | slb a z b c d e g=>exact .slb (hh _ _ .here a) z (b.flat hf) c d e g
def Reps.sh{h h':A6}:∀{ds:J D} {vs:J Value},Reps h ds vs->(∀d∈ds,Sh d)->(∀b C,(∃d∈ds,Tg b d)->h b C->h' b C)->Reps h' ds vs
 | _,_,.nil,_,_=> .nil
 | _,_,.cons a b,H,hh=> .cons (a.sh (H _ zP) fun b C ht=>hh b C ⟨_,zP,ht⟩) (b.sh (fun d hd=>H d (zO _ hd)) fun b C ⟨d,hd,ht⟩=>hh b C ⟨d,zO _ hd,ht⟩)
def RepRows.sh{h h':A6}{sz:zC}:∀{es:J (J D)} {vs:J Value},RepRows h sz es vs->(∀r∈es,∀d∈r,Sh d)->(∀b C,Ca b es->h b C->h' b C)->RepRows h' sz es vs
 | _,_,.nil,_,_=> .nil
 | _,_,.cons a b c,H,hh=> .cons a (b.sh (H _ zP) fun b C ⟨d,hd,ht⟩=>hh b C ⟨_,zP,d,hd,ht⟩) (c.sh (fun r hr=>H r (zO _ hr)) fun b C ⟨r,hr,h2⟩=>hh b C ⟨r,zO _ hr,h2⟩)
def AC.mapD(g:D->D):AC->AC
 | .dat d=> .dat (g d)
 | .mix _=> .undef
 | c=>c
def CRel.shift{X Y:Cx}{g:D->D}{c:AC}{v:Value}(H:CRel X c v)(hd:∀d v,c= .dat d->Rep X.h d v->Rep Y.h (g d) v)(hnm:∀i,Y.nm i=X.nm i)(hdead:∀id,A1 X.rs id=Z->A1 Y.rs id=Z)
  (hrow:∀id sz es,c.has id=T->A1 X.rs id=O (sz,es)->∃es',es'.length=es.length/\A1 Y.rs id=O (sz,es')/\∀b cap,X.nm (2*id+1)=O b->OwnB X.h X.w b sz cap es->OwnB Y.h Y.w b sz cap es')
  (hz:Y.o=X.o/\Y.v=X.v/\Y.new=X.new):CRel Y (c.mapD g) v:=by
 have h1:=H.one;cases H with
 | undef h=>exact .undef h
 | dat h=>exact .dat (hd _ _ rfl h)
 | @ownNil id sz a0 hf hn=>
  obtain⟨es',e1,e2,_⟩:=hrow id sz [] (by simp[AC.has]) hf;obtain rfl:=zL.1 e1;exact .ownNil e2 ((hnm _).trans hn)
 | @own id sz es b cap len hf hn hown hl=>
  obtain⟨es',e1,e2,e3⟩:=hrow id sz es (by simp[AC.has]) hf;exact .own e2 ((hnm _).trans hn) (e3 _ _ hn hown) (hl.trans e1.symm)
 | ownDead hf _=>exact .ownDead (hdead _ hf) h1
 | @osubNil id sz a0 hf hn=>
  obtain⟨es',e1,e2,_⟩:=hrow id sz [] (by simp[AC.has]) hf;obtain rfl:=zL.1 e1;exact .osubNil e2 ((hnm _).trans hn)
 | @osub id sz es lo hi b cap cap' len off hf hn hown a1 a2 a3 a4 a5 a6=>
  obtain⟨es',e1,e2,e3⟩:=hrow id sz es (by simp[AC.has]) hf;exact .osub e2 ((hnm _).trans hn) (e3 _ _ hn hown) a1 (e1▸a2) a3 a4 a5 a6
 | osubDead hf _=>exact .osubDead (hdead _ hf) h1
 | nil=>exact .nil
 | pb hb=>exact .pb ((hnm _).trans hb)
 | @pe id sz es idx off b cap o hf hn hown a1 a2=>
  obtain⟨es',e1,e2,e3⟩:=hrow id sz es (by simp[AC.has]) hf;exact .pe e2 ((hnm _).trans hn) (e3 _ _ hn hown) (e1▸a1) a2
 | peDead hf _=>exact .peDead (hdead _ hf) h1
 | clo hb=>exact .clo (by rw[show(fun i=>Y.nm (2*i))=fun i=>X.nm (2*i) from funext fun i=>hnm _]; exact hb)
 | z=>exact .z
 | old hn hd=>exact .old (hz.2.2.trans hn) (hz.1▸hd)
 | nw hn ho=>exact .nw (hz.2.2.trans hn) ho
 | mix h=>exact .undef h1
 | vol p q=>exact .vol (hz.2.1▸p) q
 | ipb hb=>exact .ipb ((hnm _).trans hb)
def D.upd(b:zC)(ps:J (J D)):D->D
 | .slb t k es=>bif t==b then .slb t k ps else .slb t k es
 | d=>d
def St.updT(M:St)(b:zC)(ps:J (J D)):St:={M.map (AC.mapD (D.upd b ps)) with rows:=M.rows.map fun p=>(p.1,p.2.1,p.2.2.map (zI (D.upd b ps)))}
def GQ(b sz:zC)(ps:J (J D))(d:D):Prop:=Sh d/\∀k es,d= .slb b k es->k=O sz/\es=ps
def Uf{f:J (J D)->J (J D)}:∀(rs:Rows) (id:zC),A1 (rs.map fun p=>(p.1,p.2.1,f p.2.2)) id=(A1 rs id).map fun p=>(p.1,f p.2)
 | [],_=>rfl
 | (k,s,es)::rs,id=>by
  simp only[yS,A1];cases k==id with
  | true=>rfl
  | false=>exact Uf rs id
def Rep.upd{h h':A6}{b sz:zC}{ps ps':J (J D)}{d:D}{v:Value}(ho:GQ b sz ps d)(R:Rep h d v)(hh:∀t C,t≠b->h t C->h' t C)(hn:∀v,Rep h (.slb b (O sz) ps) v->Rep h' (.slb b (O sz) ps') v):Rep h' (d.upd b ps') v:=by
 obtain⟨hs,hk⟩:=ho;cases hs with
 | flat hf=>
  have e:d.upd b ps'=d:=by cases d<;>first | rfl | cases hf
  rw[e];exact R.flat hf
 | nil=>exact R.sh .nil fun t C ht=>by cases ht; simp_all
 | @slb t k es hf=>
  by_cases ht:t=b
  .subst ht;obtain⟨rfl,rfl⟩:=hk _ _ rfl;simp only[D.upd,beq_self_eq_true,cond_true];exact hn v R
  .have e:(t==b)=F:=by simpa using ht
   simp only[D.upd,e,cond_false];exact R.sh (.slb hf) fun t' C h1 h2=>by cases h1; exact hh _ C ht h2
def Reps.upd{h h':A6}{b sz:zC}{ps ps':J (J D)}(hh:∀t C,t≠b->h t C->h' t C)(hn:∀v,Rep h (.slb b (O sz) ps) v->Rep h' (.slb b (O sz) ps') v):∀{ds:J D} {vs:J Value},Reps h ds vs->(∀d∈ds,GQ b sz ps d)->Reps h' (ds.map (D.upd b ps')) vs
 | _,_,.nil,_=> .nil
 | _,_,.cons a r,H=> .cons (a.upd (H _ zP) hh hn) (r.upd hh hn fun d hd=>H d (zO _ hd))
def RepRows.upd{h h':A6}{b sz n:zC}{ps ps':J (J D)}(hh:∀t C,t≠b->h t C->h' t C)(hn:∀v,Rep h (.slb b (O sz) ps) v->Rep h' (.slb b (O sz) ps') v):∀{es:J (J D)} {vs:J Value},RepRows h n es vs->(∀r∈es,∀d∈r,GQ b sz ps d)->RepRows h' n (es.map (zI (D.upd b ps'))) vs
 | _,_,.nil,_=> .nil
 | _,_,.cons a r c,H=> .cons (by simpa using a) (r.upd hh hn (H _ zP)) (c.upd hh hn fun d hd=>H d (zO _ hd))
section
variable {P : Program} {A : Ar} {B : zC} {w0 : Base} {w : World} {nm : Ac} {M : St} {tmps : Array Value}
def Rel.isNw(R:Rel A B w0 nm M tmps w){k:zC}(h:M.get k= .ev .nw):A.new=T:=by
 have H:=R.env k;rw[h] at H
 cases H with | ev H=>cases H with | nw hn _=>exact hn
def FCx.callT{f:FuncId}{x r:D}{sz b k:zC}{ps ps':J (J D)}(H:FCx P f [.sc (.r 0),.sc (.d x)] [(sz,ps)] [(sz,ps')] r)(hl:ps'.length=ps.length)(hfl:∀r∈ps,∀d∈r,d.flat=T)(hfl':∀r∈ps',∀d∈r,d.flat=T)(hx:x.flat=T)(hnw:M.get k= .ev .nw)
  (hok:∀c,M.Uses c->∀d,c= .dat d->GQ b sz ps d) (hrows:∀id s es,A1 M.rows id=O (s,es)->∀r∈es,∀d∈r,GQ b sz ps d) :
  CallC P f [.v (.sc (.dat (.slb b (O sz) ps))),.v (.sc (.dat x))] M (M.updT b ps') (.v (.sc (.dat r))):=by
 intro A B w0 w nm tmps vs R hvs;have hnew:=R.isNw hnw
 obtain⟨v0,vx,rfl⟩:∃v0 vx,vs= [v0,vx]:=by
  have:=hvs.1
  match vs,this with
  | [a,b],_=>exact⟨a,b,rfl⟩
 have h0:=(hvs.2 0 _ v0 rfl rfl).inv_sc.inv_dat;have hxv:=(hvs.2 1 _ vx rfl rfl).inv_sc.inv_dat;cases h0 with | @slb _ _ _ C sz' off cap len hC hz hrep hlen hcap hmax hwhole=>
 obtain⟨rfl,rfl,hCl⟩:=hwhole _ rfl;obtain⟨hun,c,t,fr,hA,hheap,rfl⟩:=hC;obtain⟨hBb,rfl⟩:=R.all.new hnew b fr hA;have hM:B<=b\/w0.M b:=hBb.imp id .inr
 have hnp:∀i q,Bg [O b] i=O q->q=b:=fun i q e=>by
  obtain⟨j,_,h2⟩:=HY e;cases j with
  | zero=>simpa using h2.symm
  | succ j=>simp at h2
 have after:∀w2,BelowX w.heap.size (.of w (Bg [O b])) w2->BelowX B w0 w2:=fun w2 h=>R.below.after h R.size R.there fun i q e=>hnp i q e▸hM
 have own0:OwnB BP w b sz cap ps:=⟨hz,hlen▸hcap,hmax,c,t,hheap,by simpa using hCl,by simpa using hrep.flat hfl⟩;refine(H w [_,vx] [O b] rfl (fun i j q hi hj=> ?_) (fun q hq=> ?_) (fun w2 h=>R.good w2 (after w2 h)) (.cons (.sc (.r zE zE own0 hlen)) (.cons (.sc (.d (hxv.flat hx))) .nil))).mono fun e w' h=> ?_
 .cases i with
  | zero=>cases j with
   | zero=>rfl
   | succ j=>simp at hj
  | succ i=>simp at hi
 .simp at hq; subst hq; exact DO hheap
 obtain⟨v,rfl,hb,hv,hrow⟩:=h;obtain⟨sz2,es2,cap2,e1,a1,a2,a3,C2,t2,a4,a5,a6⟩:=hrow 0 b rfl;simp at e1
 obtain⟨rfl,rfl⟩:=e1;have hMb:∀q,(Base.of w (Bg [O b])).M q->q=b:=fun q hq=>by obtain⟨i,_,e⟩:=Base.of_M hq; exact hnp i q e
 have hsame:∀q,q<w.heap.size->q≠b->w'.heap[q]?=w.heap[q]?:=fun q hq hne=>hb.block q hq (fun h=>hne (hMb q h)) fun h=>h.elim
 have hpin:Bg [O b] (AG+2*0+1)=O b:=MB (bs:= [O b]) (j:=0) (o:=some b) rfl
 have hMbb:(Base.of w (Bg [O b])).M b:=by
  generalize AG+2*0+1=i at hpin
  obtain⟨j,rfl,_⟩:=HY hpin;exact .inl ⟨_,Nat.le_add_right_of_le (Nat.le_add_right _ _),hpin⟩
 have hsz:C2.size=c.size/\t2=t:=by
  obtain⟨C',k1,k2⟩:=hb.room b hMbb _ _ _ hheap;rw[a4] at k1
  cases k1;exact⟨k2,zE⟩
 have hcap2:cap2=cap:=by
  have h1:cap2*sz=cap*sz:=by rw[<- a5,hsz.1,<- hCl,Array.length_toList]
  exact yB hz h1
 have hh:∀q D0,q≠b->A9 A nm w q D0->A9 A nm w' q D0:=fun q D0 hq ⟨g1,cc,tt,fr,g2,g3,g4⟩=>⟨g1,cc,tt,fr,g2,(hsame q (DO g3) hq).trans g3,g4⟩
 have hnw2:∀u,Rep (A9 A nm w) (.slb b (O sz) ps) u->Rep (A9 A nm w') (.slb b (O sz) ps') u:=fun u hu=>by
  cases hu with | @slb _ _ _ D0 s2 o2 cp2 ln2 g1 g2 g3 g4 g5 g6 g7=>
  obtain⟨rfl,rfl,g8⟩:=g7 _ rfl;obtain⟨_,cc,tt,fr,_,g9,rfl⟩:=g1;rw[hheap] at g9
  cases g9;have ecap:cp2=cap:=yB hz (g8.symm.trans hCl);subst ecap
  exact .slb (C:=C2.toList) ⟨hun,C2,t2,_,hA,a4,zE⟩ g2 (by simpa using a6.mono GE) (g4.trans hl.symm) g5 g6 fun s hs=>by
   cases hs;exact⟨zE,zE,by rw[Array.length_toList,a5,hcap2]⟩
 have hnmb:∀i q,nm i=O q->q≠b:=fun i q hi e=>hun i (e▸hi)
 refine⟨v,nm,zE,?_,.v (.sc (.dat (hv.mono GE)))⟩;refine R.carry (f:=AC.mapD (D.upd b ps')) (after w' hb) (zN R.size hb.size) (fun i q hi=> ?_) R.inj (fun _ _=>rfl) (fun q=>St.get_map) (fun id=>HL) (fun id cs _ q hq=>⟨hq,hsame q (R.names _ _ hq).2 (hnmb _ _ hq)⟩) (fun c v hu hr=> ?_)
 .obtain⟨h1,h2⟩:=R.names i q hi;exact⟨h1,zS h2 hb.size⟩
 .refine hr.shift (fun d u e hd=>hd.upd (hok c hu d e) hh hnw2) (fun _=>rfl) (fun id hf=> ?_) (fun id s es _ hf=> ?_) ⟨zE,zE,zE⟩
  .show A1 (M.rows.map _) id=Z
   rw[Uf (f:=zI (zI (D.upd b ps'))),show A1 M.rows id=Z from hf];rfl
  .refine⟨es.map (zI (D.upd b ps')),d0,?_,fun q cp hq ho=> ?_⟩
   .show A1 (M.rows.map _) id=_
    rw[Uf (f:=zI (zI (D.upd b ps'))),show A1 M.rows id=O (s,es) from hf];rfl
   .obtain⟨b1,b2,b3,C3,t3,b4,b5,b6⟩:=ho;exact⟨b1,by simpa using b2,b3,C3,t3,(hsame q (R.names _ _ hq).2 (hnmb _ _ hq)).trans b4,b5,b6.upd hh hnw2 (hrows id s es hf)⟩
end
end
section
def Im(w:World)(bs:J (I zC))(ms:zC->Prop):Base:=⟨w,Bg bs,fun b=>ms b/\b<w.heap.size,fun _ h=>h.2,fun _=>False,fun _ h=>h.elim⟩
def KD(ms:zC->Prop)(w:World):A6:=Al (fun b fr=>ms b/\fr=(0,0)) w
def FCm(P:Program)(f:FuncId)(x:D)(sz:zC)(es0 es1:J (J D))(r:D):Prop:=
 ∀(w:World) (v vx:Value) (o:I zC) (ms:zC->Prop),(∀b,o=O b->b<w.heap.size/\¬ms b)->(∀w2,BelowX w.heap.size (Im w [o] ms) w2->GoodW w2)->RCRel (KD ms w) w (.o sz es0) v o->Rep BP x vx->Calls P f #[v,vx] w fun e w'=>
  ∃v',e= .returned v'/\BelowX w.heap.size (Im w [o] ms) w'/\Rep BP r v'/\∀b,o=O b->∃cap,OwnB (KD ms w') w' b sz cap es1
def MA{o:I zC}{i b:zC}(h:Bg [o] i=O b):i=AG+1/\o=O b:=by
 obtain⟨j,h1,h2⟩:=HY h;cases j with
 | zero=>exact⟨h1,by simpa using h2⟩
 | succ j=>simp at h2
def npOf1_at{o:I zC}:Bg [o] (2*99999999999+1)=o:=by
 have:=MB (bs:= [o]) (j:=0) (o:=o) rfl;rwa [show AG+2*0+1=2*99999999999+1 by unfold AG; omega] at this
def MZ(w:World)(ms:zC->Prop):Ar:=⟨fun b fr=>(w.heap.size<=b\/(ms b/\b<w.heap.size))/\fr=(0,0),BP,BP,T⟩
def St.initM(x:D)(sz:zC)(es0:J (J D)):St:=⟨[(0,.v (.sc (.own 99999999999))),(1,.v (.sc (.dat x))),(77777,.ev .nw)],[],[(99999999999,sz,es0)]⟩
def xE{w:World}{o:I zC}{ms:zC->Prop}{x:D}{sz:zC}{es0:J (J D)}{v vx:Value}(nt:zC)(h2:2<=nt)(hnt:nt<=77777)(ho:∀b,o=O b->b<w.heap.size/\¬ms b)(hG:∀w2,BelowX w.heap.size (Im w [o] ms) w2->GoodW w2)
  (hr:RCRel (KD ms w) w (.o sz es0) v o) (hx:Rep BP x vx):Rel (MZ w ms) w.heap.size (Im w [o] ms) (Bg [o]) (St.initM x sz es0) (#[v,vx]++Array.replicate (nt - 2) undef) w:=by
 have hv:∀b C,KD ms w b C->A9 (MZ w ms) (Bg [o]) w b C:=fun b C ⟨c,t,fr,⟨h0,h1⟩,h3,h4⟩=>⟨fun i e=>(ho b (MA e).2).2 h0,c,t,fr,⟨.inr ⟨h0,DO h3⟩,h1⟩,h3,h4⟩
 refine⟨BelowX.start _ _ (fun _ h=>h.elim),yI _,⟨fun b hb=>⟨hb,zE⟩,fun _ _ h=>h.elim,fun _ _ h=>h.elim,fun _ _ h=>h.elim,fun _ b fr h=>h⟩,hG,fun i b hi=> ?_,fun i j b hi hj=> ?_,fun i hi=>rfl,fun k=> ?_,fun id cs hcs=>by cases hcs⟩
 .obtain⟨h1,h3⟩:=MA hi;exact⟨.inr (.inl ⟨i,a9,hi⟩),(ho b h3).1⟩
 .rw[(MA hi).1,(MA hj).1]
 .by_cases k0:k=0
  .subst k0;refine .v (.sc ?_);show CRel _ (.own 99999999999) _
   have e:(#[v,vx]++Array.replicate (nt - 2) undef).getD 0 undef=v:=by rw[Array.getD_eq_getD_getElem?,Array.getElem?_append_left d0]; rfl
   rw[e];have hfd:A1 (cx (MZ w ms) (Bg [o]) (St.initM x sz es0) w).rs 99999999999=O (sz,es0):=rfl;have hnd:(cx (MZ w ms) (Bg [o]) (St.initM x sz es0) w).nm (2*99999999999+1)=o:=npOf1_at;cases hr with
   | nil=>exact .ownNil hfd hnd
   | o own hl=>exact .own hfd hnd (Kq own hv) hl
  .by_cases k1:k=1
   .subst k1;refine .v (.sc (.dat ?_));have e:(#[v,vx]++Array.replicate (nt - 2) undef).getD 1 undef=vx:=by rw[Array.getD_eq_getD_getElem?,Array.getElem?_append_left d0]; rfl
    rw[e];exact hx.mono GE
   .by_cases k2:k=77777
    .subst k2;exact .ev (u:= .bool T) (.nw zE zE)
    .have:(St.initM x sz es0).get k= .undef:=by
      have e0:(0==k)=F:=by simpa using fun e=>k0 e.symm
      have e1:(1==k)=F:=by simpa using fun e=>k1 e.symm
      have e2:(77777==k)=F:=by simpa using fun e=>k2 e.symm
      simp[St.get,St.initM,A1,e0,e1,e2]
     rw[this];exact .undef
section
variable {P : Program}
def iM(hm:P.follows .mixedOrders=T){f:FuncId}{c:Xf}{ts:J RV}{nt sz:zC}{x r:D}{es0 es1:J (J D)}{p:zC × zC}(he:AF P f=O (c.strip,ts,nt))(h2:zX 2 nt=T)(hnt:zX nt 77777=T)(hrf:r.flat=T)
  (hsh:∀q∈es1,∀d∈q,Sh d) (htg:∀b,Ca b es1->Ca b es0) (h:B0 P c (CZ ts r [(sz,es1)] [p]) (St.initM x sz es0)):FCm P f x sz es0 es1 r:=by
 unfold AF at he
 split at he
 .rename_i fn hf
  split at he
  .rename_i C ts' hb hr
   simp only[zG] at he
   obtain⟨c',hc,e⟩:=he;cases e;intro w v vx o ms ho hG hrc hx;refine calls_of_wp hf hb ?_
   have htn:∀b,Ca b es0->ms b:=fun b ht=>by
    cases hrc with
    | nil=>obtain⟨q,hq,_⟩:=ht; cases hq
    | o own _=>
     obtain⟨C,c,t,fr,⟨k,_⟩,_⟩:=own.tg ht;exact k
   have h2':=zM h2;refine wp_mono (Iq (df:= []) hm c C _ (Bg [o]) (St.initM x sz es0) ⟨#[v,vx]++Array.replicate (fn.ntmps - 2) undef,[]⟩ w hc h (xE fn.ntmps h2' (zM hnt) ho hG hrc hx) d3 zE) fun e a w' hq=> ?_
   obtain⟨e',nm,M,he,hq,R,hnt,hdf⟩:=hq
   have key:OutVs M ts [.sc (.v r)]/\RowsOut M 0 [(sz,es1)] [p]->a.defers= []/\∃v,(results fn a.tmps).run P w'= .ok v w'/\∃v',Ending.returned v= .returned v'/\BelowX w.heap.size (Im w [o] ms) w'/\Rep BP r v'/\∀b,o=O b->∃cap,OwnB (KD ms w') w' b sz cap es1:=by
    rintro⟨ho1,hro⟩
    obtain⟨v,rb,hrun,hrel⟩:=dW R (fun _ _ h=>h) hr ho1;refine⟨hdf,v,hrun,v,zE,R.below,?_,fun b hob=> ?_⟩
    .cases hrel with
     | one hrel=>
      cases hrel with | sc hrel=>
      cases hrel with | v hrel=>exact hrel.flat hrf
     | many h=>simp at h
    .obtain⟨row,l,p',y,k1,k2,k3,k4⟩:=hro.there (j:=0) d0;simp only[List.getElem?_cons_zero,Option.some.injEq] at k1
     subst k1;rw[Nat.zero_add] at k3 k4
     have hv:=R.env l;rw[k2] at hv
     have hy:V1Rel (cx (MZ w ms) nm M w') y (a.tmps.getD l undef):=by cases hv with | v H=>exact H
     obtain⟨u,_,hcr⟩:=hy.cells.get k3
     have hpin:nm (2*99999999999+1)=O b:=by
      have:=R.pin (2*99999999999+1) (by unfold AG; omega);rw[this];exact npOf1_at.trans hob
     rcases hcr.inv_own k4 with ⟨_,k5,_⟩|⟨b',cap,k5,k6,_⟩
     .have k5':nm (2*99999999999+1)=Z:=k5;rw[hpin] at k5'; cases k5'
     .have k5':nm (2*99999999999+1)=O b':=k5;rw[hpin] at k5'
      cases k5';obtain⟨a1,a2,a3,C1,t1,a4,a5,a6⟩:=k6;exact⟨cap,a1,a2,a3,C1,t1,a4,a5,a6.sh hsh fun q D0 ht ⟨_,cc,tt,fr,⟨_,g2⟩,g3,g4⟩=>⟨cc,tt,fr,⟨htn q (htg q ht),g2⟩,g3,g4⟩⟩
   cases e' with
   | normal=>obtain rfl:e= .normal:=he; exact key hq
   | ret=>obtain rfl:e= .ret:=he; exact key hq
   | exit id=>exact hq.elim
   | pan d=>exact hq.elim
  .cases he
 .cases he
def iN(hm:P.follows .mixedOrders=T){f:FuncId}{c:Xf}{ts:J RV}{nt sz:zC}{x r:D}{es0 es1:J (J D)}{p:zC × zC}{M:St}(he:AF P f=O (c.strip,ts,nt))(h2:zX 2 nt=T)(hnt:zX nt 77777=T)(hrf:r.flat=T)
  (hsh:∀q∈es1,∀d∈q,Sh d) (htg:∀b,Ca b es1->Ca b es0) (hσ:St.initM x sz es0=M) (h:go P [.code c] (CZ ts r [(sz,es1)] [p]) .normal (O M)):FCm P f x sz es0 es1 r:=iM hm he h2 hnt hrf hsh htg (hσ▸Kb h)
end
def AC.apart(rs:Rows)(id:zC)(ms:zC->Prop):AC->Prop
 | .dat d=>Sh d/\∀b,Tg b d->¬ms b
 | .own k | .osub k _ _ | .pe k _ _=>k=id\/∀s es,A1 rs k=O (s,es)->(∀r∈es,∀d∈r,Sh d)/\∀b,Ca b es->¬ms b
 | .mix _=>False
 | _=>True
section
variable {P : Program} {A : Ar} {B : zC} {w0 : Base} {w : World} {nm : Ac} {M : St} {tmps : Array Value}
def FCm.callC{f:FuncId}{x r:D}{sz id:zC}{es0 es1:J (J D)}(H:FCm P f x sz es0 es1 r)(hl:es1.length=es0.length)(hf:A1 M.rows id=O (sz,es0))(hsh:∀r∈es0,∀d∈r,Sh d)(hx:x.flat=T)
  (hnew:∀{A:Ar} {B:zC} {w0:Base} {w:World} {nm:Ac} {tmps:Array Value},Rel A B w0 nm M tmps w->A.new=T) (hap:∀c,M.Uses c->c.apart M.rows id fun b=>Ca b es0) :
  CallC P f [.v (.sc (.own id)),.v (.sc (.dat x))] M {M with rows:=put M.rows id (sz,es1)} (.v (.sc (.dat r))):=by
 intro A B w0 w nm tmps vs R hvs;have hn:=hnew R
 obtain⟨v0,vx,rfl⟩:∃v0 vx,vs= [v0,vx]:=by
  have:=hvs.1
  match vs,this with
  | [a,b],_=>exact⟨a,b,rfl⟩
 have h0:=Qg (X:=cx A nm M w) (hvs.2 0 _ v0 rfl rfl).inv_sc hf;have hxv:=(hvs.2 1 _ vx rfl rfl).inv_sc.inv_dat;let ms:zC->Prop:=fun b=>Ca b es0
 have htv:∀b,ms b->∃C,A9 A nm w b C:=fun b hb=>by
  have h0':RCRel (A9 A nm w) w (.o sz es0) v0 (nm (2*id+1)):=h0;exact h0'.tg hb
 have hms:∀b,ms b->(∀i,nm i≠O b)/\(B<=b\/w0.M b)/\b<w.heap.size/\∀fr,A b fr->fr=(0,0):=fun b hb=>by
  obtain⟨C,g1,c,t,fr,g2,g3,_⟩:=htv b hb;exact⟨g1,(R.all.new hn b fr g2).1.elim .inl fun h=> .inr (.inr h),DO g3,fun fr h=>(R.all.new hn b fr h).2⟩
 have hmsA:∀b C,ms b->A9 A nm w b C->KD ms w b C:=fun b C hb ⟨_,c,t,fr,g2,g3,g4⟩=>⟨c,t,fr,⟨hb,(hms b hb).2.2.2 fr g2⟩,g3,g4⟩
 have hM:∀b,(Im w [nm (2*id+1)] ms).M b->B<=b\/w0.M b:=fun b hb=>by
  rcases hb with ⟨i,_,e⟩|⟨hb,_⟩
  .exact(R.names _ _ (MA e).2).1
  .exact(hms b hb).2.1
 have after:∀w2,BelowX w.heap.size (Im w [nm (2*id+1)] ms) w2->BelowX B w0 w2:=fun w2 h=>R.below.afterZ rfl h R.size R.there hM fun b hb=>hb.elim
 have hrc:RCRel (KD ms w) w (.o sz es0) v0 (nm (2*id+1)):=by
  have h0':RCRel (A9 A nm w) w (.o sz es0) v0 (nm (2*id+1)):=h0;revert h0'
  generalize nm (2*id+1)=o
  intro h0';cases h0' with
  | nil=>exact .nil
  | o own hl=>
   obtain⟨a1,a2,a3,C,t,a4,a5,a6⟩:=own;exact .o ⟨a1,a2,a3,C,t,a4,a5,a6.sh hsh fun b C ht hC=>hmsA b C ht hC⟩ hl
 refine(H w v0 vx (nm (2*id+1)) ms (fun b e=>⟨(R.names _ _ e).2,fun hb=>(hms b hb).1 _ e⟩) (fun w2 h=>R.good w2 (after w2 h)) hrc (hxv.flat hx)).mono fun e w' h=> ?_
 obtain⟨v,rfl,hb,hv,hrow⟩:=h;have hsame:∀b,b<w.heap.size->nm (2*id+1)≠O b->¬ms b->w'.heap[b]?=w.heap[b]?:=fun b hlt h1 h2=>hb.block b hlt (fun hm=>hm.elim (fun⟨i,_,e⟩=>h1 (MA e).2) fun h=>h2 h.1) fun h=>h.elim
 have hview:∀b C,¬ms b->A9 A nm w b C->A9 A nm w' b C:=fun b C hn ⟨g1,c,t,fr,g2,g3,g4⟩=>⟨g1,c,t,fr,g2,(hsame b (DO g3) (g1 _) hn).trans g3,g4⟩
 have hnb:∀i b,nm i=O b->¬ms b:=fun i b hi hb=>(hms b hb).1 i hi
 refine⟨v,nm,zE,?_,.v (.sc (.dat (hv.mono GE)))⟩;refine R.carry (f:=fun c=>c) (after w' hb) (zN R.size hb.size) (fun i b hi=> ?_) R.inj (fun _ _=>rfl) (fun k=>by rw[AV.mapId]; rfl) (fun k=>by simp) (fun k cs _ b hbn=>⟨hbn,hsame b (R.names _ _ hbn).2 (fun e=> ?_) (hnb _ _ hbn)⟩) (fun c v hu hr=> ?_)
 .obtain⟨h1,h2⟩:=R.names i b hi;exact⟨h1,zS h2 hb.size⟩
 .have:=R.inj _ _ _ hbn e; omega
 .have hac:=hap c hu;have hsh:=hr.shift (Y:=cx A nm {M with rows:=put M.rows id (sz,es1)} w') (g:=fun d=>d) (fun d u e hd=> ?_) (fun _=>rfl) (fun k hk=> ?_) (fun k s es hh hfk=> ?_) ⟨rfl,rfl,rfl⟩
  .have e:AC.mapD (fun d=>d) c=c:=by cases c<;>first | rfl | exact hac.elim
   rwa [e] at hsh
  .subst e;exact hd.sh hac.1 fun b C ht hC=>hview b C (hac.2 b ht) hC
  .have hk':A1 M.rows k=Z:=hk;show A1 (put M.rows id (sz,es1)) k=Z
   rw[Bn _ _ (fun e=>by subst e; rw[hk'] at hf; cases hf)];exact hk'
  .have hfk':A1 M.rows k=O (s,es):=hfk;by_cases hki:k=id
   .subst hki;rw[hf] at hfk'
    cases hfk';refine⟨es1,hl,Bm _ _ _,fun b cap hbn ho=> ?_⟩;obtain⟨cap',a1,a2,a3,C1,t1,a4,a5,a6⟩:=hrow b hbn;obtain⟨b1,b2,b3,C0,t0,b4,b5,b6⟩:=ho
    have hcap:cap'=cap:=by
     obtain⟨C',q1,q2⟩:=hb.room b (.inl ⟨AG+1,a9,by
      have:=MB (bs:= [nm (2*k+1)]) (j:=0) (o:=nm (2*k+1)) rfl;rw[show AG+2*0+1=AG+1 by omega] at this
      exact this.trans hbn⟩) C0 t0 _ b4
     rw[a4] at q1
     cases q1;exact yB b1 (a5.symm.trans (q2.trans b5))
    subst hcap
    exact⟨a1,a2,a3,C1,t1,a4,a5,a6.mono fun b C ⟨cc,tt,fr,⟨g1,g2⟩,g3,g4⟩=>by
     obtain⟨C9,h8,c9,t9,fr9,h9,_,_⟩:=htv b g1;subst g2;have e9:=(hms b g1).2.2.2 fr9 h9;subst e9;exact⟨h8,cc,tt,_,h9,g3,g4⟩⟩
   .refine⟨es,zE,?_,fun b cap hbn ho=> ?_⟩
    .show A1 (put M.rows id (sz,es1)) k=_
     rw[Bn _ _ hki];exact hfk'
    .have hak:(∀r∈es,∀d∈r,Sh d)/\∀b,Ca b es->¬ms b:=by
      cases c<;>first
       | (cases hh; done)
       | skip
      all_goals
       simp only[AC.has,beq_iff_eq] at hh
       subst hh;exact hac.elim (fun e=>absurd e hki) fun h=>h s es hfk'
     obtain⟨b1,b2,b3,C0,t0,b4,b5,b6⟩:=ho;have hne:nm (2*id+1)≠O b:=fun e=>by have:=R.inj _ _ _ hbn e; omega
     exact⟨b1,b2,b3,C0,t0,(hsame b (R.names _ _ hbn).2 hne (hnb _ _ hbn)).trans b4,b5,b6.sh hak.1 fun b C ht hC=>hview b C (hak.2 b ht) hC⟩
end
end
section
def Ic(k:I zC)(bs:J zC)(es:J (J D)):J (J D):=List.zipWith (fun b r=>r.map (D.tagW k b)) bs es
def KI(r:J D):Prop:=∃p es q,r=p++ .sl es::q/\(∀d∈p,d.flat=T)/\∀d∈q,d.flat=T
def A56{k:I zC}{b:zC}{d:D}(h:d.flat=T):D.tagW k b d=d:=by cases d<;>first | rfl | cases h
def Vj{k:I zC}{b:zC}:∀{ds:J D},(∀d∈ds,d.flat=T)->ds.map (D.tagW k b)=ds
 | [],_=>rfl
 | d::ds,h=>by rw[yS,A56 (h d zP),Vj fun d hd=>h d (zO _ hd)]
def Rep.stamp{h:A6}{es:J (J D)}{v:Value}(R:Rep h (.sl es) v):∃b,Rep h (D.tagW Z b (.sl es)) v:=by
 cases R with
 | nil=>exact⟨0,.nil⟩
 | @sl _ b C sz off cap len a z g c d e=>
  cases es with
  | nil=>simp at c; subst c; exact⟨0,.nil⟩
  | cons x es=>exact⟨b,.slb a z g c d e fun s hs=>by cases hs⟩
def Reps.stamp0{h:A6}:∀{p:J D} {es:J (J D)} {q:J D} {vs:J Value},Reps h (p++ .sl es::q) vs->∃b,Reps h (p++D.tagW Z b (.sl es)::q) vs
 | [],_,_,_,.cons a r=>by obtain⟨b,hb⟩:=a.stamp; exact⟨b,.cons hb r⟩
 | _::_,_,_,_,.cons a r=>by obtain⟨b,hb⟩:=Reps.stamp0 r; exact⟨b,.cons a hb⟩
def Reps.stamp{h:A6}{r:J D}{vs:J Value}(H:Reps h r vs)(ho:KI r):∃b,Reps h (r.map (D.tagW Z b)) vs:=by
 obtain⟨p,es,q,rfl,hp,hq⟩:=ho;obtain⟨b,hb⟩:=H.stamp0;refine⟨b,?_⟩;rw[yM,yS,Vj hp,Vj hq];exact hb
def RepRows.stamp{h:A6}{sz:zC}:∀{es:J (J D)} {vs:J Value},RepRows h sz es vs->(∀r∈es,KI r)->∃bs:J zC,bs.length=es.length/\RepRows h sz (Ic Z bs es) vs
 | _,_,.nil,_=>⟨[],rfl,.nil⟩
 | _,_,.cons a b c,H=>by
  obtain⟨x,hx⟩:=b.stamp (H _ zP);obtain⟨bs,h1,h2⟩:=c.stamp fun r hr=>H r (zO _ hr)
  exact⟨x::bs,by simp[h1],.cons (by simpa using a) hx h2⟩
def eh{k:I zC}{bs:J zC}{es:J (J D)}(h:bs.length=es.length):(Ic k bs es).length=es.length:=by simp[Ic,h]
def RCRel.stamp{h:A6}{w:World}{sz:zC}{es:J (J D)}{v:Value}{o:I zC}(H:RCRel h w (.o sz es) v o)(ho:∀r∈es,KI r):∃bs:J zC,bs.length=es.length/\RCRel h w (.o sz (Ic Z bs es)) v o:=by
 cases H with
 | nil=>exact⟨[],rfl,.nil⟩
 | o a hl=>
  obtain⟨a1,a2,a3,C,t,a4,a5,a6⟩:=a;obtain⟨bs,h1,h2⟩:=a6.stamp ho;exact⟨bs,h1,.o ⟨a1,by rw[eh h1]; exact a2,a3,C,t,a4,a5,h2⟩ (by rw[eh h1]; exact hl)⟩
def RRel.stamp{h:A6}{w:World}{sz:zC}{es:J (J D)}{rs:J R1}{v:Value}{bs:J (I zC)}(H:RRel h w (.sc (.o sz es)::rs) v bs)(ho:∀r∈es,KI r):∃ts:J zC,ts.length=es.length/\RRel h w (.sc (.o sz (Ic Z ts es))::rs) v bs:=by
 cases H with
 | one a=>
  cases a with | sc a=>
  obtain⟨ts,h1,h2⟩:=a.stamp ho;exact⟨ts,h1,.one (.sc h2)⟩
 | many hl a=>
  cases a with | cons a b=>
  cases a with | sc a=>
  obtain⟨ts,h1,h2⟩:=a.stamp ho;exact⟨ts,h1,.many (by simpa using hl) (.cons (.sc h2) b)⟩
def FCi(P:Program)(f:FuncId)(ds:J DV)(RS:J R1->Prop):Prop:=
 ∀(w:World) (A:B9) (vs:J Value),GoodW w->DVRels (Al A w) ds vs->Calls P f vs.toArray w fun e w'=>
  ∃(rs:J R1) (v:Value) (bs:J (I zC)),RS rs/\e= .returned v/\RowKit.Below w.heap.size w w'/\RRel (Al (fun b fr=>O b∉bs/\((w.heap.size<=b/\fr=(0,0))\/A b fr)) w') w' rs v bs/\
   (∀b,O b∈bs->w.heap.size<=b/\b<w'.heap.size)/\(∀(i j b:zC),bs[i]?=O (O b)->bs[j]?=O (O b)->i=j)
def FC.stamp{P:Program}{f:FuncId}{ds:J DV}{sz:zC}{es:J (J D)}{rs:J R1}(H:FC P f ds (.sc (.o sz es)::rs))(ho:∀r∈es,KI r):FCi P f ds fun rs'=>∃ts:J zC,ts.length=es.length/\rs'= .sc (.o sz (Ic Z ts es))::rs:=fun w A vs hG hvs=>
 (H w A vs hG hvs).mono fun e w' ⟨v,bs,h1,h2,h3,h4⟩=>by
  obtain⟨ts,k1,k2⟩:=h3.stamp ho;exact⟨_,v,bs,⟨ts,k1,zE⟩,h1,h2,k2,h4⟩
def MJ:J AV->I (J DV)
 | []=>O []
 | x::xs=>match KA x,MJ xs with
  | some d,O ds=>O (d::ds)
  | _,_=>Z
section
variable {P : Program} {A : Ar} {B : zC} {w0 : Base} {w : World} {nm : Ac} {M : St} {tmps : Array Value}
def fB:∀{avs:J AV} {vs:J Value} {ds:J DV},VsRel (cx A nm M w) avs vs->MJ avs=O ds->DVRels (A9 A nm w) ds vs
 | [],vs,ds,H,h=>by
  obtain rfl:vs= []:=zL.1 H.1.symm;simp[MJ] at h;subst h;exact .nil
 | x::avs,vs,ds,H,h=>by
  unfold MJ at h;split at h
  .rename_i d ds' h1 h2
   cases h;cases vs with
   | nil=>have:=H.1; simp at this
   | cons v vs=>exact .cons (MK (X:=cx A nm M w) (H.2 0 x v rfl rfl) h1) (fB ⟨by have:=H.1; simpa using this,fun i u v hu hv=>H.2 (i+1) u v (by simpa using hu) (by simpa using hv)⟩ h2)
  .cases h
def FCi.callS{f:FuncId}{ds:J DV}{RS:J R1->Prop}(H:FCi P f ds RS){d:zC}{avs:J AV}(hx:MJ avs=O ds)(hfr:M.fresh d=T)(h64:∀rs,RS rs->(rs.flatMap R1.cells).length<=64) :
  QL P f avs M fun M' r=>∃rs,RS rs/\M'={M with rows:=Bj M.rows (BI d rs)}/\r=BN d rs:=by
 intro A B w0 w nm tmps vs R hvs;refine(H w (fun b fr=>(∀i,nm i≠O b)/\A b fr) vs (R.good w R.below) (by rw[E7]; exact fB hvs hx)).mono fun e w' h=> ?_
 obtain⟨rs,v,bs,hrs,rfl,h2,h3,h4,h5⟩:=h;obtain⟨nm',R',hv⟩:=R.behind0 hfr (h64 _ hrs) (.inl fun b fr h=>h) h2 h3 h4 h5;exact⟨v,nm',_,_,zE,⟨rs,hrs,zE,zE⟩,R',hv⟩
def uZ{k:J Fr}{Q:Xl->St->Prop}{its:J AItem}{d f:zC}{args:J Opd}{ds:J DV}{RS:J R1->Prop}(H:FCi P f ds RS)(hx:MJ (args.map M.val)=O ds)(hfr:M.fresh d=T)(h64:∀rs,RS rs->(rs.flatMap R1.cells).length<=64)
  (h:∀rs,RS rs->go P (.ops its::k) Q .normal (O (M.inst d rs))):go P (.ops ((Z,.call d f args)::its)::k) Q .normal (O M):=
 .inr (.inr ⟨_,H.callS hx hfr h64,fun _ _ ⟨rs,h1,e1,e2⟩=>by subst e1 e2; exact h rs h1⟩)
end
end
section
def T6:AC->I D
 | .dat d | .old d | .mix d=>O d
 | .nil=>O (.sl [])
 | _=>Z
def MN:J AC->I (J D)
 | []=>O []
 | c::cs=>match T6 c,MN cs with
  | some d,O ds=>O (d::ds)
  | _,_=>Z
def T7:AV->I DV
 | .v (.sc c)=>(T6 c).map .sc
 | .v (.ag cs)=>(MN cs).map .ag
 | _=>Z
def MM:J AV->I (J DV)
 | []=>O []
 | x::xs=>match T7 x,MM xs with
  | some d,O ds=>O (d::ds)
  | _,_=>Z
def SR(d:D):AC:=bif d.fl then .dat d else .mix d
def RC.mx:RC->I AC
 | .v d=>O (SR d)
 | _=>Z
def Qa:J RC->I (J AC)
 | []=>O []
 | c::cs=>match c.mx,Qa cs with
  | some x,O xs=>O (x::xs)
  | _,_=>Z
def R1.mx:R1->I V1
 | .sc c=>c.mx.map .sc
 | .ag cs=>(Qa cs).map .ag
def My:J R1->I (J V1)
 | []=>O []
 | r::rs=>match r.mx,My rs with
  | some x,O xs=>O (x::xs)
  | _,_=>Z
def Mx:J R1->I AV
 | [r]=>r.mx.map .v
 | rs=>(My rs).map .tup
section
variable {P : Program} {A : Ar} {B : zC} {w0 : Base} {w : World} {nm : Ac} {M : St} {tmps : Array Value}
def Df(A:Ar)(nm:Ac)(w:World):A6:=fun b C=>A.o b C\/A9 A nm w b C
def fF{c:AC}{v:Value}{d:D}(H:CRel (cx A nm M w) c v)(hd:T6 c=O d):Rep (Df A nm w) d v:=by
 cases c<;>simp only[T6,Option.some.injEq,reduceCtorEq] at hd<;>subst hd
 case dat=>exact H.inv_dat.mono fun b C h=> .inr h
 case nil=>cases H; exact .nil
 case old=>cases H with | old _ H=>exact H.mono fun b C h=> .inl h
 case mix=>cases H with | mix H=>exact H
def W0:∀{cs:J AC} {vs:J Value} {ds:J D},CRels (cx A nm M w) cs vs->MN cs=O ds->Reps (Df A nm w) ds vs/\ds.length=vs.length
 | [],_,ds,.nil,h=>by simp[MN] at h; subst h; exact⟨.nil,rfl⟩
 | c::cs,_,ds,.cons a b,h=>by
  unfold MN at h;split at h
  .rename_i d ds' h1 h2
   cases h;obtain⟨k1,k2⟩:=W0 b h2;exact⟨.cons (fF a h1) k1,by simp[k2]⟩
  .cases h
def fE{av:AV}{v:Value}{d:DV}(H:VRel (cx A nm M w) av v)(hd:T7 av=O d):DVRel (Df A nm w) d v:=by
 unfold T7 at hd
 split at hd
 .simp only[zG] at hd
  obtain⟨d',h1,rfl⟩:=hd;exact .sc (fF H.inv_sc h1)
 .simp only[zG] at hd
  obtain⟨ds,h1,rfl⟩:=hd;obtain⟨vs,rfl,hcs⟩:=H.inv_ag;obtain⟨h2,h3⟩:=W0 hcs h1;exact .ag h2 h3
 .cases hd
def fD:∀{avs:J AV} {vs:J Value} {ds:J DV},VsRel (cx A nm M w) avs vs->MM avs=O ds->DVRels (Df A nm w) ds vs
 | [],vs,ds,H,h=>by
  obtain rfl:vs= []:=zL.1 H.1.symm;simp[MM] at h;subst h;exact .nil
 | x::avs,vs,ds,H,h=>by
  unfold MM at h;split at h
  .rename_i d ds' h1 h2
   cases h;cases vs with
   | nil=>have:=H.1; simp at this
   | cons v vs=>exact .cons (fE (H.2 0 x v rfl rfl) h1) (fD ⟨by have:=H.1; simpa using this,fun i u v hu hv=>H.2 (i+1) u v (by simpa using hu) (by simpa using hv)⟩ h2)
  .cases h
def D.fl_flat{d:D}(h:d.fl=T):d.flat=T:=by cases d<;>first | rfl | cases h
def A01{d:D}{v:Value}(H:Rep (Df A nm w) d v):CRel (cx A nm M w) (SR d) v:=by
 unfold SR;cases hf:d.fl with
 | true=>exact .dat (H.flat (D.fl_flat hf))
 | false=>exact .mix H
def cb{h:A6}(hh:∀b C,h b C->Df A nm w b C){c:RC}{v:Value}{o:I zC}{x:AC}{W:World}(H:RCRel h W c v o)(hc:c.mx=O x):CRel (cx A nm M w) x v:=by
 cases H with
 | v a=>cases hc; exact A01 (a.mono hh)
 | nil=>cases hc
 | o=>cases hc
def cY{h:A6}(hh:∀b C,h b C->Df A nm w b C){W:World}:∀{cs:J RC} {vs:J Value} {bs:J (I zC)} {xs:J AC},RCRels h W cs vs bs->Qa cs=O xs->CRels (cx A nm M w) xs vs
 | _,_,_,xs,.nil,e=>by simp[Qa] at e; subst e; exact .nil
 | _,_,_,xs,.cons a b,e=>by
  unfold Qa at e
  split at e
  .rename_i x xs' h1 h2
   cases e;exact .cons (cb hh a h1) (cY hh b h2)
  .cases e
def cX{h:A6}(hh:∀b C,h b C->Df A nm w b C){W:World}{r:R1}{v:Value}{bs:J (I zC)}{x:V1}(H:R1Rel h W r v bs)(e:r.mx=O x):V1Rel (cx A nm M w) x v:=by
 cases H with
 | sc a=>
  simp only[R1.mx,zG] at e
  obtain⟨y,h1,rfl⟩:=e;exact .sc (cb hh a h1)
 | ag a=>
  simp only[R1.mx,zG] at e
  obtain⟨y,h1,rfl⟩:=e;exact .ag (cY hh a h1)
def cZ{h:A6}(hh:∀b C,h b C->Df A nm w b C){W:World}:∀{rs:J R1} {vs:J Value} {bs:J (I zC)} {xs:J V1},R1Rels h W rs vs bs->My rs=O xs->V1Rels (cx A nm M w) xs vs
 | _,_,_,xs,.nil,e=>by simp[My] at e; subst e; exact .nil
 | _,_,_,xs,.cons a b,e=>by
  unfold My at e
  split at e
  .rename_i x xs' h1 h2
   cases e;exact .cons (cX hh a h1) (cZ hh b h2)
  .cases e
def A1f{h:A6}(hh:∀b C,h b C->Df A nm w b C){W:World}{rs:J R1}{v:Value}{bs:J (I zC)}{x:AV}(H:RRel h W rs v bs)(e:Mx rs=O x):VRel (cx A nm M w) x v:=by
 cases H with
 | one a=>
  simp only[Mx,zG] at e
  obtain⟨y,h1,rfl⟩:=e;exact .v (cX hh a h1)
 | many hl a=>
  have e2:Mx rs=(My rs).map .tup:=by
   unfold Mx;split
   .simp at hl
   .rfl
  rw[e2] at e
  simp only[zG] at e
  obtain⟨y,h1,rfl⟩:=e;exact .tup (cZ hh a h1)
def FC.callM{f:FuncId}{ds:J DV}{rs:J R1}{x:AV}(H:FC P f ds rs){avs:J AV}(hx:MM avs=O ds)(hr:Mx rs=O x):CallC P f avs M M x:=by
 intro A B w0 w nm tmps vs R hvs
 have hin:∀b C,Df A nm w b C->Al (fun b fr=>(∃C,A.o b C)\/((∀i,nm i≠O b)/\A b fr)) w b C:=fun b C h=>by
  rcases h with h|⟨g1,c,t,fr,g2,g3,g4⟩
  .obtain⟨c,t,fr,k1,k2⟩:=R.oldAt h;exact⟨c,t,fr,.inl ⟨C,h⟩,k1,k2⟩
  .exact⟨c,t,fr,.inr ⟨g1,g2⟩,g3,g4⟩
 refine(H w _ vs (R.good w R.below) ((fD hvs hx).mono hin)).mono fun e w' h=> ?_
 obtain⟨v,bs,rfl,hb,hres,hn,_⟩:=h;have hsame:∀b,b<w.heap.size->w'.heap[b]?=w.heap[b]?:=fun b h=>hb.block b h
 have hview:∀b C,A9 A nm w b C->A9 A nm w' b C:=fun b C ⟨g1,c,t,fr,g2,g3,g4⟩=>⟨g1,c,t,fr,g2,(hsame b (DO g3)).trans g3,g4⟩
 have hout:∀b C,Al (fun b fr=>O b∉bs/\((w.heap.size<=b/\fr=(0,0))\/((∃C,A.o b C)\/((∀i,nm i≠O b)/\A b fr)))) w' b C->Df A nm w' b C:=by
  rintro b C ⟨c,t,fr,⟨_,k⟩,k2,k3⟩
  rcases k with ⟨k,rfl⟩|⟨C0,k⟩|⟨k,k'⟩
  .refine .inr ⟨fun i e=> ?_,c,t,_,R.all.all b (.inl (zN R.size k)),k2,k3⟩;have:=(R.names i b e).2;omega
  .obtain⟨c1,t1,CC,q1,q2⟩:=R.oldAt k;rw[hsame b (DO q1),q1] at k2
   cases k2;exact .inl ((q2.symm.trans k3)▸k)
  .exact .inr ⟨k,c,t,fr,k',k2,k3⟩
 refine⟨v,nm,zE,?_,A1f (M:=M) hout hres hr⟩;refine R.carry (f:=fun c=>c) (R.below.trans R.there hb R.size) (zN R.size hb.size) (fun i b hi=> ?_) R.inj (fun _ _=>rfl) (fun k=>by rw[AV.mapId]) (fun id=>by simp) (fun id cs _ b hbn=>⟨hbn,hsame b (R.names _ _ hbn).2⟩) (fun c v _ hr=> ?_)
 .obtain⟨h1,h2⟩:=R.names i b hi;exact⟨h1,zS h2 hb.size⟩
 .exact hr.move hview (fun id _=> .inr ⟨zE,zE,fun b hbn=>hsame b (R.names _ _ hbn).2⟩) (fun id _ b hbn=>hbn)
def Zh{k:J Fr}{Q:Xl->St->Prop}{its:J AItem}{d f:zC}{args:J Opd}{ds:J DV}{rs:J R1}{x:AV}(hf:FC P f ds rs)(hx:MM (args.map M.val)=O ds)(hr:Mx rs=O x)
  (h:go P (.ops its::k) Q .normal (O (M.set d x))):go P (.ops ((Z,.call d f args)::its)::k) Q .normal (O M):=Pv (hf.callM hx hr) h
def FCf.asV{P:Program}{f:FuncId}{ds:J DV}{rs rs':J R1}(H:FCf P f ds rs)(e:rs.map R1.asV=rs'):FCf P f ds rs':=by
 subst e;intro w A vs hG hvs;refine(H w A vs hG hvs).mono fun e w' h=> ?_
 obtain⟨v,bs,rfl,h2,h3,h4,_⟩:=h;refine⟨v,bs.map fun _=>Z,zE,h2,h3.asV (fun b C ⟨c,t,fr,⟨_,k2⟩,k3⟩=>⟨c,t,fr,⟨DU,k2⟩,k3⟩) (fun k hk C t hC=>⟨C,t,_,⟨DU,.inl ⟨(h4 k hk).1,zE⟩⟩,hC,zE⟩),fun b hb=>absurd hb DU,fun i j b hi _=> ?_⟩;exact absurd (zK hi) DU
def N2(M:St):J zC->I (J D)
 | []=>O []
 | i::is=>match (A1 M.bx i).bind MN,N2 M is with
  | some ds,O r=>O (.pd ds::r)
  | _,_=>Z
def W2(M:St)(id:zC):AV->I TV
 | .v (.sc (.own k))=>bif k==id then O .r else Z
 | .v (.sc (.clo f ids))=>(N2 M ids).map fun ds=> .d (.sc (.clo f ds))
 | x=>(T7 x).map .d
def Qz(M:St)(id:zC):J AV->I (J TV)
 | []=>O []
 | x::xs=>match W2 M id x,Qz M id xs with
  | some y,O ys=>O (y::ys)
  | _,_=>Z
def Rel.notOwn(R:Rel A B w0 nm M tmps w){b:zC}{C:J Value}{i:zC}(h:Df A nm w b C):nm i≠O b:=fun e=>by
 rcases h with h|h
 .obtain⟨h1,h2,_⟩:=R.all.old b C h;rcases(R.names i b e).1 with h|h
  .omega
  .exact h2 h
 .exact h.1 i e
def Wq(R:Rel A B w0 nm M tmps w){i:zC}:∀b C,Df A nm w b C->Al (fun b _=>nm i≠O b) w b C:=fun b C h=>by
 have hn:=R.notOwn (i:=i) h;rcases h with h|⟨g1,c,t,fr,g2,g3,g4⟩
 .obtain⟨c,t,fr,k1,k2⟩:=R.oldAt h;exact⟨c,t,fr,hn,k1,k2⟩
 .exact⟨c,t,fr,hn,g3,g4⟩
def TP(R:Rel A B w0 nm M tmps w){id:zC}:∀{ids bs:J zC} {ds:J D},ids.mapM (fun i=>nm (2*i))=O bs->N2 M ids=O ds->Reps (Al (fun b _=>nm (2*id+1)≠O b) w) ds (bs.map fun b=>Value.pointer (O ⟨b,0,Z⟩))/\ds.length=bs.length
 | [],bs,ds,hb,hd=>by
  simp at hb
  subst hb;simp[N2] at hd
  subst hd;exact⟨.nil,zE⟩
 | i::ids,bs,ds,hb,hd=>by
  simp only[yF,yO,yW] at hb
  cases hn:nm (2*i) with
  | none=>simp[hn] at hb
  | some b=>
   cases hr:ids.mapM (fun i=>nm (2*i)) with
   | none=>simp[hn,hr] at hb
   | some bs'=>
    simp[hn,hr] at hb
    subst hb;simp only[N2] at hd
    split at hd
    .rename_i d ds' h1 h2
     cases hd;obtain⟨h3,h4⟩:=TP R hr h2;simp only[zU] at h1
     obtain⟨cs,hcs,h1⟩:=h1;obtain⟨b',C,t,k1,k2,k3⟩:=R.bxs i cs hcs;have e:b'=b:=zW (k1.symm.trans hn);subst e;refine⟨.cons (.pd (C:=C.toList) ⟨C,t,_,fun e=> ?_,k2,zE⟩ ?_) h3,by simp[h4]⟩
     .have:=R.inj _ _ _ hn e;omega
     .simpa using(W0 k3 h1).1.mono (Wq R)
    .cases hd
def A6s(R:Rel A B w0 nm M tmps w){id sz:zC}{es:J (J D)}(hf:A1 M.rows id=O (sz,es)){av:AV}{v:Value}{x:TV}(H:VRel (cx A nm M w) av v)(h:W2 M id av=O x):TVRel (Al (fun b _=>nm (2*id+1)≠O b) w) w (nm (2*id+1)) sz es x v:=by
 unfold W2 at h;split at h
 .rename_i k
  by_cases hk:k=id
  .subst hk;simp at h;subst h;exact .r (RCRel.conv (Qg (X:=cx A nm M w) H.inv_sc hf) (.inl fun b C h=>Wq R b C (.inr h)))
  .have:(k==id)=F:=by simpa using hk
   simp[this] at h
 .simp only[zG] at h;obtain⟨ds,h1,rfl⟩:=h;have hc:=H.inv_sc;cases hc with | clo hb=>
  exact .d (.sc (.clo (TP R hb h1).1 (by simpa using(TP (id:=id) R hb h1).2)))
 .simp only[zG] at h;obtain⟨d,h1,rfl⟩:=h;exact .d ((fE H h1).mono (Wq R))
def fI(R:Rel A B w0 nm M tmps w){id sz:zC}{es:J (J D)}(hf:A1 M.rows id=O (sz,es))(hid:id<99999999999):∀{avs:J AV} {vs:J Value} {xs:J TV},VsRel (cx A nm M w) avs vs->Qz M id avs=O xs->TVRels (Al (fun b _=>nm (2*id+1)≠O b) w) w (nm (2*id+1)) sz es xs vs
 | [],vs,xs,H,h=>by
  simp[Qz] at h;subst h;obtain rfl:vs= []:=zL.1 H.1.symm;exact .nil
 | a::avs,vs,xs,H,h=>by
  unfold Qz at h;split at h
  .rename_i x xs' h1 h2
   cases h;cases vs with
   | nil=>have:=H.1; simp at this
   | cons v vs=>
    exact .cons (A6s R hf (H.2 0 a v zE zE) h1) (fI R hf hid ⟨by have:=H.1; simpa using this,fun i u v hu hv=>H.2 (i+1) u v (by simpa using hu) (by simpa using hv)⟩ h2)
  .cases h
def FCt.callT{f:FuncId}{xs:J TV}{sz:zC}{es0 es1:J (J D)}(H:FCt P f xs sz es0 es1){id d:zC}{avs:J AV}(hx:Qz M id avs=O xs)(hsh:∀r∈es1,∀d∈r,Sh d)(htg:∀b,Ca b es1->Ca b es0)(hf:A1 M.rows id=O (sz,es0))(ho:∃k:zC,avs[k]?=O (AV.v (.sc (.own id))))(hfr:M.fresh d=T)(hid:id<99999999999)(hne:id≠d*64) :
  CallC P f avs M (M.behindT id d sz es1) (.v (.sc (.own (d*64)))):=by
 intro A B w0 w nm tmps vs R hvs;have hM:∀b,(GV w (nm (2*id+1))).M b->nm (2*id+1)=O b:=fun b h=>TJ h
 refine(H w (fun b _=>nm (2*id+1)≠O b) vs (nm (2*id+1)) (fun b e=>⟨(R.names _ _ e).2,fun _ h=>h e⟩) (fun w2 hb2=>R.good w2 (R.below.afterZ zE hb2 R.size R.there (fun b hm=>(R.names _ _ (hM b hm)).1) fun b hv=>hv.elim)) (fI R hf hid hvs hx)).mono fun e w' h=> ?_
 obtain⟨v,o',rfl,hn,hb,hr⟩:=h;have hfew:=St.fresh_few hfr;have hsame:∀b,b<w.heap.size->nm (2*id+1)≠O b->w'.heap[b]?=w.heap[b]?:=fun b hlt h=>hb.block b hlt (fun hm=>h (hM b hm)) fun hv=>hv.elim
 let nm':Ac:=fun n=>if n=2*id+1 then Z else if n=2*(d*64)+1 then o' else nm n
 have hcas:∀n b,nm' n=O b->(n=2*(d*64)+1/\o'=O b)\/(n≠2*id+1/\n≠2*(d*64)+1/\nm n=O b):=fun n b h=>by
  simp only[nm'] at h;split at h
  .cases h
  .rename_i h1
   split at h
   .rename_i h2; exact .inl ⟨h2,h⟩
   .rename_i h2; exact .inr ⟨h1,h2,h⟩
 have hbel:BelowX B w0 w':=R.below.afterZ rfl hb R.size R.there (fun b hm=>(R.names _ _ (hM b hm)).1) fun b hv=>hv.elim
 have hview:∀b C,A9 A nm w b C->A9 A nm' w' b C:=CW fun b hlt hnb=>⟨fun i e=>by
  rcases hcas i b e with ⟨_,e2⟩|⟨_,_,e2⟩
  .rcases(hn b e2).1 with h|h
   .omega
   .exact hnb _ h
  .exact hnb i e2,hsame b hlt (hnb _)⟩
 have RK:=R.killed id
 have hrow:∀k,k≠id->k / 64≠d->A1 (M.behindT id d sz es1).rows k=A1 M.rows k:=fun k h1 h2=>by
  show A1 (put (erase M.rows [id]) (d*64) (sz,es1)) k=_
  rw[Bn _ _ a9,HK];have: [id].contains k=F:=by simpa using h1
  rw[this];rfl
 have hcell:∀c v,(M.map (AC.kill id)).Uses c->CRel (cx A nm (M.map (AC.kill id)) w) c v->CRel (cx A nm' (M.behindT id d sz es1) w') c v:=fun c v hu H=>by
  obtain⟨c0,hu0,rfl⟩:=Wn hu
  have hfd:∀k,(AC.kill id c0).has k=T->k≠id/\k / 64≠d:=fun k hk=>by
   obtain⟨q1,q2⟩:=Uo hk;refine⟨q2,fun e=> ?_⟩;have:=Wo q1;rw[e,St.fresh_uses hfr hu0] at this
   cases this
  refine H.move hview (fun k hk=> .inr ?_) (fun k hk b hb2=> ?_)
  .obtain⟨q1,q2⟩:=hfd k hk;refine⟨hrow k q1 q2,?_,fun b hbn=>hsame b (R.names _ b hbn).2 fun e=> ?_⟩
   .show nm' (2*k+1)=nm (2*k+1)
    simp only[nm'];rw[if_neg a9,if_neg a9]
   .have:=R.inj _ _ _ hbn e;omega
  .show nm' (2*k)=O b
   simp only[nm'];rw[if_neg a9,if_neg a9];exact hb2
 have hold:∀b,Ca b es1->∀C,B7 w' b C->A9 A nm' w' b C:=fun b ht C hC=>by
  obtain⟨C0,h0⟩:∃C0,A9 A nm w b C0:=by
   obtain⟨k,hk⟩:=ho
   obtain⟨v9,hv9⟩:∃v9,vs[k]?=O v9:=by
    have:=(zJ.1 hk).1;rw[hvs.1] at this
    exact⟨_,zH this⟩
   have:=Qg (X:=cx A nm M w) (hvs.2 k _ _ hk hv9).inv_sc hf;exact RCRel.tg (c:= .o sz es0) this (htg b ht)
  obtain⟨g1,c,t,fr,g2,g3,g4⟩:=hview b C0 h0;obtain⟨c',t',fr',k1,rfl⟩:=hC;rw[g3] at k1
  cases k1;exact⟨g1,c,t,fr,g2,g3,zE⟩
 refine⟨v,nm',zE,⟨hbel,zN R.size hb.size,R.all,R.good,fun i b hi=> ?_,fun i j b hi hj=> ?_,fun i hi=> ?_,fun k=> ?_,fun k cs hcs=> ?_⟩,?_⟩
 .rcases hcas i b hi with ⟨_,e2⟩|⟨_,_,e2⟩
  .obtain⟨g1,g2⟩:=hn b e2;exact⟨g1.elim (fun h=> .inl (zN R.size h)) fun h=>(R.names _ _ h).1,g2⟩
  .obtain⟨h1,h2⟩:=R.names i b e2;exact⟨h1,zS h2 hb.size⟩
 .have old:∀k,k≠2*id+1->nm k=O b->o'=O b->False:=fun k hk e e2=>by
   rcases(hn b e2).1 with h|h
   .have:=(R.names k b e).2; omega
   .exact hk (R.inj _ _ _ e h)
  rcases hcas i b hi with ⟨i1,i2⟩|⟨i1,i3,i2⟩
  .rcases hcas j b hj with ⟨j1,j2⟩|⟨j1,_,j2⟩
   .omega
   .exact(old j j1 j2 i2).elim
  .rcases hcas j b hj with ⟨j1,j2⟩|⟨j1,_,j2⟩
   .exact(old i i1 i2 j2).elim
   .exact R.inj i j b i2 j2
 .have:nm' i=nm i:=by
   simp only[nm'];unfold AG at hi
   rw[if_neg a9,if_neg a9]
  exact this.trans (R.pin i hi)
 .exact(RK.env k).to fun c v hc H=>hcell c v (.inl ⟨k,hc⟩) H
 .obtain⟨b,C,t,h1,h2,h3⟩:=RK.bxs k cs hcs;have h1':nm (2*k)=O b:=h1;refine⟨b,C,t,?_,(hsame b (R.names _ _ h1').2 fun e=> ?_).trans h2,h3.to fun c v hc H=>hcell c v (.inr ⟨k,cs,hcs,hc⟩) H⟩
  .show nm' (2*k)=O b
   simp only[nm'];rw[if_neg a9,if_neg a9];exact h1'
  .have:=R.inj _ _ _ h1' e;omega
 .have hfd:A1 (cx A nm' (M.behindT id d sz es1) w').rs (d*64)=O (sz,es1):=Bm _ _ _
  have hnd:(cx A nm' (M.behindT id d sz es1) w').nm (2*(d*64)+1)=o':=by
   show nm' (2*(d*64)+1)=o'
   simp only[nm'];rw[if_neg a9];simp
  cases hr with
  | nil=>exact .v (.sc (.ownNil hfd hnd))
  | o own hl=>
   obtain⟨a1,a2,a3,C1,t1,a4,a5,a6⟩:=own;exact .v (.sc (.own hfd hnd ⟨a1,a2,a3,C1,t1,a4,a5,a6.sh hsh fun b C ht ⟨c,t,fr,_,h1,h2⟩=>hold b ht C ⟨c,t,fr,h1,h2⟩⟩ hl))
end
def yj{id:zC}{d:D}:AC.kill id (.mix d)= .mix d:=rfl
def tk{id:zC}{es:J (J D)}{d:D}:AC.frz id es (.mix d)= .mix d:=rfl
def A9t{d:D}:AC.wipe (.mix d)= .undef:=rfl
def yo{id b:zC}{k:I zC}{d:D}:AC.kill id (.dat (D.tagW k b d))= .dat (D.tagW k b d):=rfl
def B5:=zF @yj (zF @tk (zF @A9t @yo))
def Pz{P:Program}{k:J Fr}{Q:Xl->St->Prop}{M:St}{o:AOp}{t:zC}{b:zB}{its:J AY}(hb:M.get t= .v (.sc (.dat (.bool b))))(h:go P (.ops [(Z,o)]:: .frs its::k) Q .normal (O M)):go P (.dops ((Z,O (t,b),o)::its)::k) Q .normal (O M):=by
 show AK (O (t,b)) M _ _
 unfold AK;simp only[hb,if_true,beq_self_eq_true];exact h
def Py{P:Program}{k:J Fr}{Q:Xl->St->Prop}{M:St}{o:AOp}{t d:zC}{b:zB}{its:J AY}(hb:M.get t= .v (.sc (.dat (.bool !b))))(hd:o.dst=O d)(h:go P (.fr (D3 its (M.set d .no)):: .dops its::k) Q .normal (O (M.set d .no))):go P (.dops ((Z,O (t,b),o)::its)::k) Q .normal (O M):=by
 show AK (O (t,b)) M _ _
 unfold AK;rw[hd];simp only[hb];cases b<;>exact h
def kp{P:Program}{o:AItem}{Q:Xl->St->Prop}{M:St}(a b c:J zC)(h:go P [.ops [o,(Z,.keep a b c)]] Q .normal (O M)):∃pre post:J AItem,pre.all (fun i=>i.2.idle)=T/\post.all (fun i=>i.2.idle)=T/\go P [.ops (pre++o::post)] Q .normal (O M):=⟨[],[(Z,.keep a b c)],rfl,rfl,h⟩
def As{P:Program}{k:J Fr}{Q:Xl->St->Prop}{M:St}{its:J AItem}{d sz:zC}{zs:J D}{len:zC}{ps:J (zC × Opd)}(es:J (J D))(H:go P (.ops its::k) Q .normal (O {(M.set d (.v (.sc (.own (d*64))))) with rows:=put M.rows (d*64) (sz,es) }))(hm:M.made (.bslice d sz zs len ps)=O (.row d sz es):=by rfl)
  (hf:M.fresh d=T:=by simp only[St.fresh,List.all_cons,List.all_nil,Cu]; simp[AV.cells,V1.cells,AC.uses]):go P (.ops ((Z,.bslice d sz zs len ps)::its)::k) Q .normal (O M):=S7 hm hf H
def gi{G:Prop}(k:G:=by first | (intro h; cases h; done) | (intro _ hw; simp at hw; done) | (intro h0 hw; obtain rfl:=hz h0 rfl; (try obtain rfl:=hq hw 0 rfl rfl); (try obtain rfl:=hq hw 1 rfl rfl); (try obtain rfl:=hq hw 2 rfl rfl); (try obtain rfl:=hq hw 3 rfl rfl); (try obtain rfl:=hq hw 4 rfl rfl); (try obtain rfl:=hq hw 5 rfl rfl); (try obtain rfl:=hq hw 6 rfl rfl); (try obtain rfl:=hq hw 7 rfl rfl); (try obtain rfl:=hq hw 8 rfl rfl); (try obtain rfl:=hq hw 9 rfl rfl); (try obtain rfl:=hq hw 10 rfl rfl); (try obtain rfl:=hq hw 11 rfl rfl); (try obtain rfl:=hq hw 12 rfl rfl); (try obtain rfl:=hq hw 13 rfl rfl); (try obtain rfl:=hq hw 14 rfl rfl); (try obtain rfl:=hq hw 15 rfl rfl); (try obtain rfl:=hq hw 16 rfl rfl); (try obtain rfl:=hq hw 17 rfl rfl); (try obtain rfl:=hq hw 18 rfl rfl); (try obtain rfl:=hq hw 19 rfl rfl); (try obtain rfl:=hq hw 20 rfl rfl); (try obtain rfl:=hq hw 21 rfl rfl); (try obtain rfl:=hq hw 22 rfl rfl); (try obtain rfl:=hq hw 23 rfl rfl); (try obtain rfl:=hq hw 24 rfl rfl); (try obtain rfl:=hq hw 25 rfl rfl); refine np ?_; simp only[A7,A8,A4,Nat.reduceBEq,Nat.reduceMul,Nat.reduceAdd,Nat.reduceDiv,Int.reduceBEq,U]; exact ih ..)):G:=k
def gj{G:Prop}(k:G:=by first | (intro h; cases h; done) | (intro _ hw; simp at hw; done) | (intro h0 hw; obtain rfl:=hz h0 rfl; (try obtain rfl:=hq hw 0 rfl rfl); (try obtain rfl:=hq hw 1 rfl rfl); (try obtain rfl:=hq hw 2 rfl rfl); (try obtain rfl:=hq hw 3 rfl rfl); (try obtain rfl:=hq hw 4 rfl rfl); (try obtain rfl:=hq hw 5 rfl rfl); (try obtain rfl:=hq hw 6 rfl rfl); (try obtain rfl:=hq hw 7 rfl rfl); (try obtain rfl:=hq hw 8 rfl rfl); (try obtain rfl:=hq hw 9 rfl rfl); (try obtain rfl:=hq hw 10 rfl rfl); (try obtain rfl:=hq hw 11 rfl rfl); (try obtain rfl:=hq hw 12 rfl rfl); (try obtain rfl:=hq hw 13 rfl rfl); (try obtain rfl:=hq hw 14 rfl rfl); (try obtain rfl:=hq hw 15 rfl rfl); (try obtain rfl:=hq hw 16 rfl rfl); (try obtain rfl:=hq hw 17 rfl rfl); (try obtain rfl:=hq hw 18 rfl rfl); (try obtain rfl:=hq hw 19 rfl rfl); (try obtain rfl:=hq hw 20 rfl rfl); (try obtain rfl:=hq hw 21 rfl rfl); (try obtain rfl:=hq hw 22 rfl rfl); (try obtain rfl:=hq hw 23 rfl rfl); (try obtain rfl:=hq hw 24 rfl rfl); (try obtain rfl:=hq hw 25 rfl rfl); refine np ?_; simp only[*,A7,A8,A4,Nat.reduceBEq,Nat.reduceMul,Nat.reduceAdd,Nat.reduceDiv,Int.reduceBEq,U]; exact ih ..)):G:=k
end
end Go.Vi
