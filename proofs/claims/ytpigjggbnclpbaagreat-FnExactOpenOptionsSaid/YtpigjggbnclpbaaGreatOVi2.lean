/-
The value level. No condition.
-/
import Derived.Test.YtpigjggbnclpbaaGreatOVi1
namespace Go.Vi
set_option linter.all false
open List renaming replicate → Q
open Bool renaming true → T, false → F
open Option renaming some → E, none → G
open _root_ renaming List → H, Option → L, Bool → N, Nat → O
inductive Opd where
 | t (n:O)
 | c (v:AV)
 deriving Inhabited
inductive FK where
 | i | b | s
inductive AOp where
 | mv (d:O) (x:Opd)
 | pick (d:O) (c a b:Opd)
 | box (d:O) (x:Opd)
 | alloc (d:O) (cs:H AC)
 | build (d:O) (zs:H AC) (parts:H (O × O × Opd))
 | bslice (d sz:O) (zs:H D) (len:O) (parts:H (O × Opd))
 | load (d:O) (x:Opd) (agg:N) (n:O)
 | store (x y:Opd) (n:O)
 | clr (x:Opd) (sz:O) (zs:H D)
 | nilc (d:O) (x:Opd)
 | bin (d:O) (op:BinOp) (x y:Opd)
 | beq (d:O) (neg:N) (x y:Opd)
 | geq (d:O) (neg:N) (ks:H FK) (x y:Opd)
 | un (d:O) (op:UnOp) (x:Opd)
 | conv (d:O) (k:IntKind) (x:Opd)
 | mksl (d sz bytes:O) (zs:H D) (len cap:Opd)
 | slc (d sz:O) (x:Opd) (lo hi mx:L Opd)
 | sslc (d:O) (x:Opd) (lo hi:L Opd)
 | faddr (d:O) (x:Opd) (off:O)
 | field (d:O) (x:Opd) (off:O) (agg:N) (n:O)
 | iaddr (d:O) (x i:Opd) (sz:O)
 | aaddr (d:O) (x i:Opd) (len sz:O)
 | idx (d:O) (x i:Opd)
 | extr (d:O) (x:Opd) (i:O)
 | len (d:O) (x:Opd)
 | slen (d:O) (x:Opd)
 | sconv (d:O) (x:Opd)
 | app (d sz bytes:O) (x y:Opd)
 | mm (d:O) (isMax:N) (x y:Opd)
 | mkf (d:O) (f:FuncId) (caps:H Opd)
 | call (d:O) (f:FuncId) (args:H Opd)
 | callv (d:O) (x:Opd) (args:H Opd)
 | zsl (d:O)
 | zap (d sz bytes:O) (x y:Opd)
 | mkif (d:O) (t:TypeId) (x:Opd)
 | tass (d:O) (x:Opd) (t:TypeId) (zc:AC)
 | drop (ks:H O)
 | own (d j id sz:O)
 | ownb (b j id sz:O)
 | ren (a b:O)
 | frz (id:O)
 | frzb (id:O)
 | forget (gs:H O)
 | keep (ks bs rs:H O)
 | cut (d:O)
 deriving Inhabited
def St.val(σ:St):Opd→AV
 | .t n=>σ.get n
 | .c v=>v
def AC.kill(id:O):AC→AC
 | .own i=>bif i==id then .undef else .own i
 | .osub i lo hi=>bif i==id then .undef else .osub i lo hi
 | .pe i x o=>bif i==id then .undef else .pe i x o
 | c=>c
def AC.ren(a b:O):AC→AC
 | .own i=> .own (bif i==a then b else i)
 | .osub i lo hi=> .osub (bif i==a then b else i) lo hi
 | .pe i x o=> .pe (bif i==a then b else i) x o
 | c=>c
def AC.frz(id:O)(es:H (H D)):AC→AC
 | .own i=>bif i==id then .dat (.sl es) else .own i
 | .osub i lo hi=>bif i==id then .undef else .osub i lo hi
 | .pe i x o=>bif i==id then .undef else .pe i x o
 | c=>c
def AC.frzb(id:O)(ds:H D):AC→AC
 | .pb i off=>bif i==id then .dat (.pd (ds.drop off)) else .pb i off
 | .clo f ids=>bif ids.contains id then .undef else .clo f ids
 | .ipb t i=>bif i==id then .undef else .ipb t i
 | c=>c
def AC.uses(g:O):AC→N
 | .own i | .osub i _ _ | .pe i _ _=>i / 64==g
 | .pb i _=>i==g
 | .ipb _ i=>i==g
 | .clo _ ids=>ids.any (· == g)
 | _=>F
def V1.map(f:AC→AC):V1→V1
 | .sc c=> .sc (f c)
 | .ag cs=> .ag (cs.map f)
def AV.map(f:AC→AC):AV→AV
 | .undef=> .undef
 | .no=> .no
 | .v x=> .v (x.map f)
 | .tup l=> .tup (l.map (V1.map f))
 | .ev c=> .ev (f c)
def V1.cells:V1→H AC
 | .sc c=> [c]
 | .ag cs=>cs
def AV.cells:AV→H AC
 | .undef | .no=> []
 | .v x=>x.cells
 | .tup l=>l.flatMap V1.cells
 | .ev c=> [c]
def St.map(f:AC→AC)(σ:St):St:={σ with env:=σ.env.map fun(k,v)=>(k,v.map f),bx:=σ.bx.map fun(k,cs)=>(k,cs.map f)}
def St.fresh(σ:St)(g:O):N:=
 decide (g<1073741824)&&(σ.env.all (fun p=>p.2.cells.all fun c=> !c.uses g)&&σ.bx.all (fun p=>p.1 !=g&&p.2.all fun c=> !c.uses g))
def AC.has(id:O):AC→N
 | .own i | .osub i _ _ | .pe i _ _=>i==id
 | _=>F
def St.has(σ:St)(id:O):N:=(σ.env.any fun p=>p.2.cells.any (·.has id)) || σ.bx.any fun p=>p.2.any (·.has id)
def erase{α:Type}(l:H (O × α))(ks:H O):H (O × α):=l.filter fun p=> !ks.contains p.1
def St.drop(σ:St)(ks:H O):St:={σ with env:=erase σ.env ks}
def toD0(rs:Rows):AC→L D
 | .dat d=>E d
 | .own id=>match A1 rs id with
  | some (_,es)=>E (.sl es)
  | none=>G
 | .osub id lo hi=>match A1 rs id with
  | some (_,es)=>E (.sl ((es.drop lo).take (hi - lo)))
  | none=>G
 | .nil=>E (.sl [])
 | _=>G
def toD1(rs:Rows):AC→L D
 | .old d | .mix d=>E d
 | c=>toD0 rs c
def D.fl:D→N
 | .int .. | .bool _ | .str _=>T
 | _=>F
def Cb(d:D):AC:=bif d.fl then .dat d else .old d
def IF:D→D→N
 | .int k _,.int k' _=>k==k'
 | .bool _,.bool _=>T
 | .str _,.str _=>T
 | _,_=>F
def toD0s(rs:Rows):H AC→L (H D)
 | []=>E []
 | c::cs=>match toD1 rs c,toD0s rs cs with
  | some d,E ds=>E (d::ds)
  | _,_=>G
def DK:AC→L D
 | .dat d=>E d
 | .nil=>E (.sl [])
 | _=>G
def Cn:H AC→L (H D)
 | []=>E []
 | c::cs=>match DK c,Cn cs with
  | some d,E ds=>E (d::ds)
  | _,_=>G
def St.pdOf(σ:St)(id off:O):L D:=match A1 σ.bx id with
 | some cs=>(toD0s σ.rows (cs.drop off)).map .pd
 | none=>G
def St.pdsOf(σ:St):H O→L (H D)
 | []=>E []
 | i::is=>match σ.pdOf i 0,St.pdsOf σ is with
  | some d,E ds=>E (d::ds)
  | _,_=>G
def St.toD(σ:St):AC→L D
 | .pb id off=>σ.pdOf id off
 | .pe id idx off=>match A1 σ.rows id with
  | some (_,es)=>(es[idx]?).map fun d=> .pd (d.drop off)
  | none=>G
 | .clo f ids=>(σ.pdsOf ids).map (.clo f)
 | c=>toD1 σ.rows c
inductive DV where
 | sc (d:D)
 | ag (ds:H D)
def St.toDV(σ:St):AV→L DV
 | .v (.sc c)=>(σ.toD c).map .sc
 | .v (.ag cs)=>(toD0s σ.rows cs).map .ag
 | _=>G
def St.toDVs(σ:St):H Opd→L (H DV)
 | []=>E []
 | x::xs=>match σ.toDV (σ.val x),σ.toDVs xs with
  | some d,E ds=>E (d::ds)
  | _,_=>G
inductive RC where
 | v (d:D)
 | o (sz:O) (es:H (H D))
inductive R1 where
 | sc (c:RC)
 | ag (cs:H RC)
def RC.inst(g j:O):RC→AC
 | .v d=> .dat d
 | .o _ _=> .own (g*64+j)
def Da(g:O):O→H RC→H AC
 | _,[]=> []
 | j,c::cs=>c.inst g j::Da g (j+1) cs
def R1.inst(g j:O):R1→V1
 | .sc c=> .sc (c.inst g j)
 | .ag cs=> .ag (Da g j cs)
def R1.width:R1→O
 | .sc _=>1
 | .ag cs=>cs.length
def CE(g:O):O→H R1→H V1
 | _,[]=> []
 | j,r::rs=>r.inst g j::CE g (j+r.width) rs
def Bw(g:O):O→H RC→Rows
 | _,[]=> []
 | j,.v _::cs=>Bw g (j+1) cs
 | j,.o sz es::cs=>(g*64+j,sz,es)::Bw g (j+1) cs
def R1.cells:R1→H RC
 | .sc c=> [c]
 | .ag cs=>cs
def Bq(g:O)(rs:H R1):Rows:=Bw g 0 (rs.flatMap R1.cells)
def Bt(g:O):H R1→AV
 | [r]=> .v (r.inst g 0)
 | rs=> .tup (CE g 0 rs)
def HE(op:BinOp)(k:IntKind)(x y:Int):Int:=
 match op with
 | .and=>k.wrap (BitVec.ofInt k.bits x &&& BitVec.ofInt k.bits y).toNat
 | .or=>k.wrap (BitVec.ofInt k.bits x ||| BitVec.ofInt k.bits y).toNat
 | .xor=>k.wrap (BitVec.ofInt k.bits x ^^^ BitVec.ofInt k.bits y).toNat
 | _=>k.wrap (BitVec.ofInt k.bits x &&& ~~~ BitVec.ofInt k.bits y).toNat
def Ba(op:BinOp)(k:IntKind)(x y:Int):L D:=
 match op with
 | .add=>E (.int k (k.wrap (x+y)))
 | .sub=>E (.int k (k.wrap (x - y)))
 | .mul=>E (.int k (k.wrap (x*y)))
 | .quo=>if y=0 then G else E (.int k (k.wrap (x.tdiv y)))
 | .rem=>if y=0 then G else E (.int k (k.wrap (x.tmod y)))
 | .and | .or | .xor | .andNot=>E (.int k (HE op k x y))
 | .shl=>if y<0 then G else E (.int k (k.wrap (x*2 ^ min y.toNat k.bits)))
 | .shr=>if y<0 then G else E (.int k (k.wrap (x.fdiv (2 ^ min y.toNat k.bits))))
 | .eql=>E (.bool (x==y))
 | .neq=>E (.bool (x !=y))
 | .lss=>E (.bool (decide (x<y)))
 | .leq=>E (.bool (decide (x≤y)))
 | .gtr=>E (.bool (decide (y<x)))
 | .geq=>E (.bool (decide (y≤x)))
def FD(op:BinOp)(x y:H UInt8):L D:=
 match op with
 | .add=>if x.length+y.length≤4611686018427387904 then E (.str (x++y)) else G
 | .eql=>E (.bool (x==y))
 | .neq=>E (.bool (!(x==y)))
 | _=>G
def Dj(op:BinOp):AV→AV→L AV
 | .v (.sc (.dat (.int k x))),.v (.sc (.dat (.int k' y)))=>if k=k'∨op= .shl∨op= .shr then(Ba op k x y).map fun d=> .v (.sc (.dat d)) else G
 | .v (.sc (.dat (.str x))),.v (.sc (.dat (.str y)))=>(FD op x y).map fun d=> .v (.sc (.dat d))
 | _,_=>G
def HB(neg:N):AV→AV→L AV
 | .v (.sc (.dat (.bool x))),.v (.sc (.dat (.bool y)))=>E (.v (.sc (.dat (.bool (bif neg then !(x==y) else x==y)))))
 | _,_=>G
def Bf:H FK→H AC→H AC→L N
 | [],[],[]=>E T
 | .i::ks,.dat (.int k x)::cs,.dat (.int k' y)::ds=>if k=k' then(Bf ks cs ds).map fun b=>(x==y)&&b else G
 | .b::ks,.dat (.bool x)::cs,.dat (.bool y)::ds=>(Bf ks cs ds).map fun b=>(x==y)&&b
 | .s::ks,.dat (.str x)::cs,.dat (.str y)::ds=>(Bf ks cs ds).map fun b=>(x==y)&&b
 | _,_,_=>G
def Ir(neg:N)(ks:H FK):AV→AV→L AV
 | .v (.ag cs),.v (.ag ds)=>(Bf ks cs ds).map fun b=> .v (.sc (.dat (.bool (bif neg then !b else b))))
 | _,_=>G
def Fm(P:Program):H Field→O→L (H FK)
 | [],_=>E []
 | f :: fs,i => if f.name ≠ "_" ∧ f.offset = i then (match P.underlying f.type with
   | some (.int _)=>(Fm P fs (i+1)).map (.i:: ·)
   | some .bool=>(Fm P fs (i+1)).map (.b:: ·)
   | some .string=>(Fm P fs (i+1)).map (.s:: ·)
   | _=>G) else G
def Nt(P:Program)(t:TypeId):L (H FK):=
 match P.underlying t with
 | some (.struct fs)=>if P.eqGuardType P.depth t=F∧P.stoodInHeld t=F then Fm P fs.toList 0 else G
 | _=>G
def Ho(op:UnOp):AV→L AV
 | .v (.sc (.dat (.bool b)))=>match op with | .not=>E (.v (.sc (.dat (.bool (!b))))) | _=>G
 | .v (.sc (.dat (.int k x)))=>match op with
  | .neg=>E (.v (.sc (.dat (.int k (k.wrap (0 - x))))))
  | .xor=>E (.v (.sc (.dat (.int k (HE .xor k (if k.signed then -1 else k.max) x)))))
  | _=>G
 | _=>G
def ix{α:Type}(l:H α)(i:Int):L α:=if 0≤i then l[i.toNat]? else G
def Ci(cs:H AC)(off:O)(agg:N)(n:O):L AV:=
 bif agg then(if off+n≤cs.length then E (.v (.ag ((cs.drop off).take n))) else G) else(cs[off]?).map fun c=> .v (.sc c)
def Ca(σ:St)(agg:N)(n:O):AV→L AV
 | .v (.sc (.pb id off))=>(match A1 σ.bx id with
  | some cs=>Ci cs off agg n
  | none=>G)
 | .v (.sc (.pe id i off))=>(match A1 σ.rows id with
  | some (_,es)=>(match es[i]? with
   | some d=>Ci (d.map .dat) off agg n
   | none=>G)
  | none=>G)
 | .v (.sc (.dat (.pd cs)))=>Ci (cs.map .dat) 0 agg n
 | .v (.sc (.old (.pd cs)))=>Ci (cs.map Cb) 0 agg n
 | .v (.sc (.vol (.pd (.sl es::_))))=>bif agg then G else E (.v (.sc (.vol (.sl es))))
 | _=>G
def BX(rs:Rows)(off:O):AV→L AV
 | .v (.sc (.pb id o))=>E (.v (.sc (.pb id (o+off))))
 | .v (.sc (.pe id i o))=>match A1 rs id with
  | some _=>E (.v (.sc (.pe id i (o+off))))
  | none=>G
 | .v (.sc (.dat (.pd cs)))=>if off≤cs.length then E (.v (.sc (.dat (.pd (cs.drop off))))) else G
 | .v (.sc (.old (.pd cs)))=>if off≤cs.length then E (.v (.sc (.old (.pd (cs.drop off))))) else G
 | .v (.sc (.vol (.pd cs)))=>if off≤cs.length then E (.v (.sc (.vol (.pd (cs.drop off))))) else G
 | _=>G
def Fg(off:O)(agg:N)(n:O):AV→L AV
 | .v (.ag cs)=>Ci cs off agg n
 | _=>G
def Cq(rs:Rows)(sz:O):AV→AV→L AV
 | .v (.sc (.dat (.sl es))),.v (.sc (.dat (.int _ i)))=>(match ix es i with
  | some d=>if d.length=sz∧0<sz then E (.v (.sc (.dat (.pd d)))) else G
  | none=>G)
 | .v (.sc (.old (.sl es))),.v (.sc (.dat (.int _ i)))=>(match ix es i with
  | some d=>if d.length=sz∧0<sz then E (.v (.sc (.old (.pd d)))) else G
  | none=>G)
 | .v (.sc (.vol (.sl es))),.v (.sc (.dat (.int _ i)))=>(match ix es i with
  | some d=>if d.length=sz∧0<sz then E (.v (.sc (.vol (.pd d)))) else G
  | none=>G)
 | .v (.sc (.own id)),.v (.sc (.dat (.int _ i)))=>(match A1 rs id with
  | some (sz',es)=>(match ix es i with
   | some _=>if sz'=sz then E (.v (.sc (.pe id i.toNat 0))) else G
   | none=>G)
  | none=>G)
 | _,_=>G
def J7(len sz:O):AV→AV→L AV
 | .v (.sc (.pb id off)),.v (.sc (.dat (.int _ i)))=>if 0≤i∧i<len then E (.v (.sc (.pb id (off+i.toNat*sz)))) else G
 | _,_=>G
def Iv:AV→AV→L AV
 | .v (.sc (.dat (.str s))),.v (.sc (.dat (.int _ i)))=>(ix s i).map fun b=> .v (.sc (.dat (.int .u8 b.toNat)))
 | _,_=>G
def IS:AV→L AV
 | .v (.sc (.dat (.str s)))=>E (.v (.sc (.dat (.int .i64 s.length))))
 | _=>G
def Cy:H (H D)→L (H UInt8)
 | []=>E []
 | [.int .u8 n]::r=>(Cy r).map (UInt8.ofNat n.toNat:: ·)
 | _=>G
def FA(rs:Rows):AV→L AV
 | .v (.sc (.dat (.sl es)))=>(Cy es).map fun b=> .v (.sc (.dat (.str b)))
 | .v (.sc (.own id))=>match A1 rs id with
  | some (_,es)=>(Cy es).map fun b=> .v (.sc (.dat (.str b)))
  | none=>G
 | _=>G
def Db(rs:Rows):AV→L AV
 | .v (.sc (.dat (.sl es)))=>E (.v (.sc (.dat (.int .i64 es.length))))
 | .v (.sc (.own id))=>match A1 rs id with
  | some (_,es)=>E (.v (.sc (.dat (.int .i64 es.length))))
  | none=>G
 | .v (.sc .nil)=>E (.v (.sc (.dat (.int .i64 0))))
 | .v (.sc (.old (.sl es)))=>E (.v (.sc (.dat (.int .i64 es.length))))
 | .v (.sc (.vol (.sl es)))=>E (.v (.sc (.dat (.int .i64 es.length))))
 | _=>G
def H8(isMax:N):AV→AV→L AV
 | .v (.sc (.dat (.int k x))),.v (.sc (.dat (.int k' y)))=>if k=k' then E (.v (.sc (.dat (.int k (bif isMax then(if x<y then y else x) else(if y<x then y else x)))))) else G
 | _,_=>G
def BD:AV→L Int
 | .v (.sc (.dat (.int _ i)))=>E i
 | _=>G
def D3(σ:St)(lo hi mx:L Opd)(n:O):L (O × O):=
 match (match mx with | none=>E (n:Int) | some x=>BD (σ.val x)),(match hi with | none=>E (n:Int) | some x=>BD (σ.val x)),(match lo with | none=>E (0:Int) | some x=>BD (σ.val x)) with
 | some m,E h,E l=>if 0≤l∧l≤h∧h≤m∧m≤n then E (l.toNat,h.toNat) else G
 | _,_,_=>G
def Cs(σ:St)(sz:O)(x:AV)(lo hi mx:L Opd):L AV:=
 match x with
 | .v (.sc (.dat (.sl es)))=>if es.all (fun d=>d.length==sz)&&decide (0<sz) then(D3 σ lo hi mx es.length).map fun p=> .v (.sc (.dat (.sl ((es.drop p.1).take (p.2 - p.1))))) else G
 | .v (.sc (.own id))=>match A1 σ.rows id with
  | some (sz',es)=>if sz'=sz∧mx.isNone=T then(D3 σ lo hi mx es.length).map fun p=> .v (.sc (.osub id p.1 p.2)) else G
  | none=>G
 | .v (.sc .nil)=>(D3 σ lo hi mx 0).map fun _=> .v (.sc .nil)
 | _=>G
def FB(σ:St)(x:AV)(lo hi:L Opd):L AV:=
 match x with
 | .v (.sc (.dat (.str s)))=>(D3 σ lo hi G s.length).map fun p=> .v (.sc (.dat (.str ((s.drop p.1).take (p.2 - p.1)))))
 | _=>G
def HO(i:O):AV→L AV
 | .tup l=>(l[i]?).map .v
 | _=>G
def IQ:AV→AV→AV→L AV
 | .v (.sc (.dat (.bool b))),x,y=>E (bif b then x else y)
 | _,_,_=>G
def Eo:AV→L AV
 | .v (.sc (.pb id off))=>E (.v (.sc (.pb id off)))
 | .v (.sc (.dat (.pd cs)))=>E (.v (.sc (.dat (.pd cs))))
 | .v (.sc (.old (.pd cs)))=>E (.v (.sc (.old (.pd cs))))
 | .v (.sc (.vol (.pd cs)))=>E (.v (.sc (.vol (.pd cs))))
 | _=>G
def En(f:FuncId):H AV→L (H O)
 | []=>E []
 | .v (.sc (.pb id 0))::r=>(En f r).map (id:: ·)
 | _=>G
def Em:H AV→L (H D)
 | []=>E []
 | .v (.sc (.dat (.pd ds)))::r=>(Em r).map (.pd ds:: ·)
 | _=>G
def El(f:FuncId):H AV→L AC
 | .v (.sc (.dat d))::r=>(Em (.v (.sc (.dat d))::r)).map fun q=> .dat (.clo f q)
 | l=>(En f l).map (.clo f)
def Co:H AC→H (O × O × AV)→L (H AC)
 | cs,[]=>E cs
 | cs,(off,n,.v x)::r=>if x.cells.length=n∧off+n≤cs.length then Co (cs.take off++x.cells++cs.drop (off+n)) r else G
 | _,_=>G
def V1.toDs(x:V1):L (H D):=Cn x.cells
def Ec(sz:O):H (H D)→H (O × AV)→L (H (H D))
 | es,[]=>E es
 | es,(i,.v x)::r=>match x.toDs with
  | some ds=>if ds.length=sz∧i<es.length then Ec sz (es.set i ds) r else G
  | none=>G
 | _,_=>G
def Ft(t:TypeId):AV→L AV
 | .v (.sc (.dat d))=>E (.v (.sc (.dat (.ifc t d))))
 | .v (.sc (.pb id 0))=>E (.v (.sc (.ipb t id)))
 | .v (.ag cs)=>(Cn cs).map fun ds=> .v (.sc (.dat (.ifs t ds)))
 | _=>G
def IU(t:TypeId)(zc:AC):AV→L AV
 | .v (.sc (.dat (.ifc u d)))=>bif u==t then E (.tup [.sc (.dat d),.sc (.dat (.bool T))]) else E (.tup [.sc zc,.sc (.dat (.bool F))])
 | _=>G
def St.pure(σ:St):AOp→L (O × AV)
 | .mv d x=>E (d,σ.val x)
 | .pick d c a b=>(IQ (σ.val c) (σ.val a) (σ.val b)).map (d,·)
 | .build d zs ps=>(Co zs (ps.map fun p=>(p.1,p.2.1,σ.val p.2.2))).map fun cs=>(d,.v (.ag cs))
 | .load d x agg n=>(Ca σ agg n (σ.val x)).map (d,·)
 | .nilc d x=>(Eo (σ.val x)).map (d,·)
 | .bin d op x y=>(Dj op (σ.val x) (σ.val y)).map (d,·)
 | .beq d g x y=>(HB g (σ.val x) (σ.val y)).map (d,·)
 | .geq d g ks x y=>(Ir g ks (σ.val x) (σ.val y)).map (d,·)
 | .un d op x=>(Ho op (σ.val x)).map (d,·)
 | .conv d k x=>match σ.val x with | .v (.sc (.dat (.int _ n)))=>E (d,.v (.sc (.dat (.int k (k.wrap n))))) | _=>G
 | .slc d sz x lo hi mx=>(Cs σ sz (σ.val x) lo hi mx).map (d,·)
 | .sslc d x lo hi=>(FB σ (σ.val x) lo hi).map (d,·)
 | .faddr d x off=>(BX σ.rows off (σ.val x)).map (d,·)
 | .field d x off agg n=>(Fg off agg n (σ.val x)).map (d,·)
 | .iaddr d x i sz=>(Cq σ.rows sz (σ.val x) (σ.val i)).map (d,·)
 | .aaddr d x i len sz=>(J7 len sz (σ.val x) (σ.val i)).map (d,·)
 | .idx d x i=>(Iv (σ.val x) (σ.val i)).map (d,·)
 | .extr d x i=>(HO i (σ.val x)).map (d,·)
 | .len d x=>(Db σ.rows (σ.val x)).map (d,·)
 | .slen d x=>(IS (σ.val x)).map (d,·)
 | .sconv d x=>(FA σ.rows (σ.val x)).map (d,·)
 | .mm d m x y=>(H8 m (σ.val x) (σ.val y)).map (d,·)
 | .mkf d f caps=>(El f (caps.map σ.val)).map fun c=>(d,.v (.sc c))
 | .zsl d=>E (d,.v (.sc .z))
 | .mkif d t x=>(Ft t (σ.val x)).map (d,·)
 | .tass d x t zc=>(IU t zc (σ.val x)).map (d,·)
 | _=>G
def appSrc(rs:Rows):AV→L (H (H D))
 | .v (.sc c)=>match toD0 rs c with
  | some (.sl es)=>E es
  | _=>G
 | _=>G
def zapV(rs:Rows)(d sz bytes:O):AV→AV→L (O × O × H (H D))
 | .v (.sc .z),y=>match appSrc rs y with
  | some es=>if es.all (fun r=>r.length==sz)=T∧es.length*bytes≤140737488355328∧es.length≤4611686018427387904 then E (d,sz,es) else G
  | none=>G
 | _,_=>G
inductive Mk where
 | box (d:O) (cs:H AC)
 | row (d sz:O) (es:H (H D))
def St.made(σ:St):AOp→L Mk
 | .box d x=>match σ.val x with
  | .v y=>E (.box d y.cells)
  | _=>G
 | .alloc d cs=>E (.box d cs)
 | .bslice d sz zs len ps=>(match Ec sz (Q len zs) (ps.map fun p=>(p.1,σ.val p.2)) with
  | some es=>if zs.length=sz then E (.row d sz es) else G
  | none=>G)
 | .mksl d sz bytes zs len cap=>match BD (σ.val len),BD (σ.val cap) with
  | some l,E c=>if 0≤l∧l≤c∧c*bytes≤140737488355328∧c≤4611686018427387904∧zs.length=sz then E (.row d sz (Q l.toNat zs)) else G
  | _,_=>G
 | .zap d sz bytes x y=>(zapV σ.rows d sz bytes (σ.val x) (σ.val y)).map fun p=> .row p.1 p.2.1 p.2.2
 | _=>G
def Ew(cs:H D)(off:O)(ds:H D):H D:=cs.take off++ds++cs.drop (off+ds.length)
def Bx(cs:H AC)(off:O)(ds:H AC):H AC:=cs.take off++ds++cs.drop (off+ds.length)
def St.storeV(σ:St)(n:O):AV→AV→L St
 | .v (.sc (.pb id off)),.v y=>(match A1 σ.bx id with
  | some cs=>if y.cells.length=n∧off+n≤cs.length then E {σ with bx:=put σ.bx id (Bx cs off y.cells)} else G
  | none=>G)
 | .v (.sc (.pe id i off)),.v y=>(match A1 σ.rows id with
  | some (sz,es)=>(match es[i]?,y.toDs with
   | some d,E ds=>if ds.length=n∧off+n≤d.length then E {σ with rows:=put σ.rows id (sz,es.set i (Ew d off ds))} else G
   | _,_=>G)
  | none=>G)
 | .v (.sc (.vol (.pd (c::_)))),.v (.sc (.dat d))=>bif n==1&&IF c d then E σ else G
 | _,_=>G
def St.clrV(σ:St)(sz:O)(zs:H D):AV→L St
 | .v (.sc (.osub id lo hi))=>(match A1 σ.rows id with
  | some (z,es)=>if z=sz∧zs.length=sz∧lo≤hi∧hi=es.length then E {σ with rows:=put σ.rows id (sz,es.take lo++Q (hi - lo) zs)} else G
  | none=>G)
 | _=>G
def St.appV(σ:St)(d sz bytes:O):AV→AV→L St
 | .v (.sc (.own id)),y=>if id / 99999999999=0 then(match A1 σ.rows id,appSrc σ.rows y with
  | some (sz',es),E es'=>if sz'=sz∧es'.all (fun r=>r.length==sz)=T∧(es.length+es'.length)*bytes≤140737488355328∧es.length+es'.length≤4611686018427387904 then
    E {((σ.map (AC.kill id)).set d (.v (.sc (.own id)))) with rows:=put σ.rows id (sz,es++es')} else G
  | _,_=>G) else G
 | _,_=>G
def St.make(σ:St):Mk→L St
 | .box d cs=>if σ.fresh d&&cs.all (fun c=> !c.uses d) then E {(σ.set d (.v (.sc (.pb d 0)))) with bx:=put σ.bx d cs} else G
 | .row d sz es=>if σ.fresh d then E {(σ.set d (.v (.sc (.own (d*64))))) with rows:=put σ.rows (d*64) (sz,es)} else G
def BU{α:Type}(l:H (O × α)):H O→H (O × α)
 | []=> []
 | k::ks=>match A1 l k with
  | some v=>(k,v)::BU l ks
  | none=>BU l ks
def St.kept(σ:St)(ks bs rs:H O):St:=⟨BU σ.env ks,BU σ.bx bs,BU σ.rows rs⟩
def St.step(σ:St)(o:AOp):L St:=
 match o with
 | .store x y n=>σ.storeV n (σ.val x) (σ.val y)
 | .clr x sz zs=>σ.clrV sz zs (σ.val x)
 | .app d sz bytes x y=>σ.appV d sz bytes (σ.val x) (σ.val y)
 | .drop ks=>E (σ.drop ks)
 | .forget gs=>E {σ with bx:=σ.bx.filter fun p=> !gs.contains p.1,rows:=σ.rows.filter fun p=> !gs.contains (p.1 / 64)}
 | .keep ks bs rs=>E (σ.kept ks bs rs)
 | .own d j id sz=>if σ.has id || !(id / 99999999999==0) then G else match σ.get d with
  | .v (.sc .nil)=>if j=0 then E {(σ.set d (.v (.sc (.own id)))) with rows:=put σ.rows id (sz,[])} else G
  | .v (.ag cs)=>match cs[j]? with
   | some .nil=>E {(σ.set d (.v (.ag (cs.set j (.own id))))) with rows:=put σ.rows id (sz,[])}
   | _=>G
  | _=>G
 | .ownb b j id sz=>if σ.has id || !(id / 99999999999==0) then G else match A1 σ.bx b with
  | some cs=>match cs[j]? with
   | some .nil=>E {σ with bx:=put σ.bx b (cs.set j (.own id)),rows:=put σ.rows id (sz,[])}
   | _=>G
  | none=>G
 | .cut d=>match σ.get d with
  | .v (.sc (.osub id 0 h))=>if id / 99999999999=0 then(match A1 σ.rows id with
   | some (sz,es)=>if h≤es.length then E {((σ.map (AC.kill id)).set d (.v (.sc (.own id)))) with rows:=put σ.rows id (sz,es.take h)} else G
   | none=>G) else G
  | _=>G
 | .ren a b=>if σ.has b || !(a / 99999999999==0&&b / 99999999999==0) then G else match A1 σ.rows a with
  | some r=>E {(σ.map (AC.ren a b)) with rows:=put (erase σ.rows [a]) b r}
  | none=>G
 | .frz id=>if !(id / 99999999999==0) then G else match A1 σ.rows id with
  | some (_,es)=>E {(σ.map (AC.frz id es)) with rows:=erase σ.rows [id]}
  | none=>E σ
 | .frzb id=>if !(id / 99999999999==0) then G else match A1 σ.bx id with
  | some cs=>match Cn cs with
   | some ds=>E (({σ with bx:=erase σ.bx [id]}:St).map (AC.frzb id ds))
   | none=>G
  | none=>G
 | o=>match σ.pure o with
  | some (d,v)=>E (σ.set d v)
  | none=>match σ.made o with
   | some m=>σ.make m
   | none=>G
def FQ:Value→AC
 | .int k n=>if k.min≤n∧n≤k.max then .dat (.int k n) else .undef
 | .bool b=> .dat (.bool b)
 | .string s=>if s.data.toList.length≤4096 then .dat (.str s.data.toList) else .undef
 | .slice G 0 0=> .nil
 | .nilIface=> .dat .noi
 | _=> .undef
def Dk(l:H Value):L (H AC):=if l.all (·.oneCell') then E (l.map FQ) else G
def Oy:Value→AV
 | .agg cs=>match Dk cs.toList with
  | some l=> .v (.ag l)
  | none=> .undef
 | .tuple _=> .undef
 | v=> .v (.sc (FQ v))
def Az:Operand→L Opd
 | .tmp t=>E (.t t)
 | .const v=>E (.c (Oy v))
 | .func f=>E (.c (.v (.sc (.dat (.clo f [])))))
 | .global _=>G
def BG:H Operand→L (H Opd)
 | []=>E []
 | x::xs=>match Az x,BG xs with
  | some y,E ys=>E (y::ys)
  | _,_=>G
def IM:L Operand→L (L Opd)
 | none=>E G
 | some x=>(Az x).map E
def Dh(P:Program)(t:TypeId):L (N × O):=
 match P.underlying t,P.info? t with
 | some (.struct _),E i=>E (T,i.size)
 | some (.array _ _),E i=>E (T,i.size)
 | some _,E i=>E (F,i.size)
 | _,_=>G
def Mf(P:Program)(t:TypeId):L TypeInfo:=
 match P.underlying t with
 | some (.slice e)=>P.info? e
 | _=>G
def Hr(P:Program)(t:TypeId):L (TypeInfo × Value):=
 match P.info? t with
 | some i=>i.zero.map fun z=>(i,z)
 | none=>G
def HM(P:Program)(t:TypeId):L (TypeInfo × Value):=
 match P.underlying t with
 | some (.slice e)=>Hr P e
 | _=>G
def Lw(places:H (O × O)):H (O × Operand)→L (H (O × O × Opd))
 | []=>E []
 | (i,x)::r=>match places[i]?,Az x,Lw places r with
  | some p,E y,E ys=>E ((p.1,p.2,y)::ys)
  | _,_,_=>G
def Lv(sz:O):H (O × Operand)→L (H (O × O × Opd))
 | []=>E []
 | (i,x)::r=>match Az x,Lv sz r with
  | some y,E ys=>E ((i*sz,sz,y)::ys)
  | _,_=>G
def IP:H (O × Operand)→L (H (O × Opd))
 | []=>E []
 | (i,x)::r=>match Az x,IP r with
  | some y,E ys=>E ((i,y)::ys)
  | _,_=>G
def Ae(P:Program)(d:O)(o:Oper):L AOp:=
 match o.op with
 | .move x | .assign x=>(Az x).map (.mv d)
 | .pick c a b=>match Az c,Az a,Az b with
  | some c,E a,E b=>E (.pick d c a b)
  | _,_,_=>G
 | .alloc elem=>match Hr P elem with
  | some (_,z)=>(Dk z.cells.toList).map (.alloc d)
  | none=>G
 | .box _ x=>(Az x).map (.box d)
 | .build t ps=>match P.underlying t,Hr P t with
  | some (.struct fs),E (_,z)=>match fs.toList.mapM (fun f=>(P.info? f.type).map fun i=>(f.offset,i.size)) with
   | some places=>match Dk z.cells.toList,Lw places ps.toList with
    | some zs,E qs=>E (.build d zs qs)
    | _,_=>G
   | none=>G
  | some (.array _ e),E (_,z)=>match P.info? e with
   | some ie=>match Dk z.cells.toList,Lv ie.size ps.toList with
    | some zs,E qs=>E (.build d zs qs)
    | _,_=>G
   | none=>G
  | _,_=>G
 | .buildSlice t len ps=>match HM P t with
  | some (i,z)=>if z.cells.size=i.size∧0<i.size∧len*i.size≤16777216 then
    (match (Dk z.cells.toList).bind Cn,IP ps.toList with
    | some zs,E qs=>E (.bslice d i.size zs len qs)
    | _,_=>G) else G
  | none=>G
 | .load t x=>match Dh P t,Az x with
  | some (g,n),E y=>if g∨n=1 then E (.load d y g n) else G
  | _,_=>G
 | .nilCheck x=>(Az x).map (.nilc d)
 | .binOp op t x y _=>match Az x,Az y with
  | some x,E y=>(match P.underlying t,op with
   | some .bool,.eql=>E (.beq d F x y)
   | some .bool,.neq=>E (.beq d T x y)
   | some (.struct _),.eql=>(Nt P t).map fun ks=> .geq d F ks x y
   | some (.struct _),.neq=>(Nt P t).map fun ks=> .geq d T ks x y
   | _,_=>E (.bin d op x y))
  | _,_=>G
 | .unOp op _ x=>(Az x).map (.un d op)
 | .convert s t x=>match P.underlying s,P.underlying t,Az x with
  | some _,E (.int k),E y=>E (.conv d k y)
  | some (.slice e),E .string,E y=>match P.underlying e with | some (.int .u8)=>E (.sconv d y) | _=>G
  | _,_,_=>G
 | .makeSlice t l c=>match HM P t with
  | some (i,z)=>if z.cells.size=i.size∧0<i.size∧0<i.bytes then
    (match (Dk z.cells.toList).bind Cn,Az l,Az c with
    | some zs,E l,E c=>E (.mksl d i.size i.bytes zs l c)
    | _,_,_=>G) else G
  | none=>G
 | .slice t x lo hi mx=>match Az x,IM lo,IM hi,IM mx with
  | some y,E l,E h,E m=>if h=G∧m≠G then G else match P.underlying t with
   | some .string=>if mx.isNone then E (.sslc d y l h) else G
   | some (.slice e)=>(P.info? e).map fun i=> .slc d i.size y l h m
   | _=>G
  | _,_,_,_=>G
 | .fieldAddr s x f=>match P.underlying s,Az x with
  | some (.struct fs),E y=>match fs[f]? with
   | some fd=>match P.info? fd.type with
    | some i=>if i.size=0 then G else E (.faddr d y fd.offset)
    | none=>G
   | none=>G
  | _,_=>G
 | .field t x f=>match P.underlying t,Az x with
  | some (.struct fs),E y=>match fs[f]? with
   | some fd=>match Dh P fd.type with
    | some (g,n)=>if g∨n=1 then E (.field d y fd.offset g n) else G
    | none=>G
   | none=>G
  | _,_=>G
 | .indexAddr t x i=>match Mf P t,Az x,Az i with
  | some inf,E y,E j=>E (.iaddr d y j inf.size)
  | none,E y,E j=>(match P.underlying t with
   | some (.array len e)=>match P.info? e with
    | some ie=>match i with
     | .const (.int _ n)=>if 0≤n∧n<len∧ie.size≠0 then E (.faddr d y (n.toNat*ie.size)) else G
     | _=>E (.aaddr d y j len ie.size)
    | none=>G
   | _=>G)
  | _,_,_=>G
 | .index t x i=>match P.underlying t,Az x,Az i with
  | some .string,E y,E j=>E (.idx d y j)
  | some (.array len e),E y,E _=>(match Dh P e,i with
   | some (g,m),.const (.int _ n)=>if 0≤n∧n<len∧(g=T∨m=1) then E (.field d y (n.toNat*m) g m) else G
   | _,_=>G)
  | _,_,_=>G
 | .extract x i=>(Az x).map fun y=> .extr d y i
 | .makeInterface t x=>match P.underlying t,Az x with
  | some (.interface _),_=>G
  | some _,E y=>E (.mkif d t y)
  | _,_=>G
 | .typeAssert x _ t ok=>match P.underlying t,Hr P t,Az x with
  | some (.interface _),_,_=>G
  | some _,E (_,z),E y=>if z.oneCell'=T∧ok=T then E (.tass d y t (FQ z)) else G
  | _,_,_=>G
 | .makeFunc (.func f) first caps=>if first.isEmpty then(BG caps.toList).map (.mkf d f) else G
 | .call {callee:= .builtin .len,args,argTypes}=>match args.toList,argTypes.toList with
  | [x],[t]=>match P.underlying t,Az x with
   | some .string,E y=>E (.slen d y)
   | some (.slice _),E y=>E (.len d y)
   | _,_=>G
  | _,_=>G
 | .call {callee:= .builtin .append,args,argTypes}=>match args.toList,argTypes.toList with
  | [x,y],[t,t']=>match HM P t,P.underlying t',Az x,Az y with
   | some (i,z),E (.slice _),E a,E b=>if z.cells.size=i.size∧0<i.size∧0<i.bytes then E (.app d i.size i.bytes a b) else G
   | _,_,_,_=>G
  | _,_=>G
 | .call {callee:= .builtin .max,args,.. }=>match args.toList with
  | [x,y]=>match Az x,Az y with
   | some a,E b=>E (.mm d T a b)
   | _,_=>G
  | _=>G
 | .call {callee:= .builtin .min,args,.. }=>match args.toList with
  | [x,y]=>match Az x,Az y with
   | some a,E b=>E (.mm d F a b)
   | _,_=>G
  | _=>G
 | .call {callee:= .value (.func f),args,.. }=>match P.funcs[f]? with
  | some fn => if fn.body.isSome ∧ (fn.name == "runtime.NumGoroutine") = false then (BG args.toList).map (.call d f) else none
  | none=>G
 | .call {callee:= .value (.tmp t),args,.. }=>(BG args.toList).map (.callv d (.t t))
 | _=>G
def C6(P:Program)(nt:O)(o:Oper):L AOp:=
 match o.dst with
 | some d=>if d<nt then Ae P d o else G
 | none=>match o.op with
  | .store t a x=>match P.info? t,Az a,Az x with
   | some i,E a,E x=>E (.store a x i.size)
   | _,_,_=>G
  | .call {callee:= .builtin .clear,args,argTypes}=>match args.toList,argTypes.toList with
   | [x],[t]=>match HM P t,Az x with
    | some (i,z),E y=>if z.cells.size=i.size∧0<i.size then(match (Dk z.cells.toList).bind Cn with
     | some zs=>E (.clr y i.size zs)
     | none=>G) else G
    | _,_=>G
   | _,_=>G
  | _=>G
end Go.Vi
