/-
The value level. No condition.
-/
import Derived.Test.YtmgfndipofbbaaaGreatAVi1
namespace Go.Vi
set_option linter.all false
open Bool renaming true → T, false → F
open Option renaming some → E, none → G
inductive Opd where
 | t (n:Nat)
 | c (v:AV)
 deriving Inhabited
inductive FK where
 | i | b | s
inductive AOp where
 | mv (d:Nat) (x:Opd)
 | pick (d:Nat) (c a b:Opd)
 | box (d:Nat) (x:Opd)
 | alloc (d:Nat) (cs:List AC)
 | build (d:Nat) (zs:List AC) (parts:List (Nat × Nat × Opd))
 | bslice (d sz:Nat) (zs:List D) (len:Nat) (parts:List (Nat × Opd))
 | load (d:Nat) (x:Opd) (agg:Bool) (n:Nat)
 | store (x y:Opd) (n:Nat)
 | nilc (d:Nat) (x:Opd)
 | bin (d:Nat) (op:BinOp) (x y:Opd)
 | beq (d:Nat) (neg:Bool) (x y:Opd)
 | geq (d:Nat) (neg:Bool) (ks:List FK) (x y:Opd)
 | un (d:Nat) (op:UnOp) (x:Opd)
 | conv (d:Nat) (k:IntKind) (x:Opd)
 | mksl (d sz bytes:Nat) (zs:List D) (len cap:Opd)
 | slc (d sz:Nat) (x:Opd) (lo hi mx:Option Opd)
 | sslc (d:Nat) (x:Opd) (lo hi:Option Opd)
 | faddr (d:Nat) (x:Opd) (off:Nat)
 | field (d:Nat) (x:Opd) (off:Nat) (agg:Bool) (n:Nat)
 | iaddr (d:Nat) (x i:Opd) (sz:Nat)
 | aaddr (d:Nat) (x i:Opd) (len sz:Nat)
 | idx (d:Nat) (x i:Opd)
 | extr (d:Nat) (x:Opd) (i:Nat)
 | len (d:Nat) (x:Opd)
 | slen (d:Nat) (x:Opd)
 | sconv (d:Nat) (x:Opd)
 | app (d sz bytes:Nat) (x y:Opd)
 | mm (d:Nat) (isMax:Bool) (x y:Opd)
 | mkf (d:Nat) (f:FuncId) (caps:List Opd)
 | call (d:Nat) (f:FuncId) (args:List Opd)
 | callv (d:Nat) (x:Opd) (args:List Opd)
 | zsl (d:Nat)
 | zap (d sz bytes:Nat) (x y:Opd)
 | mkif (d:Nat) (t:TypeId) (x:Opd)
 | tass (d:Nat) (x:Opd) (t:TypeId) (zc:AC)
 | drop (ks:List Nat)
 | own (d j id sz:Nat)
 | ownb (b j id sz:Nat)
 | ren (a b:Nat)
 | frz (id:Nat)
 | frzb (id:Nat)
 | forget (gs:List Nat)
 | keep (ks bs rs:List Nat)
 | cut (d:Nat)
 deriving Inhabited
def St.val(σ:St):Opd→AV
 | .t n=>σ.get n
 | .c v=>v
def AC.kill(id:Nat):AC→AC
 | .own i=>bif i==id then .undef else .own i
 | .osub i lo hi=>bif i==id then .undef else .osub i lo hi
 | .pe i x o=>bif i==id then .undef else .pe i x o
 | c=>c
def AC.ren(a b:Nat):AC→AC
 | .own i=> .own (bif i==a then b else i)
 | .osub i lo hi=> .osub (bif i==a then b else i) lo hi
 | .pe i x o=> .pe (bif i==a then b else i) x o
 | c=>c
def AC.frz(id:Nat)(es:List (List D)):AC→AC
 | .own i=>bif i==id then .dat (.sl es) else .own i
 | .osub i lo hi=>bif i==id then .undef else .osub i lo hi
 | .pe i x o=>bif i==id then .undef else .pe i x o
 | c=>c
def AC.frzb(id:Nat)(ds:List D):AC→AC
 | .pb i off=>bif i==id then .dat (.pd (ds.drop off)) else .pb i off
 | .clo f ids=>bif ids.contains id then .undef else .clo f ids
 | .ipb t i=>bif i==id then .undef else .ipb t i
 | c=>c
def AC.uses(g:Nat):AC→Bool
 | .own i | .osub i _ _ | .pe i _ _=>i / 64==g
 | .pb i _=>i==g
 | .ipb _ i=>i==g
 | .clo _ ids=>ids.any (· == g)
 | _=>F
def V1.map(f:AC→AC):V1→V1
 | .sc c=> .sc (f c)
 | .ag cs=> .ag (cs.map f)
def AV.map(f:AC→AC):AV→AV
 | .undef=> .undef
 | .no=> .no
 | .v x=> .v (x.map f)
 | .tup l=> .tup (l.map (V1.map f))
def V1.cells:V1→List AC
 | .sc c=> [c]
 | .ag cs=>cs
def AV.cells:AV→List AC
 | .undef | .no=> []
 | .v x=>x.cells
 | .tup l=>l.flatMap V1.cells
def St.map(f:AC→AC)(σ:St):St:={σ with env:=σ.env.map fun(k,v)=>(k,v.map f),bx:=σ.bx.map fun(k,cs)=>(k,cs.map f)}
def St.fresh(σ:St)(g:Nat):Bool:=
 decide (g<1073741824)&&(σ.env.all (fun p=>p.2.cells.all fun c=> !c.uses g)&&σ.bx.all (fun p=>p.1 !=g&&p.2.all fun c=> !c.uses g))
def AC.has(id:Nat):AC→Bool
 | .own i | .osub i _ _ | .pe i _ _=>i==id
 | _=>F
def St.has(σ:St)(id:Nat):Bool:=(σ.env.any fun p=>p.2.cells.any (·.has id)) || σ.bx.any fun p=>p.2.any (·.has id)
def erase{α:Type}(l:List (Nat × α))(ks:List Nat):List (Nat × α):=l.filter fun p=> !ks.contains p.1
def St.drop(σ:St)(ks:List Nat):St:={σ with env:=erase σ.env ks}
def toD0(rs:Rows):AC→Option D
 | .dat d=>E d
 | .own id=>match A6 rs id with
  | some (_,es)=>E (.sl es)
  | none=>G
 | .osub id lo hi=>match A6 rs id with
  | some (_,es)=>E (.sl ((es.drop lo).take (hi - lo)))
  | none=>G
 | .nil=>E (.sl [])
 | _=>G
def toD1(rs:Rows):AC→Option D
 | .old d=>E d
 | c=>toD0 rs c
def D.fl:D→Bool
 | .int .. | .bool _ | .str _=>T
 | _=>F
def A79(d:D):AC:=bif d.fl then .dat d else .old d
def B5c:D→D→Bool
 | .int k _,.int k' _=>k==k'
 | .bool _,.bool _=>T
 | .str _,.str _=>T
 | _,_=>F
def toD0s(rs:Rows):List AC→Option (List D)
 | []=>E []
 | c::cs=>match toD1 rs c,toD0s rs cs with
  | some d,E ds=>E (d::ds)
  | _,_=>G
def toI:AC→Option D
 | .dat d=>E d
 | .nil=>E (.sl [])
 | _=>G
def A68:List AC→Option (List D)
 | []=>E []
 | c::cs=>match toI c,A68 cs with
  | some d,E ds=>E (d::ds)
  | _,_=>G
def St.pdOf(σ:St)(id off:Nat):Option D:=match A6 σ.bx id with
 | some cs=>(toD0s σ.rows (cs.drop off)).map .pd
 | none=>G
def St.pdsOf(σ:St):List Nat→Option (List D)
 | []=>E []
 | i::is=>match σ.pdOf i 0,St.pdsOf σ is with
  | some d,E ds=>E (d::ds)
  | _,_=>G
def St.toD(σ:St):AC→Option D
 | .pb id off=>σ.pdOf id off
 | .pe id idx off=>match A6 σ.rows id with
  | some (_,es)=>(es[idx]?).map fun d=> .pd (d.drop off)
  | none=>G
 | .clo f ids=>(σ.pdsOf ids).map (.clo f)
 | c=>toD1 σ.rows c
inductive DV where
 | sc (d:D)
 | ag (ds:List D)
def St.toDV(σ:St):AV→Option DV
 | .v (.sc c)=>(σ.toD c).map .sc
 | .v (.ag cs)=>(toD0s σ.rows cs).map .ag
 | _=>G
def St.toDVs(σ:St):List Opd→Option (List DV)
 | []=>E []
 | x::xs=>match σ.toDV (σ.val x),σ.toDVs xs with
  | some d,E ds=>E (d::ds)
  | _,_=>G
inductive RC where
 | v (d:D)
 | o (sz:Nat) (es:List (List D))
inductive R1 where
 | sc (c:RC)
 | ag (cs:List RC)
def RC.inst(g j:Nat):RC→AC
 | .v d=> .dat d
 | .o _ _=> .own (g*64+j)
def A1g(g:Nat):Nat→List RC→List AC
 | _,[]=> []
 | j,c::cs=>c.inst g j::A1g g (j+1) cs
def R1.inst(g j:Nat):R1→V1
 | .sc c=> .sc (c.inst g j)
 | .ag cs=> .ag (A1g g j cs)
def R1.width:R1→Nat
 | .sc _=>1
 | .ag cs=>cs.length
def A04(g:Nat):Nat→List R1→List V1
 | _,[]=> []
 | j,r::rs=>r.inst g j::A04 g (j+r.width) rs
def J7(g:Nat):Nat→List RC→Rows
 | _,[]=> []
 | j,.v _::cs=>J7 g (j+1) cs
 | j,.o sz es::cs=>(g*64+j,sz,es)::J7 g (j+1) cs
def R1.cells:R1→List RC
 | .sc c=> [c]
 | .ag cs=>cs
def Q3(g:Nat)(rs:List R1):Rows:=J7 g 0 (rs.flatMap R1.cells)
def O0(g:Nat):List R1→AV
 | [r]=> .v (r.inst g 0)
 | rs=> .tup (A04 g 0 rs)
def K0(op:BinOp)(k:IntKind)(x y:Int):Int:=
 match op with
 | .and=>k.wrap (BitVec.ofInt k.bits x &&& BitVec.ofInt k.bits y).toNat
 | .or=>k.wrap (BitVec.ofInt k.bits x ||| BitVec.ofInt k.bits y).toNat
 | .xor=>k.wrap (BitVec.ofInt k.bits x ^^^ BitVec.ofInt k.bits y).toNat
 | _=>k.wrap (BitVec.ofInt k.bits x &&& ~~~ BitVec.ofInt k.bits y).toNat
def M5(op:BinOp)(k:IntKind)(x y:Int):Option D:=
 match op with
 | .add=>E (.int k (k.wrap (x+y)))
 | .sub=>E (.int k (k.wrap (x - y)))
 | .mul=>E (.int k (k.wrap (x*y)))
 | .quo=>if y=0 then G else E (.int k (k.wrap (x.tdiv y)))
 | .rem=>if y=0 then G else E (.int k (k.wrap (x.tmod y)))
 | .and | .or | .xor | .andNot=>E (.int k (K0 op k x y))
 | .shl=>if y<0 then G else E (.int k (k.wrap (x*2 ^ min y.toNat k.bits)))
 | .shr=>if y<0 then G else E (.int k (k.wrap (x.fdiv (2 ^ min y.toNat k.bits))))
 | .eql=>E (.bool (x==y))
 | .neq=>E (.bool (x !=y))
 | .lss=>E (.bool (decide (x<y)))
 | .leq=>E (.bool (decide (x≤y)))
 | .gtr=>E (.bool (decide (y<x)))
 | .geq=>E (.bool (decide (y≤x)))
def B37(op:BinOp)(x y:List UInt8):Option D:=
 match op with
 | .add=>if x.length+y.length≤4611686018427387904 then E (.str (x++y)) else G
 | .eql=>E (.bool (x==y))
 | .neq=>E (.bool (!(x==y)))
 | _=>G
def A4a(op:BinOp):AV→AV→Option AV
 | .v (.sc (.dat (.int k x))),.v (.sc (.dat (.int k' y)))=>if k=k'∨op= .shl∨op= .shr then(M5 op k x y).map fun d=> .v (.sc (.dat d)) else G
 | .v (.sc (.dat (.str x))),.v (.sc (.dat (.str y)))=>(B37 op x y).map fun d=> .v (.sc (.dat d))
 | _,_=>G
def C0b(neg:Bool):AV→AV→Option AV
 | .v (.sc (.dat (.bool x))),.v (.sc (.dat (.bool y)))=>E (.v (.sc (.dat (.bool (bif neg then !(x==y) else x==y)))))
 | _,_=>G
def A03:List FK→List AC→List AC→Option Bool
 | [],[],[]=>E T
 | .i::ks,.dat (.int k x)::cs,.dat (.int k' y)::ds=>if k=k' then(A03 ks cs ds).map fun b=>(x==y)&&b else G
 | .b::ks,.dat (.bool x)::cs,.dat (.bool y)::ds=>(A03 ks cs ds).map fun b=>(x==y)&&b
 | .s::ks,.dat (.str x)::cs,.dat (.str y)::ds=>(A03 ks cs ds).map fun b=>(x==y)&&b
 | _,_,_=>G
def B9u(neg:Bool)(ks:List FK):AV→AV→Option AV
 | .v (.ag cs),.v (.ag ds)=>(A03 ks cs ds).map fun b=> .v (.sc (.dat (.bool (bif neg then !b else b))))
 | _,_=>G
def A85(P:Program):List Field→Nat→Option (List FK)
 | [],_=>E []
 | f :: fs,i => if f.name ≠ "_" ∧ f.offset = i then (match P.underlying f.type with
   | some (.int _)=>(A85 P fs (i+1)).map (.i:: ·)
   | some .bool=>(A85 P fs (i+1)).map (.b:: ·)
   | some .string=>(A85 P fs (i+1)).map (.s:: ·)
   | _=>G) else G
def B7y(P:Program)(t:TypeId):Option (List FK):=
 match P.underlying t with
 | some (.struct fs)=>if P.eqGuardType P.depth t=F∧P.stoodInHeld t=F then A85 P fs.toList 0 else G
 | _=>G
def unV(op:UnOp):AV→Option AV
 | .v (.sc (.dat (.bool b)))=>match op with | .not=>E (.v (.sc (.dat (.bool (!b))))) | _=>G
 | .v (.sc (.dat (.int k x)))=>match op with
  | .neg=>E (.v (.sc (.dat (.int k (k.wrap (0 - x))))))
  | .xor=>E (.v (.sc (.dat (.int k (K0 .xor k (if k.signed then -1 else k.max) x)))))
  | _=>G
 | _=>G
def ix{α:Type}(l:List α)(i:Int):Option α:=if 0≤i then l[i.toNat]? else G
def A1k(cs:List AC)(off:Nat)(agg:Bool)(n:Nat):Option AV:=
 bif agg then(if off+n≤cs.length then E (.v (.ag ((cs.drop off).take n))) else G) else(cs[off]?).map fun c=> .v (.sc c)
def A1s(σ:St)(agg:Bool)(n:Nat):AV→Option AV
 | .v (.sc (.pb id off))=>(match A6 σ.bx id with
  | some cs=>A1k cs off agg n
  | none=>G)
 | .v (.sc (.pe id i off))=>(match A6 σ.rows id with
  | some (_,es)=>(match es[i]? with
   | some d=>A1k (d.map .dat) off agg n
   | none=>G)
  | none=>G)
 | .v (.sc (.dat (.pd cs)))=>A1k (cs.map .dat) 0 agg n
 | .v (.sc (.old (.pd cs)))=>A1k (cs.map A79) 0 agg n
 | .v (.sc (.vol (.pd (.sl es::_))))=>bif agg then G else E (.v (.sc (.vol (.sl es))))
 | _=>G
def A1i(rs:Rows)(off:Nat):AV→Option AV
 | .v (.sc (.pb id o))=>E (.v (.sc (.pb id (o+off))))
 | .v (.sc (.pe id i o))=>match A6 rs id with
  | some _=>E (.v (.sc (.pe id i (o+off))))
  | none=>G
 | .v (.sc (.dat (.pd cs)))=>if off≤cs.length then E (.v (.sc (.dat (.pd (cs.drop off))))) else G
 | .v (.sc (.old (.pd cs)))=>if off≤cs.length then E (.v (.sc (.old (.pd (cs.drop off))))) else G
 | .v (.sc (.vol (.pd cs)))=>if off≤cs.length then E (.v (.sc (.vol (.pd (cs.drop off))))) else G
 | _=>G
def A8q(off:Nat)(agg:Bool)(n:Nat):AV→Option AV
 | .v (.ag cs)=>A1k cs off agg n
 | _=>G
def A3s(rs:Rows)(sz:Nat):AV→AV→Option AV
 | .v (.sc (.dat (.sl es))),.v (.sc (.dat (.int _ i)))=>(match ix es i with
  | some d=>if d.length=sz∧0<sz then E (.v (.sc (.dat (.pd d)))) else G
  | none=>G)
 | .v (.sc (.old (.sl es))),.v (.sc (.dat (.int _ i)))=>(match ix es i with
  | some d=>if d.length=sz∧0<sz then E (.v (.sc (.old (.pd d)))) else G
  | none=>G)
 | .v (.sc (.vol (.sl es))),.v (.sc (.dat (.int _ i)))=>(match ix es i with
  | some d=>if d.length=sz∧0<sz then E (.v (.sc (.vol (.pd d)))) else G
  | none=>G)
 | .v (.sc (.own id)),.v (.sc (.dat (.int _ i)))=>(match A6 rs id with
  | some (sz',es)=>(match ix es i with
   | some _=>if sz'=sz then E (.v (.sc (.pe id i.toNat 0))) else G
   | none=>G)
  | none=>G)
 | _,_=>G
def B3u(len sz:Nat):AV→AV→Option AV
 | .v (.sc (.pb id off)),.v (.sc (.dat (.int _ i)))=>if 0≤i∧i<len then E (.v (.sc (.pb id (off+i.toNat*sz)))) else G
 | _,_=>G
def C0p:AV→AV→Option AV
 | .v (.sc (.dat (.str s))),.v (.sc (.dat (.int _ i)))=>(ix s i).map fun b=> .v (.sc (.dat (.int .u8 b.toNat)))
 | _,_=>G
def B5j:AV→Option AV
 | .v (.sc (.dat (.str s)))=>E (.v (.sc (.dat (.int .i64 s.length))))
 | _=>G
def A2i:List (List D)→Option (List UInt8)
 | []=>E []
 | [.int .u8 n]::r=>(A2i r).map (UInt8.ofNat n.toNat:: ·)
 | _=>G
def A8r(rs:Rows):AV→Option AV
 | .v (.sc (.dat (.sl es)))=>(A2i es).map fun b=> .v (.sc (.dat (.str b)))
 | .v (.sc (.own id))=>match A6 rs id with
  | some (_,es)=>(A2i es).map fun b=> .v (.sc (.dat (.str b)))
  | none=>G
 | _=>G
def B0t(rs:Rows):AV→Option AV
 | .v (.sc (.dat (.sl es)))=>E (.v (.sc (.dat (.int .i64 es.length))))
 | .v (.sc (.own id))=>match A6 rs id with
  | some (_,es)=>E (.v (.sc (.dat (.int .i64 es.length))))
  | none=>G
 | .v (.sc .nil)=>E (.v (.sc (.dat (.int .i64 0))))
 | .v (.sc (.old (.sl es)))=>E (.v (.sc (.dat (.int .i64 es.length))))
 | .v (.sc (.vol (.sl es)))=>E (.v (.sc (.dat (.int .i64 es.length))))
 | _=>G
def mmV(isMax:Bool):AV→AV→Option AV
 | .v (.sc (.dat (.int k x))),.v (.sc (.dat (.int k' y)))=>if k=k' then E (.v (.sc (.dat (.int k (bif isMax then(if x<y then y else x) else(if y<x then y else x)))))) else G
 | _,_=>G
def asI:AV→Option Int
 | .v (.sc (.dat (.int _ i)))=>E i
 | _=>G
def B0v(σ:St)(lo hi mx:Option Opd)(n:Nat):Option (Nat × Nat):=
 match (match mx with | none=>E (n:Int) | some x=>asI (σ.val x)),(match hi with | none=>E (n:Int) | some x=>asI (σ.val x)),(match lo with | none=>E (0:Int) | some x=>asI (σ.val x)) with
 | some m,E h,E l=>if 0≤l∧l≤h∧h≤m∧m≤n then E (l.toNat,h.toNat) else G
 | _,_,_=>G
def B0n(σ:St)(sz:Nat)(x:AV)(lo hi mx:Option Opd):Option AV:=
 match x with
 | .v (.sc (.dat (.sl es)))=>if es.all (fun d=>d.length==sz)&&decide (0<sz) then(B0v σ lo hi mx es.length).map fun p=> .v (.sc (.dat (.sl ((es.drop p.1).take (p.2 - p.1))))) else G
 | .v (.sc (.own id))=>match A6 σ.rows id with
  | some (sz',es)=>if sz'=sz∧mx.isNone=T then(B0v σ lo hi mx es.length).map fun p=> .v (.sc (.osub id p.1 p.2)) else G
  | none=>G
 | .v (.sc .nil)=>(B0v σ lo hi mx 0).map fun _=> .v (.sc .nil)
 | _=>G
def B06(σ:St)(x:AV)(lo hi:Option Opd):Option AV:=
 match x with
 | .v (.sc (.dat (.str s)))=>(B0v σ lo hi G s.length).map fun p=> .v (.sc (.dat (.str ((s.drop p.1).take (p.2 - p.1)))))
 | _=>G
def B5d(i:Nat):AV→Option AV
 | .tup l=>(l[i]?).map .v
 | _=>G
def B5k:AV→AV→AV→Option AV
 | .v (.sc (.dat (.bool b))),x,y=>E (bif b then x else y)
 | _,_,_=>G
def A9l:AV→Option AV
 | .v (.sc (.pb id off))=>E (.v (.sc (.pb id off)))
 | .v (.sc (.dat (.pd cs)))=>E (.v (.sc (.dat (.pd cs))))
 | .v (.sc (.old (.pd cs)))=>E (.v (.sc (.old (.pd cs))))
 | .v (.sc (.vol (.pd cs)))=>E (.v (.sc (.vol (.pd cs))))
 | _=>G
def A98(f:FuncId):List AV→Option (List Nat)
 | []=>E []
 | .v (.sc (.pb id 0))::r=>(A98 f r).map (id:: ·)
 | _=>G
def A51:List AC→List (Nat × Nat × AV)→Option (List AC)
 | cs,[]=>E cs
 | cs,(off,n,.v x)::r=>if x.cells.length=n∧off+n≤cs.length then A51 (cs.take off++x.cells++cs.drop (off+n)) r else G
 | _,_=>G
def V1.toDs(x:V1):Option (List D):=A68 x.cells
def B09(sz:Nat):List (List D)→List (Nat × AV)→Option (List (List D))
 | es,[]=>E es
 | es,(i,.v x)::r=>match x.toDs with
  | some ds=>if ds.length=sz∧i<es.length then B09 sz (es.set i ds) r else G
  | none=>G
 | _,_=>G
def B1l(t:TypeId):AV→Option AV
 | .v (.sc (.dat d))=>E (.v (.sc (.dat (.ifc t d))))
 | .v (.sc (.pb id 0))=>E (.v (.sc (.ipb t id)))
 | .v (.ag cs)=>(A68 cs).map fun ds=> .v (.sc (.dat (.ifs t ds)))
 | _=>G
def B5r(t:TypeId)(zc:AC):AV→Option AV
 | .v (.sc (.dat (.ifc u d)))=>bif u==t then E (.tup [.sc (.dat d),.sc (.dat (.bool T))]) else E (.tup [.sc zc,.sc (.dat (.bool F))])
 | _=>G
def St.pure(σ:St):AOp→Option (Nat × AV)
 | .mv d x=>E (d,σ.val x)
 | .pick d c a b=>(B5k (σ.val c) (σ.val a) (σ.val b)).map (d,·)
 | .build d zs ps=>(A51 zs (ps.map fun p=>(p.1,p.2.1,σ.val p.2.2))).map fun cs=>(d,.v (.ag cs))
 | .load d x agg n=>(A1s σ agg n (σ.val x)).map (d,·)
 | .nilc d x=>(A9l (σ.val x)).map (d,·)
 | .bin d op x y=>(A4a op (σ.val x) (σ.val y)).map (d,·)
 | .beq d g x y=>(C0b g (σ.val x) (σ.val y)).map (d,·)
 | .geq d g ks x y=>(B9u g ks (σ.val x) (σ.val y)).map (d,·)
 | .un d op x=>(unV op (σ.val x)).map (d,·)
 | .conv d k x=>match σ.val x with | .v (.sc (.dat (.int _ n)))=>E (d,.v (.sc (.dat (.int k (k.wrap n))))) | _=>G
 | .slc d sz x lo hi mx=>(B0n σ sz (σ.val x) lo hi mx).map (d,·)
 | .sslc d x lo hi=>(B06 σ (σ.val x) lo hi).map (d,·)
 | .faddr d x off=>(A1i σ.rows off (σ.val x)).map (d,·)
 | .field d x off agg n=>(A8q off agg n (σ.val x)).map (d,·)
 | .iaddr d x i sz=>(A3s σ.rows sz (σ.val x) (σ.val i)).map (d,·)
 | .aaddr d x i len sz=>(B3u len sz (σ.val x) (σ.val i)).map (d,·)
 | .idx d x i=>(C0p (σ.val x) (σ.val i)).map (d,·)
 | .extr d x i=>(B5d i (σ.val x)).map (d,·)
 | .len d x=>(B0t σ.rows (σ.val x)).map (d,·)
 | .slen d x=>(B5j (σ.val x)).map (d,·)
 | .sconv d x=>(A8r σ.rows (σ.val x)).map (d,·)
 | .mm d m x y=>(mmV m (σ.val x) (σ.val y)).map (d,·)
 | .mkf d f caps=>(A98 f (caps.map σ.val)).map fun ids=>(d,.v (.sc (.clo f ids)))
 | .zsl d=>E (d,.v (.sc .z))
 | .mkif d t x=>(B1l t (σ.val x)).map (d,·)
 | .tass d x t zc=>(B5r t zc (σ.val x)).map (d,·)
 | _=>G
def appSrc(rs:Rows):AV→Option (List (List D))
 | .v (.sc c)=>match toD0 rs c with
  | some (.sl es)=>E es
  | _=>G
 | _=>G
def zapV(rs:Rows)(d sz bytes:Nat):AV→AV→Option (Nat × Nat × List (List D))
 | .v (.sc .z),y=>match appSrc rs y with
  | some es=>if es.all (fun r=>r.length==sz)=T∧es.length*bytes≤140737488355328∧es.length≤4611686018427387904 then E (d,sz,es) else G
  | none=>G
 | _,_=>G
inductive Mk where
 | box (d:Nat) (cs:List AC)
 | row (d sz:Nat) (es:List (List D))
def St.made(σ:St):AOp→Option Mk
 | .box d x=>match σ.val x with
  | .v y=>E (.box d y.cells)
  | _=>G
 | .alloc d cs=>E (.box d cs)
 | .bslice d sz zs len ps=>(match B09 sz (List.replicate len zs) (ps.map fun p=>(p.1,σ.val p.2)) with
  | some es=>if zs.length=sz then E (.row d sz es) else G
  | none=>G)
 | .mksl d sz bytes zs len cap=>match asI (σ.val len),asI (σ.val cap) with
  | some l,E c=>if 0≤l∧l≤c∧c*bytes≤140737488355328∧c≤4611686018427387904∧zs.length=sz then E (.row d sz (List.replicate l.toNat zs)) else G
  | _,_=>G
 | .zap d sz bytes x y=>(zapV σ.rows d sz bytes (σ.val x) (σ.val y)).map fun p=> .row p.1 p.2.1 p.2.2
 | _=>G
def B2v(cs:List D)(off:Nat)(ds:List D):List D:=cs.take off++ds++cs.drop (off+ds.length)
def A2c(cs:List AC)(off:Nat)(ds:List AC):List AC:=cs.take off++ds++cs.drop (off+ds.length)
def St.storeV(σ:St)(n:Nat):AV→AV→Option St
 | .v (.sc (.pb id off)),.v y=>(match A6 σ.bx id with
  | some cs=>if y.cells.length=n∧off+n≤cs.length then E {σ with bx:=put σ.bx id (A2c cs off y.cells)} else G
  | none=>G)
 | .v (.sc (.pe id i off)),.v y=>(match A6 σ.rows id with
  | some (sz,es)=>(match es[i]?,y.toDs with
   | some d,E ds=>if ds.length=n∧off+n≤d.length then E {σ with rows:=put σ.rows id (sz,es.set i (B2v d off ds))} else G
   | _,_=>G)
  | none=>G)
 | .v (.sc (.vol (.pd (c::_)))),.v (.sc (.dat d))=>bif n==1&&B5c c d then E σ else G
 | _,_=>G
def St.appV(σ:St)(d sz bytes:Nat):AV→AV→Option St
 | .v (.sc (.own id)),y=>if id / 99999999999=0 then(match A6 σ.rows id,appSrc σ.rows y with
  | some (sz',es),E es'=>if sz'=sz∧es'.all (fun r=>r.length==sz)=T∧(es.length+es'.length)*bytes≤140737488355328∧es.length+es'.length≤4611686018427387904 then
    E {((σ.map (AC.kill id)).set d (.v (.sc (.own id)))) with rows:=put σ.rows id (sz,es++es')} else G
  | _,_=>G) else G
 | _,_=>G
def St.make(σ:St):Mk→Option St
 | .box d cs=>if σ.fresh d&&cs.all (fun c=> !c.uses d) then E {(σ.set d (.v (.sc (.pb d 0)))) with bx:=put σ.bx d cs} else G
 | .row d sz es=>if σ.fresh d then E {(σ.set d (.v (.sc (.own (d*64))))) with rows:=put σ.rows (d*64) (sz,es)} else G
def A3b{α:Type}(l:List (Nat × α)):List Nat→List (Nat × α)
 | []=> []
 | k::ks=>match A6 l k with
  | some v=>(k,v)::A3b l ks
  | none=>A3b l ks
def St.kept(σ:St)(ks bs rs:List Nat):St:=⟨A3b σ.env ks,A3b σ.bx bs,A3b σ.rows rs⟩
def St.step(σ:St)(o:AOp):Option St:=
 match o with
 | .store x y n=>σ.storeV n (σ.val x) (σ.val y)
 | .app d sz bytes x y=>σ.appV d sz bytes (σ.val x) (σ.val y)
 | .drop ks=>E (σ.drop ks)
 | .forget gs=>E {σ with bx:=σ.bx.filter fun p=> !gs.contains p.1,rows:=σ.rows.filter fun p=> !gs.contains (p.1 / 64)}
 | .keep ks bs rs=>E (σ.kept ks bs rs)
 | .own d j id sz=>if σ.has id || !(id / 99999999999==0) then G else match σ.get d with
  | .v (.sc .nil)=>if j=0 then E {(σ.set d (.v (.sc (.own id)))) with rows:=put σ.rows id (sz,[])} else G
  | .v (.ag cs)=>match cs[j]? with
   | some .nil=>E {(σ.set d (.v (.ag (cs.set j (.own id))))) with rows:=put σ.rows id (sz,[])}
   | _=>G
  | _=>G
 | .ownb b j id sz=>if σ.has id || !(id / 99999999999==0) then G else match A6 σ.bx b with
  | some cs=>match cs[j]? with
   | some .nil=>E {σ with bx:=put σ.bx b (cs.set j (.own id)),rows:=put σ.rows id (sz,[])}
   | _=>G
  | none=>G
 | .cut d=>match σ.get d with
  | .v (.sc (.osub id 0 h))=>if id / 99999999999=0 then(match A6 σ.rows id with
   | some (sz,es)=>if h≤es.length then E {((σ.map (AC.kill id)).set d (.v (.sc (.own id)))) with rows:=put σ.rows id (sz,es.take h)} else G
   | none=>G) else G
  | _=>G
 | .ren a b=>if σ.has b || !(a / 99999999999==0&&b / 99999999999==0) then G else match A6 σ.rows a with
  | some r=>E {(σ.map (AC.ren a b)) with rows:=put (erase σ.rows [a]) b r}
  | none=>G
 | .frz id=>if !(id / 99999999999==0) then G else match A6 σ.rows id with
  | some (_,es)=>E {(σ.map (AC.frz id es)) with rows:=erase σ.rows [id]}
  | none=>G
 | .frzb id=>if !(id / 99999999999==0) then G else match A6 σ.bx id with
  | some cs=>match A68 cs with
   | some ds=>E (({σ with bx:=erase σ.bx [id]}:St).map (AC.frzb id ds))
   | none=>G
  | none=>G
 | o=>match σ.pure o with
  | some (d,v)=>E (σ.set d v)
  | none=>match σ.made o with
   | some m=>σ.make m
   | none=>G
def B0j:Value→AC
 | .int k n=>if k.min≤n∧n≤k.max then .dat (.int k n) else .undef
 | .bool b=> .dat (.bool b)
 | .string s=>if s.data.toList.length≤4096 then .dat (.str s.data.toList) else .undef
 | .slice G 0 0=> .nil
 | .nilIface=> .dat .noi
 | _=> .undef
def A57(l:List Value):Option (List AC):=if l.all (·.oneCell') then E (l.map B0j) else G
def C40:Value→AV
 | .agg cs=>match A57 cs.toList with
  | some l=> .v (.ag l)
  | none=> .undef
 | .tuple _=> .undef
 | v=> .v (.sc (B0j v))
def M0:Operand→Option Opd
 | .tmp t=>E (.t t)
 | .const v=>E (.c (C40 v))
 | .func f=>E (.c (.v (.sc (.dat (.clo f [])))))
 | .global _=>G
def A1e:List Operand→Option (List Opd)
 | []=>E []
 | x::xs=>match M0 x,A1e xs with
  | some y,E ys=>E (y::ys)
  | _,_=>G
def C0e:Option Operand→Option (Option Opd)
 | none=>E G
 | some x=>(M0 x).map E
def B1q(P:Program)(t:TypeId):Option (Bool × Nat):=
 match P.underlying t,P.info? t with
 | some (.struct _),E i=>E (T,i.size)
 | some (.array _ _),E i=>E (T,i.size)
 | some _,E i=>E (F,i.size)
 | _,_=>G
def C3t(P:Program)(t:TypeId):Option TypeInfo:=
 match P.underlying t with
 | some (.slice e)=>P.info? e
 | _=>G
def B2q(P:Program)(t:TypeId):Option (TypeInfo × Value):=
 match P.info? t with
 | some i=>i.zero.map fun z=>(i,z)
 | none=>G
def B84(P:Program)(t:TypeId):Option (TypeInfo × Value):=
 match P.underlying t with
 | some (.slice e)=>B2q P e
 | _=>G
def B3v(places:List (Nat × Nat)):List (Nat × Operand)→Option (List (Nat × Nat × Opd))
 | []=>E []
 | (i,x)::r=>match places[i]?,M0 x,B3v places r with
  | some p,E y,E ys=>E ((p.1,p.2,y)::ys)
  | _,_,_=>G
def B4k(sz:Nat):List (Nat × Operand)→Option (List (Nat × Nat × Opd))
 | []=>E []
 | (i,x)::r=>match M0 x,B4k sz r with
  | some y,E ys=>E ((i*sz,sz,y)::ys)
  | _,_=>G
def B15:List (Nat × Operand)→Option (List (Nat × Opd))
 | []=>E []
 | (i,x)::r=>match M0 x,B15 r with
  | some y,E ys=>E ((i,y)::ys)
  | _,_=>G
def B5(P:Program)(d:Nat)(o:Oper):Option AOp:=
 match o.op with
 | .move x | .assign x=>(M0 x).map (.mv d)
 | .pick c a b=>match M0 c,M0 a,M0 b with
  | some c,E a,E b=>E (.pick d c a b)
  | _,_,_=>G
 | .alloc elem=>match B2q P elem with
  | some (_,z)=>(A57 z.cells.toList).map (.alloc d)
  | none=>G
 | .box _ x=>(M0 x).map (.box d)
 | .build t ps=>match P.underlying t,B2q P t with
  | some (.struct fs),E (_,z)=>match fs.toList.mapM (fun f=>(P.info? f.type).map fun i=>(f.offset,i.size)) with
   | some places=>match A57 z.cells.toList,B3v places ps.toList with
    | some zs,E qs=>E (.build d zs qs)
    | _,_=>G
   | none=>G
  | some (.array _ e),E (_,z)=>match P.info? e with
   | some ie=>match A57 z.cells.toList,B4k ie.size ps.toList with
    | some zs,E qs=>E (.build d zs qs)
    | _,_=>G
   | none=>G
  | _,_=>G
 | .buildSlice t len ps=>match B84 P t with
  | some (i,z)=>if z.cells.size=i.size∧0<i.size∧len*i.size≤16777216 then
    (match (A57 z.cells.toList).bind A68,B15 ps.toList with
    | some zs,E qs=>E (.bslice d i.size zs len qs)
    | _,_=>G) else G
  | none=>G
 | .load t x=>match B1q P t,M0 x with
  | some (g,n),E y=>if g∨n=1 then E (.load d y g n) else G
  | _,_=>G
 | .nilCheck x=>(M0 x).map (.nilc d)
 | .binOp op t x y _=>match M0 x,M0 y with
  | some x,E y=>(match P.underlying t,op with
   | some .bool,.eql=>E (.beq d F x y)
   | some .bool,.neq=>E (.beq d T x y)
   | some (.struct _),.eql=>(B7y P t).map fun ks=> .geq d F ks x y
   | some (.struct _),.neq=>(B7y P t).map fun ks=> .geq d T ks x y
   | _,_=>E (.bin d op x y))
  | _,_=>G
 | .unOp op _ x=>(M0 x).map (.un d op)
 | .convert s t x=>match P.underlying s,P.underlying t,M0 x with
  | some _,E (.int k),E y=>E (.conv d k y)
  | some (.slice e),E .string,E y=>match P.underlying e with | some (.int .u8)=>E (.sconv d y) | _=>G
  | _,_,_=>G
 | .makeSlice t l c=>match B84 P t with
  | some (i,z)=>if z.cells.size=i.size∧0<i.size∧0<i.bytes then
    (match (A57 z.cells.toList).bind A68,M0 l,M0 c with
    | some zs,E l,E c=>E (.mksl d i.size i.bytes zs l c)
    | _,_,_=>G) else G
  | none=>G
 | .slice t x lo hi mx=>match M0 x,C0e lo,C0e hi,C0e mx with
  | some y,E l,E h,E m=>if h=G∧m≠G then G else match P.underlying t with
   | some .string=>if mx.isNone then E (.sslc d y l h) else G
   | some (.slice e)=>(P.info? e).map fun i=> .slc d i.size y l h m
   | _=>G
  | _,_,_,_=>G
 | .fieldAddr s x f=>match P.underlying s,M0 x with
  | some (.struct fs),E y=>match fs[f]? with
   | some fd=>match P.info? fd.type with
    | some i=>if i.size=0 then G else E (.faddr d y fd.offset)
    | none=>G
   | none=>G
  | _,_=>G
 | .field t x f=>match P.underlying t,M0 x with
  | some (.struct fs),E y=>match fs[f]? with
   | some fd=>match B1q P fd.type with
    | some (g,n)=>if g∨n=1 then E (.field d y fd.offset g n) else G
    | none=>G
   | none=>G
  | _,_=>G
 | .indexAddr t x i=>match C3t P t,M0 x,M0 i with
  | some inf,E y,E j=>E (.iaddr d y j inf.size)
  | none,E y,E j=>(match P.underlying t with
   | some (.array len e)=>match P.info? e with
    | some ie=>match i with
     | .const (.int _ n)=>if 0≤n∧n<len∧ie.size≠0 then E (.faddr d y (n.toNat*ie.size)) else G
     | _=>E (.aaddr d y j len ie.size)
    | none=>G
   | _=>G)
  | _,_,_=>G
 | .index t x i=>match P.underlying t,M0 x,M0 i with
  | some .string,E y,E j=>E (.idx d y j)
  | some (.array len e),E y,E _=>(match B1q P e,i with
   | some (g,m),.const (.int _ n)=>if 0≤n∧n<len∧(g=T∨m=1) then E (.field d y (n.toNat*m) g m) else G
   | _,_=>G)
  | _,_,_=>G
 | .extract x i=>(M0 x).map fun y=> .extr d y i
 | .makeInterface t x=>match P.underlying t,M0 x with
  | some (.interface _),_=>G
  | some _,E y=>E (.mkif d t y)
  | _,_=>G
 | .typeAssert x _ t ok=>match P.underlying t,B2q P t,M0 x with
  | some (.interface _),_,_=>G
  | some _,E (_,z),E y=>if z.oneCell'=T∧ok=T then E (.tass d y t (B0j z)) else G
  | _,_,_=>G
 | .makeFunc (.func f) first caps=>if first.isEmpty then(A1e caps.toList).map (.mkf d f) else G
 | .call {callee:= .builtin .len,args,argTypes}=>match args.toList,argTypes.toList with
  | [x],[t]=>match P.underlying t,M0 x with
   | some .string,E y=>E (.slen d y)
   | some (.slice _),E y=>E (.len d y)
   | _,_=>G
  | _,_=>G
 | .call {callee:= .builtin .append,args,argTypes}=>match args.toList,argTypes.toList with
  | [x,y],[t,t']=>match B84 P t,P.underlying t',M0 x,M0 y with
   | some (i,z),E (.slice _),E a,E b=>if z.cells.size=i.size∧0<i.size∧0<i.bytes then E (.app d i.size i.bytes a b) else G
   | _,_,_,_=>G
  | _,_=>G
 | .call {callee:= .builtin .max,args,.. }=>match args.toList with
  | [x,y]=>match M0 x,M0 y with
   | some a,E b=>E (.mm d T a b)
   | _,_=>G
  | _=>G
 | .call {callee:= .builtin .min,args,.. }=>match args.toList with
  | [x,y]=>match M0 x,M0 y with
   | some a,E b=>E (.mm d F a b)
   | _,_=>G
  | _=>G
 | .call {callee:= .value (.func f),args,.. }=>match P.funcs[f]? with
  | some fn => if fn.body.isSome ∧ (fn.name == "runtime.NumGoroutine") = false then (A1e args.toList).map (.call d f) else none
  | none=>G
 | .call {callee:= .value (.tmp t),args,.. }=>(A1e args.toList).map (.callv d (.t t))
 | _=>G
def A17(P:Program)(nt:Nat)(o:Oper):Option AOp:=
 match o.dst with
 | some d=>if d<nt then B5 P d o else G
 | none=>match o.op with
  | .store t a x=>match P.info? t,M0 a,M0 x with
   | some i,E a,E x=>E (.store a x i.size)
   | _,_,_=>G
  | _=>G
end Go.Vi
