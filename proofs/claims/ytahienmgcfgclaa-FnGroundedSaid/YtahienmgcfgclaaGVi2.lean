/-
  The value level: operations, what they do to an abstract state, and how an operation of a program becomes one. No condition.
-/
import Derived.Test.YtahienmgcfgclaaGVi1
namespace Go.Vi
set_option linter.unusedSimpArgs false
set_option linter.unusedVariables false
inductive Opd where
 | t (n : Nat)
 | c (v : AV)
 deriving Inhabited
inductive FK where
 | i | b | s
inductive AOp where
 | mv (d : Nat) (x : Opd)
 | pick (d : Nat) (c a b : Opd)
 | box (d : Nat) (x : Opd)
 | alloc (d : Nat) (cs : List AC)
 | build (d : Nat) (zs : List AC) (parts : List (Nat × Nat × Opd))
 | bslice (d sz : Nat) (zs : List D) (len : Nat) (parts : List (Nat × Opd))
 | load (d : Nat) (x : Opd) (agg : Bool) (n : Nat)
 | store (x y : Opd) (n : Nat)
 | nilc (d : Nat) (x : Opd)
 | bin (d : Nat) (op : BinOp) (x y : Opd)
 | beq (d : Nat) (neg : Bool) (x y : Opd)
 | geq (d : Nat) (neg : Bool) (ks : List FK) (x y : Opd)
 | un (d : Nat) (op : UnOp) (x : Opd)
 | conv (d : Nat) (k : IntKind) (x : Opd)
 | mksl (d sz bytes : Nat) (zs : List D) (len cap : Opd)
 | slc (d sz : Nat) (x : Opd) (lo hi mx : Option Opd)
 | sslc (d : Nat) (x : Opd) (lo hi : Option Opd)
 | faddr (d : Nat) (x : Opd) (off : Nat)
 | field (d : Nat) (x : Opd) (off : Nat) (agg : Bool) (n : Nat)
 | iaddr (d : Nat) (x i : Opd) (sz : Nat)
 | aaddr (d : Nat) (x i : Opd) (len sz : Nat)
 | idx (d : Nat) (x i : Opd)
 | extr (d : Nat) (x : Opd) (i : Nat)
 | len (d : Nat) (x : Opd)
 | slen (d : Nat) (x : Opd)
 | sconv (d : Nat) (x : Opd)
 | app (d sz bytes : Nat) (x y : Opd)
 | mm (d : Nat) (isMax : Bool) (x y : Opd)
 | mkf (d : Nat) (f : FuncId) (caps : List Opd)
 | call (d : Nat) (f : FuncId) (args : List Opd)
 | callv (d : Nat) (x : Opd) (args : List Opd)
 | zsl (d : Nat)
 | zap (d sz bytes : Nat) (x y : Opd)
 | mkif (d : Nat) (t : TypeId) (x : Opd)
 | tass (d : Nat) (x : Opd) (t : TypeId) (zc : AC)
 | drop (ks : List Nat)
 | own (d j id sz : Nat)
 | ownb (b j id sz : Nat)
 | ren (a b : Nat)
 | frz (id : Nat)
 | frzb (id : Nat)
 | forget (gs : List Nat)
 | keep (ks bs rs : List Nat)
 | cut (d : Nat)
 deriving Inhabited
def St.val (σ : St) : Opd → AV
 | .t n => σ.get n
 | .c v => v
def AC.kill (id : Nat) : AC → AC
 | .own i => bif i == id then .undef else .own i
 | .osub i lo hi => bif i == id then .undef else .osub i lo hi
 | .pe i x o => bif i == id then .undef else .pe i x o
 | c => c
def AC.ren (a b : Nat) : AC → AC
 | .own i => .own (bif i == a then b else i)
 | .osub i lo hi => .osub (bif i == a then b else i) lo hi
 | .pe i x o => .pe (bif i == a then b else i) x o
 | c => c
def AC.frz (id : Nat) (es : List (List D)) : AC → AC
 | .own i => bif i == id then .dat (.sl es) else .own i
 | .osub i lo hi => bif i == id then .undef else .osub i lo hi
 | .pe i x o => bif i == id then .undef else .pe i x o
 | c => c
def AC.frzb (id : Nat) (ds : List D) : AC → AC
 | .pb i off => bif i == id then .dat (.pd (ds.drop off)) else .pb i off
 | .clo f ids => bif ids.contains id then .undef else .clo f ids
 | .ipb t i => bif i == id then .undef else .ipb t i
 | c => c
def AC.uses (g : Nat) : AC → Bool
 | .own i | .osub i _ _ | .pe i _ _ => i / 64 == g
 | .pb i _ => i == g
 | .ipb _ i => i == g
 | .clo _ ids => ids.any (· == g)
 | _ => false
def V1.map (f : AC → AC) : V1 → V1
 | .sc c => .sc (f c)
 | .ag cs => .ag (cs.map f)
def AV.map (f : AC → AC) : AV → AV
 | .undef => .undef
 | .no => .no
 | .v x => .v (x.map f)
 | .tup l => .tup (l.map (V1.map f))
def V1.cells : V1 → List AC
 | .sc c => [c]
 | .ag cs => cs
def AV.cells : AV → List AC
 | .undef | .no => []
 | .v x => x.cells
 | .tup l => l.flatMap V1.cells
def St.map (f : AC → AC) (σ : St) : St := { σ with env := σ.env.map fun (k,v) => (k,v.map f),bx := σ.bx.map fun (k,cs) => (k,cs.map f) }
def St.fresh (σ : St) (g : Nat) : Bool :=
 decide (g < 1073741824) && (σ.env.all (fun p => p.2.cells.all fun c => !c.uses g) && σ.bx.all (fun p => p.1 != g && p.2.all fun c => !c.uses g))
def AC.has (id : Nat) : AC → Bool
 | .own i | .osub i _ _ | .pe i _ _ => i == id
 | _ => false
def St.has (σ : St) (id : Nat) : Bool := (σ.env.any fun p => p.2.cells.any (·.has id)) || σ.bx.any fun p => p.2.any (·.has id)
def erase {α : Type} (l : List (Nat × α)) (ks : List Nat) : List (Nat × α) := l.filter fun p => !ks.contains p.1
def St.drop (σ : St) (ks : List Nat) : St := { σ with env := erase σ.env ks }
def toD0 (rs : Rows) : AC → Option D
 | .dat d => some d
 | .own id => match A2 rs id with
  | some (_,es) => some (.sl es)
  | none => none
 | .osub id lo hi => match A2 rs id with
  | some (_,es) => some (.sl ((es.drop lo).take (hi - lo)))
  | none => none
 | .nil => some (.sl [])
 | _ => none
def toD1 (rs : Rows) : AC → Option D
 | .old d => some d
 | c => toD0 rs c
def D.fl : D → Bool
 | .int .. | .bool _ | .str _ => true
 | _ => false
def A3r (d : D) : AC := bif d.fl then .dat d else .old d
def A81 : D → D → Bool
 | .int k _,.int k' _ => k == k'
 | .bool _,.bool _ => true
 | .str _,.str _ => true
 | _,_ => false
def toD0s (rs : Rows) : List AC → Option (List D)
 | [] => some []
 | c :: cs => match toD1 rs c,toD0s rs cs with
  | some d,some ds => some (d :: ds)
  | _,_ => none
def toI : AC → Option D
 | .dat d => some d
 | .nil => some (.sl [])
 | _ => none
def A2s : List AC → Option (List D)
 | [] => some []
 | c :: cs => match toI c,A2s cs with
  | some d,some ds => some (d :: ds)
  | _,_ => none
def St.pdOf (σ : St) (id off : Nat) : Option D := match A2 σ.bx id with
 | some cs => (toD0s σ.rows (cs.drop off)).map .pd
 | none => none
def St.pdsOf (σ : St) : List Nat → Option (List D)
 | [] => some []
 | i :: is => match σ.pdOf i 0,St.pdsOf σ is with
  | some d,some ds => some (d :: ds)
  | _,_ => none
def St.toD (σ : St) : AC → Option D
 | .pb id off => σ.pdOf id off
 | .pe id idx off => match A2 σ.rows id with
  | some (_,es) => (es[idx]?).map fun d => .pd (d.drop off)
  | none => none
 | .clo f ids => (σ.pdsOf ids).map (.clo f)
 | c => toD1 σ.rows c
inductive DV where
 | sc (d : D)
 | ag (ds : List D)
def St.toDV (σ : St) : AV → Option DV
 | .v (.sc c) => (σ.toD c).map .sc
 | .v (.ag cs) => (toD0s σ.rows cs).map .ag
 | _ => none
def St.toDVs (σ : St) : List Opd → Option (List DV)
 | [] => some []
 | x :: xs => match σ.toDV (σ.val x),σ.toDVs xs with
  | some d,some ds => some (d :: ds)
  | _,_ => none
inductive RC where
 | v (d : D)
 | o (sz : Nat) (es : List (List D))
inductive R1 where
 | sc (c : RC)
 | ag (cs : List RC)
def RC.inst (g j : Nat) : RC → AC
 | .v d => .dat d
 | .o _ _ => .own (g * 64 + j)
def T4 (g : Nat) : Nat → List RC → List AC
 | _,[] => []
 | j,c :: cs => c.inst g j :: T4 g (j + 1) cs
def R1.inst (g j : Nat) : R1 → V1
 | .sc c => .sc (c.inst g j)
 | .ag cs => .ag (T4 g j cs)
def R1.width : R1 → Nat
 | .sc _ => 1
 | .ag cs => cs.length
def S6 (g : Nat) : Nat → List R1 → List V1
 | _,[] => []
 | j,r :: rs => r.inst g j :: S6 g (j + r.width) rs
def G1 (g : Nat) : Nat → List RC → Rows
 | _,[] => []
 | j,.v _ :: cs => G1 g (j + 1) cs
 | j,.o sz es :: cs => (g * 64 + j,sz,es) :: G1 g (j + 1) cs
def R1.cells : R1 → List RC
 | .sc c => [c]
 | .ag cs => cs
def M6 (g : Nat) (rs : List R1) : Rows := G1 g 0 (rs.flatMap R1.cells)
def I4 (g : Nat) : List R1 → AV
 | [r] => .v (r.inst g 0)
 | rs => .tup (S6 g 0 rs)
def A0k (op : BinOp) (k : IntKind) (x y : Int) : Int :=
 match op with
 | .and => k.wrap (BitVec.ofInt k.bits x &&& BitVec.ofInt k.bits y).toNat
 | .or => k.wrap (BitVec.ofInt k.bits x ||| BitVec.ofInt k.bits y).toNat
 | .xor => k.wrap (BitVec.ofInt k.bits x ^^^ BitVec.ofInt k.bits y).toNat
 | _ => k.wrap (BitVec.ofInt k.bits x &&& ~~~ BitVec.ofInt k.bits y).toNat
def L3 (op : BinOp) (k : IntKind) (x y : Int) : Option D :=
 match op with
 | .add => some (.int k (k.wrap (x + y)))
 | .sub => some (.int k (k.wrap (x - y)))
 | .mul => some (.int k (k.wrap (x * y)))
 | .quo => if y = 0 then none else some (.int k (k.wrap (x.tdiv y)))
 | .rem => if y = 0 then none else some (.int k (k.wrap (x.tmod y)))
 | .and | .or | .xor | .andNot => some (.int k (A0k op k x y))
 | .shl => if y < 0 then none else some (.int k (k.wrap (x * 2 ^ min y.toNat k.bits)))
 | .shr => if y < 0 then none else some (.int k (k.wrap (x.fdiv (2 ^ min y.toNat k.bits))))
 | .eql => some (.bool (x == y))
 | .neq => some (.bool (x != y))
 | .lss => some (.bool (decide (x < y)))
 | .leq => some (.bool (decide (x ≤ y)))
 | .gtr => some (.bool (decide (y < x)))
 | .geq => some (.bool (decide (y ≤ x)))
def A8k (op : BinOp) (x y : List UInt8) : Option D :=
 match op with
 | .add => if x.length + y.length ≤ 4611686018427387904 then some (.str (x ++ y)) else none
 | .eql => some (.bool (x == y))
 | .neq => some (.bool (!(x == y)))
 | _ => none
def A26 (op : BinOp) : AV → AV → Option AV
 | .v (.sc (.dat (.int k x))),.v (.sc (.dat (.int k' y))) => if k = k' ∨ op = .shl ∨ op = .shr then (L3 op k x y).map fun d => .v (.sc (.dat d)) else none
 | .v (.sc (.dat (.str x))),.v (.sc (.dat (.str y))) => (A8k op x y).map fun d => .v (.sc (.dat d))
 | _,_ => none
def B2b (neg : Bool) : AV → AV → Option AV
 | .v (.sc (.dat (.bool x))),.v (.sc (.dat (.bool y))) => some (.v (.sc (.dat (.bool (bif neg then !(x == y) else x == y)))))
 | _,_ => none
def S3 : List FK → List AC → List AC → Option Bool
 | [],[],[] => some true
 | .i :: ks,.dat (.int k x) :: cs,.dat (.int k' y) :: ds => if k = k' then (S3 ks cs ds).map fun b => (x == y) && b else none
 | .b :: ks,.dat (.bool x) :: cs,.dat (.bool y) :: ds => (S3 ks cs ds).map fun b => (x == y) && b
 | .s :: ks,.dat (.str x) :: cs,.dat (.str y) :: ds => (S3 ks cs ds).map fun b => (x == y) && b
 | _,_,_ => none
def B2l (neg : Bool) (ks : List FK) : AV → AV → Option AV
 | .v (.ag cs),.v (.ag ds) => (S3 ks cs ds).map fun b => .v (.sc (.dat (.bool (bif neg then !b else b))))
 | _,_ => none
def A4c (P : Program) : List Field → Nat → Option (List FK)
 | [],_ => some []
 | f :: fs,i => if f.name ≠ "_" ∧ f.offset = i then (match P.underlying f.type with
   | some (.int _) => (A4c P fs (i + 1)).map (.i :: ·)
   | some .bool => (A4c P fs (i + 1)).map (.b :: ·)
   | some .string => (A4c P fs (i + 1)).map (.s :: ·)
   | _ => none) else none
def B1u (P : Program) (t : TypeId) : Option (List FK) :=
 match P.underlying t with
 | some (.struct fs) => if P.eqGuardType P.depth t = false ∧ P.stoodInHeld t = false then A4c P fs.toList 0 else none
 | _ => none
def unV (op : UnOp) : AV → Option AV
 | .v (.sc (.dat (.bool b))) => match op with | .not => some (.v (.sc (.dat (.bool (!b))))) | _ => none
 | .v (.sc (.dat (.int k x))) => match op with
  | .neg => some (.v (.sc (.dat (.int k (k.wrap (0 - x))))))
  | .xor => some (.v (.sc (.dat (.int k (A0k .xor k (if k.signed then -1 else k.max) x)))))
  | _ => none
 | _ => none
def ix {α : Type} (l : List α) (i : Int) : Option α := if 0 ≤ i then l[i.toNat]? else none
def T9 (cs : List AC) (off : Nat) (agg : Bool) (n : Nat) : Option AV :=
 bif agg then (if off + n ≤ cs.length then some (.v (.ag ((cs.drop off).take n))) else none) else (cs[off]?).map fun c => .v (.sc c)
def U5 (σ : St) (agg : Bool) (n : Nat) : AV → Option AV
 | .v (.sc (.pb id off)) => (match A2 σ.bx id with
  | some cs => T9 cs off agg n
  | none => none)
 | .v (.sc (.pe id i off)) => (match A2 σ.rows id with
  | some (_,es) => (match es[i]? with
   | some d => T9 (d.map .dat) off agg n
   | none => none)
  | none => none)
 | .v (.sc (.dat (.pd cs))) => T9 (cs.map .dat) 0 agg n
 | .v (.sc (.old (.pd cs))) => T9 (cs.map A3r) 0 agg n
 | .v (.sc (.vol (.pd (.sl es :: _)))) => bif agg then none else some (.v (.sc (.vol (.sl es))))
 | _ => none
def U1 (rs : Rows) (off : Nat) : AV → Option AV
 | .v (.sc (.pb id o)) => some (.v (.sc (.pb id (o + off))))
 | .v (.sc (.pe id i o)) => match A2 rs id with
  | some _ => some (.v (.sc (.pe id i (o + off))))
  | none => none
 | .v (.sc (.dat (.pd cs))) => if off ≤ cs.length then some (.v (.sc (.dat (.pd (cs.drop off))))) else none
 | .v (.sc (.old (.pd cs))) => if off ≤ cs.length then some (.v (.sc (.old (.pd (cs.drop off))))) else none
 | .v (.sc (.vol (.pd cs))) => if off ≤ cs.length then some (.v (.sc (.vol (.pd (cs.drop off))))) else none
 | _ => none
def A4d (off : Nat) (agg : Bool) (n : Nat) : AV → Option AV
 | .v (.ag cs) => T9 cs off agg n
 | _ => none
def Z2 (rs : Rows) (sz : Nat) : AV → AV → Option AV
 | .v (.sc (.dat (.sl es))),.v (.sc (.dat (.int _ i))) => (match ix es i with
  | some d => if d.length = sz ∧ 0 < sz then some (.v (.sc (.dat (.pd d)))) else none
  | none => none)
 | .v (.sc (.old (.sl es))),.v (.sc (.dat (.int _ i))) => (match ix es i with
  | some d => if d.length = sz ∧ 0 < sz then some (.v (.sc (.old (.pd d)))) else none
  | none => none)
 | .v (.sc (.vol (.sl es))),.v (.sc (.dat (.int _ i))) => (match ix es i with
  | some d => if d.length = sz ∧ 0 < sz then some (.v (.sc (.vol (.pd d)))) else none
  | none => none)
 | .v (.sc (.own id)),.v (.sc (.dat (.int _ i))) => (match A2 rs id with
  | some (sz',es) => (match ix es i with
   | some _ => if sz' = sz then some (.v (.sc (.pe id i.toNat 0))) else none
   | none => none)
  | none => none)
 | _,_ => none
def A76 (len sz : Nat) : AV → AV → Option AV
 | .v (.sc (.pb id off)),.v (.sc (.dat (.int _ i))) => if 0 ≤ i ∧ i < len then some (.v (.sc (.pb id (off + i.toNat * sz)))) else none
 | _,_ => none
def B2u : AV → AV → Option AV
 | .v (.sc (.dat (.str s))),.v (.sc (.dat (.int _ i))) => (ix s i).map fun b => .v (.sc (.dat (.int .u8 b.toNat)))
 | _,_ => none
def A88 : AV → Option AV
 | .v (.sc (.dat (.str s))) => some (.v (.sc (.dat (.int .i64 s.length))))
 | _ => none
def X0 : List (List D) → Option (List UInt8)
 | [] => some []
 | [.int .u8 n] :: r => (X0 r).map (UInt8.ofNat n.toNat :: ·)
 | _ => none
def A38 (rs : Rows) : AV → Option AV
 | .v (.sc (.dat (.sl es))) => (X0 es).map fun b => .v (.sc (.dat (.str b)))
 | .v (.sc (.own id)) => match A2 rs id with
  | some (_,es) => (X0 es).map fun b => .v (.sc (.dat (.str b)))
  | none => none
 | _ => none
def A5b (rs : Rows) : AV → Option AV
 | .v (.sc (.dat (.sl es))) => some (.v (.sc (.dat (.int .i64 es.length))))
 | .v (.sc (.own id)) => match A2 rs id with
  | some (_,es) => some (.v (.sc (.dat (.int .i64 es.length))))
  | none => none
 | .v (.sc .nil) => some (.v (.sc (.dat (.int .i64 0))))
 | .v (.sc (.old (.sl es))) => some (.v (.sc (.dat (.int .i64 es.length))))
 | .v (.sc (.vol (.sl es))) => some (.v (.sc (.dat (.int .i64 es.length))))
 | _ => none
def mmV (isMax : Bool) : AV → AV → Option AV
 | .v (.sc (.dat (.int k x))),.v (.sc (.dat (.int k' y))) => if k = k' then some (.v (.sc (.dat (.int k (bif isMax then (if x < y then y else x) else (if y < x then y else x)))))) else none
 | _,_ => none
def asI : AV → Option Int
 | .v (.sc (.dat (.int _ i))) => some i
 | _ => none
def A5c (σ : St) (lo hi mx : Option Opd) (n : Nat) : Option (Nat × Nat) :=
 match (match mx with | none => some (n : Int) | some x => asI (σ.val x)),(match hi with | none => some (n : Int) | some x => asI (σ.val x)),(match lo with | none => some (0 : Int) | some x => asI (σ.val x)) with
 | some m,some h,some l => if 0 ≤ l ∧ l ≤ h ∧ h ≤ m ∧ m ≤ n then some (l.toNat,h.toNat) else none
 | _,_,_ => none
def A8v (σ : St) (sz : Nat) (x : AV) (lo hi mx : Option Opd) : Option AV :=
 match x with
 | .v (.sc (.dat (.sl es))) => if es.all (fun d => d.length == sz) && decide (0 < sz) then (A5c σ lo hi mx es.length).map fun p => .v (.sc (.dat (.sl ((es.drop p.1).take (p.2 - p.1))))) else none
 | .v (.sc (.own id)) => match A2 σ.rows id with
  | some (sz',es) => if sz' = sz ∧ mx.isNone = true then (A5c σ lo hi mx es.length).map fun p => .v (.sc (.osub id p.1 p.2)) else none
  | none => none
 | .v (.sc .nil) => (A5c σ lo hi mx 0).map fun _ => .v (.sc .nil)
 | _ => none
def A5t (σ : St) (x : AV) (lo hi : Option Opd) : Option AV :=
 match x with
 | .v (.sc (.dat (.str s))) => (A5c σ lo hi none s.length).map fun p => .v (.sc (.dat (.str ((s.drop p.1).take (p.2 - p.1)))))
 | _ => none
def A83 (i : Nat) : AV → Option AV
 | .tup l => (l[i]?).map .v
 | _ => none
def A9e : AV → AV → AV → Option AV
 | .v (.sc (.dat (.bool b))),x,y => some (bif b then x else y)
 | _,_,_ => none
def A4s : AV → Option AV
 | .v (.sc (.pb id off)) => some (.v (.sc (.pb id off)))
 | .v (.sc (.dat (.pd cs))) => some (.v (.sc (.dat (.pd cs))))
 | .v (.sc (.old (.pd cs))) => some (.v (.sc (.old (.pd cs))))
 | .v (.sc (.vol (.pd cs))) => some (.v (.sc (.vol (.pd cs))))
 | _ => none
def A5f (f : FuncId) : List AV → Option (List Nat)
 | [] => some []
 | .v (.sc (.pb id 0)) :: r => (A5f f r).map (id :: ·)
 | _ => none
def A1y : List AC → List (Nat × Nat × AV) → Option (List AC)
 | cs,[] => some cs
 | cs,(off,n,.v x) :: r => if x.cells.length = n ∧ off + n ≤ cs.length then A1y (cs.take off ++ x.cells ++ cs.drop (off + n)) r else none
 | _,_ => none
def V1.toDs (x : V1) : Option (List D) := A2s x.cells
def A5z (sz : Nat) : List (List D) → List (Nat × AV) → Option (List (List D))
 | es,[] => some es
 | es,(i,.v x) :: r => match x.toDs with
  | some ds => if ds.length = sz ∧ i < es.length then A5z sz (es.set i ds) r else none
  | none => none
 | _,_ => none
def A5q (t : TypeId) : AV → Option AV
 | .v (.sc (.dat d)) => some (.v (.sc (.dat (.ifc t d))))
 | .v (.sc (.pb id 0)) => some (.v (.sc (.ipb t id)))
 | .v (.ag cs) => (A2s cs).map fun ds => .v (.sc (.dat (.ifs t ds)))
 | _ => none
def A86 (t : TypeId) (zc : AC) : AV → Option AV
 | .v (.sc (.dat (.ifc u d))) => bif u == t then some (.tup [.sc (.dat d),.sc (.dat (.bool true))]) else some (.tup [.sc zc,.sc (.dat (.bool false))])
 | _ => none
def St.pure (σ : St) : AOp → Option (Nat × AV)
 | .mv d x => some (d,σ.val x)
 | .pick d c a b => (A9e (σ.val c) (σ.val a) (σ.val b)).map (d,·)
 | .build d zs ps => (A1y zs (ps.map fun p => (p.1,p.2.1,σ.val p.2.2))).map fun cs => (d,.v (.ag cs))
 | .load d x agg n => (U5 σ agg n (σ.val x)).map (d,·)
 | .nilc d x => (A4s (σ.val x)).map (d,·)
 | .bin d op x y => (A26 op (σ.val x) (σ.val y)).map (d,·)
 | .beq d g x y => (B2b g (σ.val x) (σ.val y)).map (d,·)
 | .geq d g ks x y => (B2l g ks (σ.val x) (σ.val y)).map (d,·)
 | .un d op x => (unV op (σ.val x)).map (d,·)
 | .conv d k x => match σ.val x with | .v (.sc (.dat (.int _ n))) => some (d,.v (.sc (.dat (.int k (k.wrap n))))) | _ => none
 | .slc d sz x lo hi mx => (A8v σ sz (σ.val x) lo hi mx).map (d,·)
 | .sslc d x lo hi => (A5t σ (σ.val x) lo hi).map (d,·)
 | .faddr d x off => (U1 σ.rows off (σ.val x)).map (d,·)
 | .field d x off agg n => (A4d off agg n (σ.val x)).map (d,·)
 | .iaddr d x i sz => (Z2 σ.rows sz (σ.val x) (σ.val i)).map (d,·)
 | .aaddr d x i len sz => (A76 len sz (σ.val x) (σ.val i)).map (d,·)
 | .idx d x i => (B2u (σ.val x) (σ.val i)).map (d,·)
 | .extr d x i => (A83 i (σ.val x)).map (d,·)
 | .len d x => (A5b σ.rows (σ.val x)).map (d,·)
 | .slen d x => (A88 (σ.val x)).map (d,·)
 | .sconv d x => (A38 σ.rows (σ.val x)).map (d,·)
 | .mm d m x y => (mmV m (σ.val x) (σ.val y)).map (d,·)
 | .mkf d f caps => (A5f f (caps.map σ.val)).map fun ids => (d,.v (.sc (.clo f ids)))
 | .zsl d => some (d,.v (.sc .z))
 | .mkif d t x => (A5q t (σ.val x)).map (d,·)
 | .tass d x t zc => (A86 t zc (σ.val x)).map (d,·)
 | _ => none
def appSrc (rs : Rows) : AV → Option (List (List D))
 | .v (.sc c) => match toD0 rs c with
  | some (.sl es) => some es
  | _ => none
 | _ => none
def zapV (rs : Rows) (d sz bytes : Nat) : AV → AV → Option (Nat × Nat × List (List D))
 | .v (.sc .z),y => match appSrc rs y with
  | some es => if es.all (fun r => r.length == sz) = true ∧ es.length * bytes ≤ 140737488355328 ∧ es.length ≤ 4611686018427387904 then some (d,sz,es) else none
  | none => none
 | _,_ => none
inductive Mk where
 | box (d : Nat) (cs : List AC)
 | row (d sz : Nat) (es : List (List D))
def St.made (σ : St) : AOp → Option Mk
 | .box d x => match σ.val x with
  | .v y => some (.box d y.cells)
  | _ => none
 | .alloc d cs => some (.box d cs)
 | .bslice d sz zs len ps => (match A5z sz (List.replicate len zs) (ps.map fun p => (p.1,σ.val p.2)) with
  | some es => if zs.length = sz then some (.row d sz es) else none
  | none => none)
 | .mksl d sz bytes zs len cap => match asI (σ.val len),asI (σ.val cap) with
  | some l,some c => if 0 ≤ l ∧ l ≤ c ∧ c * bytes ≤ 140737488355328 ∧ c ≤ 4611686018427387904 ∧ zs.length = sz then some (.row d sz (List.replicate l.toNat zs)) else none
  | _,_ => none
 | .zap d sz bytes x y => (zapV σ.rows d sz bytes (σ.val x) (σ.val y)).map fun p => .row p.1 p.2.1 p.2.2
 | _ => none
def A6x (cs : List D) (off : Nat) (ds : List D) : List D := cs.take off ++ ds ++ cs.drop (off + ds.length)
def W2 (cs : List AC) (off : Nat) (ds : List AC) : List AC := cs.take off ++ ds ++ cs.drop (off + ds.length)
def St.storeV (σ : St) (n : Nat) : AV → AV → Option St
 | .v (.sc (.pb id off)),.v y => (match A2 σ.bx id with
  | some cs => if y.cells.length = n ∧ off + n ≤ cs.length then some { σ with bx := put σ.bx id (W2 cs off y.cells) } else none
  | none => none)
 | .v (.sc (.pe id i off)),.v y => (match A2 σ.rows id with
  | some (sz,es) => (match es[i]?,y.toDs with
   | some d,some ds => if ds.length = n ∧ off + n ≤ d.length then some { σ with rows := put σ.rows id (sz,es.set i (A6x d off ds)) } else none
   | _,_ => none)
  | none => none)
 | .v (.sc (.vol (.pd (c :: _)))),.v (.sc (.dat d)) => bif n == 1 && A81 c d then some σ else none
 | _,_ => none
def St.appV (σ : St) (d sz bytes : Nat) : AV → AV → Option St
 | .v (.sc (.own id)),y => if id / 1099511627776 = 0 then (match A2 σ.rows id,appSrc σ.rows y with
  | some (sz',es),some es' => if sz' = sz ∧ es'.all (fun r => r.length == sz) = true ∧ (es.length + es'.length) * bytes ≤ 140737488355328 ∧ es.length + es'.length ≤ 4611686018427387904 then
    some { ((σ.map (AC.kill id)).set d (.v (.sc (.own id)))) with rows := put σ.rows id (sz,es ++ es') } else none
  | _,_ => none) else none
 | _,_ => none
def St.make (σ : St) : Mk → Option St
 | .box d cs => if σ.fresh d && cs.all (fun c => !c.uses d) then some { (σ.set d (.v (.sc (.pb d 0)))) with bx := put σ.bx d cs } else none
 | .row d sz es => if σ.fresh d then some { (σ.set d (.v (.sc (.own (d * 64))))) with rows := put σ.rows (d * 64) (sz,es) } else none
def Y4 {α : Type} (l : List (Nat × α)) : List Nat → List (Nat × α)
 | [] => []
 | k :: ks => match A2 l k with
  | some v => (k,v) :: Y4 l ks
  | none => Y4 l ks
def St.kept (σ : St) (ks bs rs : List Nat) : St := ⟨Y4 σ.env ks,Y4 σ.bx bs,Y4 σ.rows rs⟩
def St.step (σ : St) (o : AOp) : Option St :=
 match o with
 | .store x y n => σ.storeV n (σ.val x) (σ.val y)
 | .app d sz bytes x y => σ.appV d sz bytes (σ.val x) (σ.val y)
 | .drop ks => some (σ.drop ks)
 | .forget gs => some { σ with bx := σ.bx.filter fun p => !gs.contains p.1,rows := σ.rows.filter fun p => !gs.contains (p.1 / 64) }
 | .keep ks bs rs => some (σ.kept ks bs rs)
 | .own d j id sz => if σ.has id || !(id / 1099511627776 == 0) then none else match σ.get d with
  | .v (.sc .nil) => if j = 0 then some { (σ.set d (.v (.sc (.own id)))) with rows := put σ.rows id (sz,[]) } else none
  | .v (.ag cs) => match cs[j]? with
   | some .nil => some { (σ.set d (.v (.ag (cs.set j (.own id))))) with rows := put σ.rows id (sz,[]) }
   | _ => none
  | _ => none
 | .ownb b j id sz => if σ.has id || !(id / 1099511627776 == 0) then none else match A2 σ.bx b with
  | some cs => match cs[j]? with
   | some .nil => some { σ with bx := put σ.bx b (cs.set j (.own id)),rows := put σ.rows id (sz,[]) }
   | _ => none
  | none => none
 | .cut d => match σ.get d with
  | .v (.sc (.osub id 0 h)) => if id / 1099511627776 = 0 then (match A2 σ.rows id with
   | some (sz,es) => if h ≤ es.length then some { ((σ.map (AC.kill id)).set d (.v (.sc (.own id)))) with rows := put σ.rows id (sz,es.take h) } else none
   | none => none) else none
  | _ => none
 | .ren a b => if σ.has b || !(a / 1099511627776 == 0 && b / 1099511627776 == 0) then none else match A2 σ.rows a with
  | some r => some { (σ.map (AC.ren a b)) with rows := put (erase σ.rows [a]) b r }
  | none => none
 | .frz id => if !(id / 1099511627776 == 0) then none else match A2 σ.rows id with
  | some (_,es) => some { (σ.map (AC.frz id es)) with rows := erase σ.rows [id] }
  | none => none
 | .frzb id => if !(id / 1099511627776 == 0) then none else match A2 σ.bx id with
  | some cs => match A2s cs with
   | some ds => some (({ σ with bx := erase σ.bx [id] } : St).map (AC.frzb id ds))
   | none => none
  | none => none
 | o => match σ.pure o with
  | some (d,v) => some (σ.set d v)
  | none => match σ.made o with
   | some m => σ.make m
   | none => none
def A48 : Value → AC
 | .int k n => if k.min ≤ n ∧ n ≤ k.max then .dat (.int k n) else .undef
 | .bool b => .dat (.bool b)
 | .string s => if s.data.toList.length ≤ 4096 then .dat (.str s.data.toList) else .undef
 | .slice none 0 0 => .nil
 | .nilIface => .dat .noi
 | _ => .undef
def A14 (l : List Value) : Option (List AC) := if l.all (·.oneCell') then some (l.map A48) else none
def B6m : Value → AV
 | .agg cs => match A14 cs.toList with
  | some l => .v (.ag l)
  | none => .undef
 | .tuple _ => .undef
 | v => .v (.sc (A48 v))
def G8 : Operand → Option Opd
 | .tmp t => some (.t t)
 | .const v => some (.c (B6m v))
 | .func f => some (.c (.v (.sc (.dat (.clo f [])))))
 | .global _ => none
def T1 : List Operand → Option (List Opd)
 | [] => some []
 | x :: xs => match G8 x,T1 xs with
  | some y,some ys => some (y :: ys)
  | _,_ => none
def B2t : Option Operand → Option (Option Opd)
 | none => some none
 | some x => (G8 x).map some
def A56 (P : Program) (t : TypeId) : Option (Bool × Nat) :=
 match P.underlying t,P.info? t with
 | some (.struct _),some i => some (true,i.size)
 | some (.array _ _),some i => some (true,i.size)
 | some _,some i => some (false,i.size)
 | _,_ => none
def B5w (P : Program) (t : TypeId) : Option TypeInfo :=
 match P.underlying t with
 | some (.slice e) => P.info? e
 | _ => none
def A63 (P : Program) (t : TypeId) : Option (TypeInfo × Value) :=
 match P.info? t with
 | some i => i.zero.map fun z => (i,z)
 | none => none
def B1y (P : Program) (t : TypeId) : Option (TypeInfo × Value) :=
 match P.underlying t with
 | some (.slice e) => A63 P e
 | _ => none
def A8a (places : List (Nat × Nat)) : List (Nat × Operand) → Option (List (Nat × Nat × Opd))
 | [] => some []
 | (i,x) :: r => match places[i]?,G8 x,A8a places r with
  | some p,some y,some ys => some ((p.1,p.2,y) :: ys)
  | _,_,_ => none
def A72 (sz : Nat) : List (Nat × Operand) → Option (List (Nat × Nat × Opd))
 | [] => some []
 | (i,x) :: r => match G8 x,A72 sz r with
  | some y,some ys => some ((i * sz,sz,y) :: ys)
  | _,_ => none
def A6j : List (Nat × Operand) → Option (List (Nat × Opd))
 | [] => some []
 | (i,x) :: r => match G8 x,A6j r with
  | some y,some ys => some ((i,y) :: ys)
  | _,_ => none
def A8 (P : Program) (d : Nat) (o : Oper) : Option AOp :=
 match o.op with
 | .move x | .assign x => (G8 x).map (.mv d)
 | .pick c a b => match G8 c,G8 a,G8 b with
  | some c,some a,some b => some (.pick d c a b)
  | _,_,_ => none
 | .alloc elem => match A63 P elem with
  | some (_,z) => (A14 z.cells.toList).map (.alloc d)
  | none => none
 | .box _ x => (G8 x).map (.box d)
 | .build t ps => match P.underlying t,A63 P t with
  | some (.struct fs),some (_,z) => match fs.toList.mapM (fun f => (P.info? f.type).map fun i => (f.offset,i.size)) with
   | some places => match A14 z.cells.toList,A8a places ps.toList with
    | some zs,some qs => some (.build d zs qs)
    | _,_ => none
   | none => none
  | some (.array _ e),some (_,z) => match P.info? e with
   | some ie => match A14 z.cells.toList,A72 ie.size ps.toList with
    | some zs,some qs => some (.build d zs qs)
    | _,_ => none
   | none => none
  | _,_ => none
 | .buildSlice t len ps => match B1y P t with
  | some (i,z) => if z.cells.size = i.size ∧ 0 < i.size ∧ len * i.size ≤ 16777216 then
    (match (A14 z.cells.toList).bind A2s,A6j ps.toList with
    | some zs,some qs => some (.bslice d i.size zs len qs)
    | _,_ => none) else none
  | none => none
 | .load t x => match A56 P t,G8 x with
  | some (g,n),some y => if g ∨ n = 1 then some (.load d y g n) else none
  | _,_ => none
 | .nilCheck x => (G8 x).map (.nilc d)
 | .binOp op t x y _ => match G8 x,G8 y with
  | some x,some y => (match P.underlying t,op with
   | some .bool,.eql => some (.beq d false x y)
   | some .bool,.neq => some (.beq d true x y)
   | some (.struct _),.eql => (B1u P t).map fun ks => .geq d false ks x y
   | some (.struct _),.neq => (B1u P t).map fun ks => .geq d true ks x y
   | _,_ => some (.bin d op x y))
  | _,_ => none
 | .unOp op _ x => (G8 x).map (.un d op)
 | .convert s t x => match P.underlying s,P.underlying t,G8 x with
  | some _,some (.int k),some y => some (.conv d k y)
  | some (.slice e),some .string,some y => match P.underlying e with | some (.int .u8) => some (.sconv d y) | _ => none
  | _,_,_ => none
 | .makeSlice t l c => match B1y P t with
  | some (i,z) => if z.cells.size = i.size ∧ 0 < i.size ∧ 0 < i.bytes then
    (match (A14 z.cells.toList).bind A2s,G8 l,G8 c with
    | some zs,some l,some c => some (.mksl d i.size i.bytes zs l c)
    | _,_,_ => none) else none
  | none => none
 | .slice t x lo hi mx => match G8 x,B2t lo,B2t hi,B2t mx with
  | some y,some l,some h,some m => if h = none ∧ m ≠ none then none else match P.underlying t with
   | some .string => if mx.isNone then some (.sslc d y l h) else none
   | some (.slice e) => (P.info? e).map fun i => .slc d i.size y l h m
   | _ => none
  | _,_,_,_ => none
 | .fieldAddr s x f => match P.underlying s,G8 x with
  | some (.struct fs),some y => match fs[f]? with
   | some fd => match P.info? fd.type with
    | some i => if i.size = 0 then none else some (.faddr d y fd.offset)
    | none => none
   | none => none
  | _,_ => none
 | .field t x f => match P.underlying t,G8 x with
  | some (.struct fs),some y => match fs[f]? with
   | some fd => match A56 P fd.type with
    | some (g,n) => if g ∨ n = 1 then some (.field d y fd.offset g n) else none
    | none => none
   | none => none
  | _,_ => none
 | .indexAddr t x i => match B5w P t,G8 x,G8 i with
  | some inf,some y,some j => some (.iaddr d y j inf.size)
  | none,some y,some j => (match P.underlying t with
   | some (.array len e) => match P.info? e with
    | some ie => match i with
     | .const (.int _ n) => if 0 ≤ n ∧ n < len ∧ ie.size ≠ 0 then some (.faddr d y (n.toNat * ie.size)) else none
     | _ => some (.aaddr d y j len ie.size)
    | none => none
   | _ => none)
  | _,_,_ => none
 | .index t x i => match P.underlying t,G8 x,G8 i with
  | some .string,some y,some j => some (.idx d y j)
  | some (.array len e),some y,some _ => (match A56 P e,i with
   | some (g,m),.const (.int _ n) => if 0 ≤ n ∧ n < len ∧ (g = true ∨ m = 1) then some (.field d y (n.toNat * m) g m) else none
   | _,_ => none)
  | _,_,_ => none
 | .extract x i => (G8 x).map fun y => .extr d y i
 | .makeInterface t x => match P.underlying t,G8 x with
  | some (.interface _),_ => none
  | some _,some y => some (.mkif d t y)
  | _,_ => none
 | .typeAssert x _ t ok => match P.underlying t,A63 P t,G8 x with
  | some (.interface _),_,_ => none
  | some _,some (_,z),some y => if z.oneCell' = true ∧ ok = true then some (.tass d y t (A48 z)) else none
  | _,_,_ => none
 | .makeFunc (.func f) first caps => if first.isEmpty then (T1 caps.toList).map (.mkf d f) else none
 | .call { callee := .builtin .len,args,argTypes } => match args.toList,argTypes.toList with
  | [x],[t] => match P.underlying t,G8 x with
   | some .string,some y => some (.slen d y)
   | some (.slice _),some y => some (.len d y)
   | _,_ => none
  | _,_ => none
 | .call { callee := .builtin .append,args,argTypes } => match args.toList,argTypes.toList with
  | [x,y],[t,t'] => match B1y P t,P.underlying t',G8 x,G8 y with
   | some (i,z),some (.slice _),some a,some b => if z.cells.size = i.size ∧ 0 < i.size ∧ 0 < i.bytes then some (.app d i.size i.bytes a b) else none
   | _,_,_,_ => none
  | _,_ => none
 | .call { callee := .builtin .max,args,.. } => match args.toList with
  | [x,y] => match G8 x,G8 y with
   | some a,some b => some (.mm d true a b)
   | _,_ => none
  | _ => none
 | .call { callee := .builtin .min,args,.. } => match args.toList with
  | [x,y] => match G8 x,G8 y with
   | some a,some b => some (.mm d false a b)
   | _,_ => none
  | _ => none
 | .call { callee := .value (.func f),args,.. } => match P.funcs[f]? with
  | some fn => if fn.body.isSome ∧ (fn.name == "runtime.NumGoroutine") = false then (T1 args.toList).map (.call d f) else none
  | none => none
 | .call { callee := .value (.tmp t),args,.. } => (T1 args.toList).map (.callv d (.t t))
 | _ => none
def V5 (P : Program) (nt : Nat) (o : Oper) : Option AOp :=
 match o.dst with
 | some d => if d < nt then A8 P d o else none
 | none => match o.op with
  | .store t a x => match P.info? t,G8 a,G8 x with
   | some i,some a,some x => some (.store a x i.size)
   | _,_,_ => none
  | _ => none
end Go.Vi
