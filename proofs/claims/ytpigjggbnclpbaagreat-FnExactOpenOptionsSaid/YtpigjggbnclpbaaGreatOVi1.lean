/-
The value level. No condition.
-/
import Derived.Test.YtpigjggbnclpbaaGreatOVi0
import Derived.Laws.AppendOwn
import Derived.Laws.OwnMore
namespace Go.Vi
set_option linter.all false
open Option renaming some → T, none → F
open _root_ renaming List → E, Nat → G
inductive D where
 | int (k:IntKind) (n:Int)
 | bool (b:Bool)
 | str (s:E UInt8)
 | sl (es:E (E D))
 | slb (b:G) (k:Option G) (es:E (E D))
 | pd (cs:E D)
 | clo (f:FuncId) (caps:E D)
 | ifc (t:TypeId) (d:D)
 | ifs (t:TypeId) (cs:E D)
 | noi
 deriving Inhabited
abbrev A6:=G→E Value→Prop
mutual
inductive Rep (h:A6):D→Value→Prop
 | int {k n}:k.min≤n→n≤k.max→Rep h (.int k n) (.int k n)
 | bool {b}:Rep h (.bool b) (.bool b)
 | str {s}:s.length≤maxLen→Rep h (.str s) (.string ⟨s.toArray⟩)
 | nil {a cap}:Rep h (.sl []) (.slice a 0 cap)
 | sl {es b C sz off cap len}:h b C→0<sz→RepRows h sz es (C.drop off)→len=es.length→len≤cap→cap≤maxLen→Rep h (.sl es) (.slice (T ⟨b,off,F⟩) len cap)
 | slb {es k b C sz off cap len}:h b C→0<sz→RepRows h sz es (C.drop off)→len=es.length→len≤cap→cap≤maxLen→(∀s,k=T s→s=sz∧off=0∧C.length=cap*sz)→Rep h (.slb b k es) (.slice (T ⟨b,off,F⟩) len cap)
 | pd {cs b C off}:h b C→Reps h cs (C.drop off)→Rep h (.pd cs) (.pointer (T ⟨b,off,F⟩))
 | clo {f caps vs}:Reps h caps vs→caps.length=vs.length→Rep h (.clo f caps) (.func (.func f) #[] vs.toArray)
 | ifc {t d v}:Rep h d v→Rep h (.ifc t d) (.iface t v)
 | ifs {t cs vs}:Reps h cs vs→cs.length=vs.length→Rep h (.ifs t cs) (.iface t (.agg vs.toArray))
 | noi:Rep h .noi .nilIface
inductive Reps (h:A6):E D→E Value→Prop
 | nil {vs}:Reps h [] vs
 | cons {d v ds vs}:Rep h d v→Reps h ds vs→Reps h (d::ds) (v::vs)
inductive RepRows (h:A6):G→E (E D)→E Value→Prop
 | nil {sz vs}:RepRows h sz [] vs
 | cons {sz d ds vs}:d.length=sz→Reps h d vs→RepRows h sz ds (vs.drop sz)→RepRows h sz (d::ds) vs
end
mutual
theorem Rep.mono{h h':A6}(hh:∀b C,h b C→h' b C):∀{d v},Rep h d v→Rep h' d v
 | _,_,.int a b=> .int a b
 | _,_,.bool=> .bool
 | _,_,.str a=> .str a
 | _,_,.nil=> .nil
 | _,_,.sl a z b c d e=> .sl (hh _ _ a) z (RepRows.mono hh b) c d e
 | _,_,.slb a z b c d e g=> .slb (hh _ _ a) z (RepRows.mono hh b) c d e g
 | _,_,.pd a b=> .pd (hh _ _ a) (Reps.mono hh b)
 | _,_,.clo a b=> .clo (Reps.mono hh a) b
 | _,_,.ifc a=> .ifc (Rep.mono hh a)
 | _,_,.ifs a b=> .ifs (Reps.mono hh a) b
 | _,_,.noi=> .noi
theorem Reps.mono{h h':A6}(hh:∀b C,h b C→h' b C):∀{d v},Reps h d v→Reps h' d v
 | _,_,.nil=> .nil
 | _,_,.cons a b=> .cons (Rep.mono hh a) (Reps.mono hh b)
theorem RepRows.mono{h h':A6}(hh:∀b C,h b C→h' b C):∀{sz d v},RepRows h sz d v→RepRows h' sz d v
 | _,_,_,.nil=> .nil
 | _,_,_,.cons a b c=> .cons a (Reps.mono hh b) (RepRows.mono hh c)
end
inductive AC where
 | undef
 | dat (d:D)
 | own (id:G)
 | osub (id lo hi:G)
 | nil
 | pb (id off:G)
 | pe (id idx off:G)
 | clo (f:FuncId) (ids:E G)
 | z
 | ipb (t:TypeId) (id:G)
 | old (d:D)
 | vol (d:D)
 | nw
 | mix (d:D)
 deriving Inhabited
inductive V1 where
 | sc (c:AC)
 | ag (cs:E AC)
 deriving Inhabited
inductive AV where
 | undef
 | no
 | v (x:V1)
 | tup (l:E V1)
 | ev (c:AC)
 deriving Inhabited
def Bu:A6:=fun _ _=>False
inductive ShV:Value→Value→Prop
 | int {k n n'}:k.min≤n'→n'≤k.max→ShV (.int k n) (.int k n')
 | bool {b b'}:ShV (.bool b) (.bool b')
 | str {s:ByteArray} {s':E UInt8}:s'.length≤maxLen→ShV (.string s) (.string ⟨s'.toArray⟩)
 | same {v}:ShV v v
inductive ShL:E Value→E Value→Prop
 | nil:ShL [] []
 | cons {v v' vs vs'}:ShV v v'→ShL vs vs'→ShL (v::vs) (v'::vs')
mutual
inductive RepS (h:A6):D→Value→Prop
 | int {k n n'}:k.min≤n'→n'≤k.max→RepS h (.int k n) (.int k n')
 | bool {b b'}:RepS h (.bool b) (.bool b')
 | str {s} {s':E UInt8}:s'.length≤maxLen→RepS h (.str s) (.string ⟨s'.toArray⟩)
 | nil {a cap}:RepS h (.sl []) (.slice a 0 cap)
 | sl {es b C sz off cap len}:h b C→0<sz→RepSRows h sz es (C.drop off)→len=es.length→len≤cap→cap≤maxLen→RepS h (.sl es) (.slice (T ⟨b,off,F⟩) len cap)
 | slb {es k b C sz off cap len}:h b C→0<sz→RepSRows h sz es (C.drop off)→len=es.length→len≤cap→cap≤maxLen→RepS h (.slb b k es) (.slice (T ⟨b,off,F⟩) len cap)
 | pd {cs b C off}:h b C→RepSs h cs (C.drop off)→RepS h (.pd cs) (.pointer (T ⟨b,off,F⟩))
 | clo {f caps vs}:RepSs h caps vs→caps.length=vs.length→RepS h (.clo f caps) (.func (.func f) #[] vs.toArray)
 | ifc {t d v}:RepS h d v→RepS h (.ifc t d) (.iface t v)
 | ifs {t cs vs}:RepSs h cs vs→cs.length=vs.length→RepS h (.ifs t cs) (.iface t (.agg vs.toArray))
 | noi:RepS h .noi .nilIface
inductive RepSs (h:A6):E D→E Value→Prop
 | nil {vs}:RepSs h [] vs
 | cons {d v ds vs}:RepS h d v→RepSs h ds vs→RepSs h (d::ds) (v::vs)
inductive RepSRows (h:A6):G→E (E D)→E Value→Prop
 | nil {sz vs}:RepSRows h sz [] vs
 | cons {sz d ds vs}:d.length=sz→RepSs h d vs→RepSRows h sz ds (vs.drop sz)→RepSRows h sz (d::ds) vs
end
structure Ar where
 A:G→G × G→Prop
 o:A6
 v:A6
 new:Bool
abbrev AY:=G→G × G→Prop
instance:CoeFun Ar (fun _=>G→G × G→Prop):=⟨Ar.A⟩
instance:Coe Ar AY:=⟨Ar.A⟩
def Ar.of(A:AY):Ar:=⟨A,Bu,Bu,false⟩
abbrev Rows:=E (G × G × E (E D))
structure St where
 env:E (G × AV)
 bx:E (G × E AC)
 rows:Rows
def A1{α:Type}:E (G × α)→G→Option α
 | [],_=>F
 | (k,v)::r,n=>bif k==n then T v else A1 r n
def put{α:Type}:E (G × α)→G→α→E (G × α)
 | [],n,v=> [(n,v)]
 | (k,u)::r,n,v=>bif k==n then(k,v)::r else(k,u)::put r n v
def St.get(σ:St)(k:G):AV:=(A1 σ.env k).getD .undef
def St.set(σ:St)(k:G)(v:AV):St:={σ with env:=put σ.env k v}
theorem B9{α:Type}:∀(l:E (G × α)) (n:G) (v:α),A1 (put l n v) n=T v
 | [],n,v=>by simp[put,A1]
 | (k,u)::r,n,v=>by
  by_cases h:k=n
  ·simp[put,A1,h]
  ·have h':(k==n)=false:=by simpa using h
   simp[put,A1,h',B9 r n v]
theorem Bb{α:Type}:∀(l:E (G × α)) {n m:G} (v:α),m≠n→A1 (put l n v) m=A1 l m
 | [],n,m,v,hne=>by
  have:(n==m)=false:=by simpa using fun e=>hne e.symm
  simp[put,A1,this]
 | (k,u)::r,n,m,v,hne=>by
  by_cases h:k=n
  ·subst h;have:(k==m)=false:=by simpa using fun e=>hne e.symm
   simp[put,A1,this]
  ·have h':(k==n)=false:=by simpa using h
   simp only[put,h',cond_false,A1];rw[Bb r v hne]
theorem St.get_set_same(σ:St)(k:G)(v:AV):(σ.set k v).get k=v:=by simp[St.get,St.set,B9]
theorem St.get_set_ne(σ:St){k m:G}(v:AV)(h:m≠k):(σ.set k v).get m=σ.get m:=by simp[St.get,St.set,Bb _ v h]
abbrev Ad:=G→Option G
def Ab(A:AY)(nm:Ad)(w:World):A6:=fun b C=>(∀i,nm i≠T b)∧∃c t fr,A b fr∧w.heap[b]?=T (.cells c t fr)∧c.toList=C
def AS(w:World):A6:=fun b C=>∃c t fr,w.heap[b]?=T (.cells c t fr)∧c.toList=C
structure OwnB (h:A6) (w:World) (b sz cap:G) (es:E (E D)):Prop where
 pos:0<sz
 room:es.length≤cap
 small:cap≤maxLen
 row:∃C t,w.heap[b]?=T (.cells C t (0,0))∧C.size=cap*sz∧RepRows h sz es C.toList
structure Cx where
 nm:Ad
 rs:Rows
 h:A6
 w:World
 o:A6
 v:A6
 new:Bool
inductive CRel (X:Cx):AC→Value→Prop
 | undef {v}:v.oneCell'=true→CRel X .undef v
 | dat {d v}:Rep X.h d v→CRel X (.dat d) v
 | ownNil {id sz a}:A1 X.rs id=T (sz,[])→X.nm (2*id+1)=F→CRel X (.own id) (.slice a 0 0)
 | own {id sz es b cap len}:A1 X.rs id=T (sz,es)→X.nm (2*id+1)=T b→OwnB X.h X.w b sz cap es→len=es.length→CRel X (.own id) (.slice (T ⟨b,0,F⟩) len cap)
 | ownDead {id v}:A1 X.rs id=F→v.oneCell'=true→CRel X (.own id) v
 | osubNil {id sz a}:A1 X.rs id=T (sz,[])→X.nm (2*id+1)=F→CRel X (.osub id 0 0) (.slice a 0 0)
 | osub {id sz es lo hi b cap cap' len off}:A1 X.rs id=T (sz,es)→X.nm (2*id+1)=T b→OwnB X.h X.w b sz cap es→lo≤hi→hi≤es.length→((lo<hi→off=lo*sz)∧(lo=0→off=0∧cap'=cap))→len=hi - lo→len≤cap'→cap'≤maxLen→
   CRel X (.osub id lo hi) (.slice (T ⟨b,off,F⟩) len cap')
 | osubDead {id lo hi v}:A1 X.rs id=F→v.oneCell'=true→CRel X (.osub id lo hi) v
 | nil:CRel X .nil (.slice F 0 0)
 | pb {id off b}:X.nm (2*id)=T b→CRel X (.pb id off) (.pointer (T ⟨b,off,F⟩))
 | pe {id sz es idx off b cap o}:A1 X.rs id=T (sz,es)→X.nm (2*id+1)=T b→OwnB X.h X.w b sz cap es→idx<es.length→o=idx*sz+off→CRel X (.pe id idx off) (.pointer (T ⟨b,o,F⟩))
 | peDead {id idx off v}:A1 X.rs id=F→v.oneCell'=true→CRel X (.pe id idx off) v
 | clo {f ids bs}:ids.mapM (fun i=>X.nm (2*i))=T bs→CRel X (.clo f ids) (.func (.func f) #[] (bs.map fun b=>Value.pointer (T ⟨b,0,F⟩)).toArray)
 | z {a}:CRel X .z (.slice a 0 0)
 | old {d v}:X.new=true→Rep X.o d v→CRel X (.old d) v
 | mix {d v}:Rep (fun b C=>X.o b C∨X.h b C) d v→CRel X (.mix d) v
 | nw {v}:X.new=true→v.oneCell'=true→CRel X .nw v
 | vol {d v0 v}:RepS X.v d v0→ShV v0 v→CRel X (.vol d) v
 | ipb {t id b}:X.nm (2*id)=T b→CRel X (.ipb t id) (.iface t (.pointer (T ⟨b,0,F⟩)))
inductive CRels (X:Cx):E AC→E Value→Prop
 | nil:CRels X [] []
 | cons {c v cs vs}:CRel X c v→CRels X cs vs→CRels X (c::cs) (v::vs)
inductive V1Rel (X:Cx):V1→Value→Prop
 | sc {c v}:CRel X c v→V1Rel X (.sc c) v
 | ag {cs vs}:CRels X cs vs→V1Rel X (.ag cs) (.agg vs.toArray)
inductive V1Rels (X:Cx):E V1→E Value→Prop
 | nil:V1Rels X [] []
 | cons {c v cs vs}:V1Rel X c v→V1Rels X cs vs→V1Rels X (c::cs) (v::vs)
inductive VRel (X:Cx):AV→Value→Prop
 | undef {v}:VRel X .undef v
 | no:VRel X .no undef
 | v {x v}:V1Rel X x v→VRel X (.v x) v
 | tup {l vs}:V1Rels X l vs→VRel X (.tup l) (.tuple vs.toArray)
 | ev {c u v}:CRel X c u→VRel X (.ev c) v
def BoxRel(X:Cx)(id:G)(cs:E AC):Prop:=
 ∃b C t,X.nm (2*id)=T b∧X.w.heap[b]?=T (.cells C t (0,0))∧CRels X cs C.toList
def cx(A:Ar)(nm:Ad)(σ:St)(w:World):Cx:=⟨nm,σ.rows,Ab A nm w,w,A.o,A.v,A.new⟩
def Av:G:=199999999998
structure Base where
 w:World
 np:Ad
 ms:G→Prop
 lt:∀b,ms b→b<w.heap.size
 vv:G→Prop
 no:∀b,vv b→¬((∃i,Av≤i∧np i=T b)∨ms b)
def Base.of(w:World)(np:Ad):Base:=⟨w,np,fun _=>False,fun _ h=>h.elim,fun _=>False,fun _ h=>h.elim⟩
def Base.M(b0:Base)(b:G):Prop:=(∃i,Av≤i∧b0.np i=T b)∨b0.ms b
theorem Base.of_M{w:World}{np:Ad}{b:G}(h:(Base.of w np).M b):∃i,Av≤i∧np i=T b:=h.elim id fun h=>h.elim
structure BelowX (B:G) (b0:Base) (w':World):Prop where
 os:w'.os=b0.w.os
 tape:w'.tape=b0.w.tape
 output:w'.output=b0.w.output
 size:b0.w.heap.size≤w'.heap.size
 block:∀k,k<B→¬b0.M k→¬b0.vv k→w'.heap[k]?=b0.w.heap[k]?
 room:∀k,b0.M k→∀C t fr,b0.w.heap[k]?=T (.cells C t fr)→∃C':Array Value,w'.heap[k]?=T (.cells C' t fr)∧C'.size=C.size
 vlt:∀k,b0.vv k→k<B
 shape:∀k,b0.vv k→∀C t fr,b0.w.heap[k]?=T (.cells C t fr)→∃C':Array Value,w'.heap[k]?=T (.cells C' t fr)∧ShL C.toList C'.toList
theorem ShL.refl:∀l:E Value,ShL l l
 | []=> .nil
 | _::r=> .cons .same (ShL.refl r)
theorem BelowX.start(B:G)(b0:Base)(hv:∀k,b0.vv k→k<B):BelowX B b0 b0.w:=⟨rfl,rfl,rfl,Nat.le_refl _,fun _ _ _ _=>rfl,fun _ _ C _ _ h=>⟨C,h,rfl⟩,hv,fun _ _ C _ _ h=>⟨C,h,.refl _⟩⟩
theorem CR{w:World}{k:G}{o:Obj}(h:w.heap[k]?=T o):k<w.heap.size:=(Array.getElem?_eq_some_iff.1 h).1
theorem BelowX.trans{B:G}{b0:Base}{a c:World}(h:BelowX B b0 a)(hM:∀k,b0.M k→k<a.heap.size)(k:RowKit.Below a.heap.size a c)(hB:B≤a.heap.size):BelowX B b0 c:=
 ⟨k.os.trans h.os,k.tape.trans h.tape,k.output.trans h.output,Nat.le_trans h.size k.size,fun j hj hm hv=>(k.block j (by omega)).trans (h.block j hj hm hv),fun j hm C t fr hC=>by
  obtain⟨C',h1,h2⟩:=h.room j hm C t fr hC;exact⟨C',(k.block j (hM j hm)).trans h1,h2⟩,h.vlt,fun j hv C t fr hC=>by
  obtain⟨C',h1,h2⟩:=h.shape j hv C t fr hC;exact⟨C',(k.block j (CR h1)).trans h1,h2⟩⟩
theorem BelowX.plain{B:G}{w w':World}{np:Ad}(h:BelowX B (.of w np) w')(hn:∀i,np i=F):RowKit.Below B w w':=
 ⟨h.os,h.tape,h.output,h.size,fun k hk=>h.block k hk (fun hm=>by obtain⟨i,_,e⟩:=Base.of_M hm; have:=hn i; simp_all) (fun h=>h.elim)⟩
structure Glob (A:Ar) (B:G) (w0:Base):Prop where
 all:∀b,(B≤b∨w0.ms b)→A b (0,0)
 old:∀b C,A.o b C→b<B∧¬w0.M b∧¬w0.vv b∧∃c t fr,w0.w.heap[b]?=T (.cells c t fr)∧c.toList=C
 vol:∀b C,A.v b C→w0.vv b∧∃c t fr,w0.w.heap[b]?=T (.cells c t fr)∧c.toList=C∧fr=(0,0)
 vout:∀b fr,w0.vv b→¬A b fr
 new:A.new=true→∀b fr,A b fr→(B≤b∨w0.ms b)∧fr=(0,0)
structure Rel (A:Ar) (B:G) (w0:Base) (nm:Ad) (σ:St) (tmps:Array Value) (w:World):Prop where
 below:BelowX B w0 w
 size:B≤w.heap.size
 all:Glob A B w0
 good:∀w2,BelowX B w0 w2→GoodW w2
 names:∀i b,nm i=T b→(B≤b∨w0.M b)∧b<w.heap.size
 inj:∀i j b,nm i=T b→nm j=T b→i=j
 pin:∀i,Av≤i→nm i=w0.np i
 env:∀k,VRel (cx A nm σ w) (σ.get k) (tmps.getD k undef)
 bxs:∀id cs,A1 σ.bx id=T cs→BoxRel (cx A nm σ w) id cs
section
variable {A : Ar} {B : G} {w0 : Base} {w : World} {nm : Ad} {σ : St} {tmps : Array Value}
theorem Rel.there(R:Rel A B w0 nm σ tmps w):∀k,w0.M k→k<w.heap.size:=fun k hk=>hk.elim (fun⟨i,hi,e⟩=>(R.names i k ((R.pin i hi).trans e)).2) fun h=>Nat.lt_of_lt_of_le (w0.lt k h) R.below.size
theorem Rel.mine(R:Rel A B w0 nm σ tmps w){i b:G}(hi:i<Av)(h:nm i=T b):B≤b∨w0.ms b:=by
 rcases(R.names i b h).1 with h1|⟨j,hj,e⟩|h1
 ·exact .inl h1
 ·have:=R.inj i j b h ((R.pin j hj).trans e);omega
 ·exact .inr h1
end
end Go.Vi
