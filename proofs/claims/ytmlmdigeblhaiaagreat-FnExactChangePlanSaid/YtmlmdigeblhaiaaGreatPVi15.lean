/-
The value level. No condition.
-/
import Derived.Below
import Derived.Laws.AppendOwn
import Derived.Laws.OwnMore
import Derived.Laws.StructEq
import Derived.Laws.Strings
import Derived.Laws.Unary
import Derived.Laws.BytesString
import Derived.Great.FillDense
import Derived.Great.BuildSlice
import Derived.Laws.MakeOwn
namespace Go.Vi
set_option linter.all false
open Option renaming map_eq_some_iff → I, some → G, none → L
open Option.some renaming injEq → zA, inj → zN
open Prod.mk renaming injEq → zB
open List renaming replicate → zC, drop_drop → zD, append_assoc → zE, getElem?_eq_some_iff → zF, length_eq_zero_iff → zG, getElem?_append_right → zJ, getElem?_append_left → zK, drop_append_of_le_length → zO, all_eq_true → zP, mem_of_getElem? → zQ, getElem?_cons_succ → zS, filter_cons_of_neg → zT, filter_cons_of_pos → zU, flatMap_cons → zV, length_drop → zW, length_cons → zX, extract_toArray → zZ, length_pos_iff → yA, drop_zero → yB, getElem?_eq_getElem → yD, any_eq_true → yE, mem_append → yF, nil_append → yG, mapM_cons → yH, map → yI, mem_cons → yJ
open Nat renaming add_mul → zH, mul_le_mul_right → zL, le_refl → zM, add_zero → zR, le_trans → zY, one_mul → yC
open Bool renaming and_eq_true → zI, true → T, false → E
open _root_ renaming List → N, Option → O, Int → Q, Bool → V, Nat → W, UInt8 → Z, rfl → J
def a9{p:Prop}(h:p:=by omega):p:=h
def d0{p:Prop}(h:p:=by simp):p:=h
def d3{p:Prop}(h:p:=by simp; omega):p:=h
def d4{p:Prop}(h:p:=by decide):p:=h
def GoodW(_:World):Prop:=True
def GoodW.below{w w':World}(_:GoodW w)(_:RowKit.Below w.heap.size w w'):GoodW w':=trivial
section
inductive D where
 | int (k:IntKind) (n:Q)
 | bool (b:V)
 | str (s:N Z)
 | sl (es:N (N D))
 | slb (b:W) (k:O W) (es:N (N D))
 | pd (cs:N D)
 | clo (f:FuncId) (caps:N D)
 | ifc (t:TypeId) (d:D)
 | ifs (t:TypeId) (cs:N D)
 | noi
 deriving Inhabited
abbrev A6:=W->N Value->Prop
mutual
inductive Rep (h:A6):D->Value->Prop
 | int {k n}:k.min<=n->n<=k.max->Rep h (.int k n) (.int k n)
 | bool {b}:Rep h (.bool b) (.bool b)
 | str {s}:s.length<=maxLen->Rep h (.str s) (.string ⟨s.toArray⟩)
 | nil {a cap}:Rep h (.sl []) (.slice a 0 cap)
 | sl {es b C sz off cap len}:h b C->0<sz->RepRows h sz es (C.drop off)->len=es.length->len<=cap->cap<=maxLen->Rep h (.sl es) (.slice (G ⟨b,off,L⟩) len cap)
 | slb {es k b C sz off cap len}:h b C->0<sz->RepRows h sz es (C.drop off)->len=es.length->len<=cap->cap<=maxLen->(∀s,k=G s->s=sz/\off=0/\C.length=cap*sz)->Rep h (.slb b k es) (.slice (G ⟨b,off,L⟩) len cap)
 | pd {cs b C off}:h b C->Reps h cs (C.drop off)->Rep h (.pd cs) (.pointer (G ⟨b,off,L⟩))
 | clo {f caps vs}:Reps h caps vs->caps.length=vs.length->Rep h (.clo f caps) (.func (.func f) #[] vs.toArray)
 | ifc {t d v}:Rep h d v->Rep h (.ifc t d) (.iface t v)
 | ifs {t cs vs}:Reps h cs vs->cs.length=vs.length->Rep h (.ifs t cs) (.iface t (.agg vs.toArray))
 | noi:Rep h .noi .nilIface
inductive Reps (h:A6):N D->N Value->Prop
 | nil {vs}:Reps h [] vs
 | cons {d v ds vs}:Rep h d v->Reps h ds vs->Reps h (d::ds) (v::vs)
inductive RepRows (h:A6):W->N (N D)->N Value->Prop
 | nil {sz vs}:RepRows h sz [] vs
 | cons {sz d ds vs}:d.length=sz->Reps h d vs->RepRows h sz ds (vs.drop sz)->RepRows h sz (d::ds) vs
end
mutual
def Rep.mono{h h':A6}(hh:∀b C,h b C->h' b C):∀{d v},Rep h d v->Rep h' d v
 | _,_,.int a b=> .int a b
 | _,_,.bool=> .bool
 | _,_,.str a=> .str a
 | _,_,.nil=> .nil
 | _,_,.sl a z b c d e=> .sl (hh _ _ a) z (RepRows.mono hh b) c d e
 | _,_,.slb a z b c d e g=> .slb (hh _ _ a) z (RepRows.mono hh b) c d e g
 | _,_,.pd a b=> .pd (hh _ _ a) (Reps.mono hh b)
 | _,_,.clo a b=> .clo (Reps.mono hh a) b
 | _,_,.ifc a=> .ifc (Rep.mono hh a)
 | _,_,.ifs a b=> .ifs (Reps.mono hh a) b
 | _,_,.noi=> .noi
def Reps.mono{h h':A6}(hh:∀b C,h b C->h' b C):∀{d v},Reps h d v->Reps h' d v
 | _,_,.nil=> .nil
 | _,_,.cons a b=> .cons (Rep.mono hh a) (Reps.mono hh b)
def RepRows.mono{h h':A6}(hh:∀b C,h b C->h' b C):∀{sz d v},RepRows h sz d v->RepRows h' sz d v
 | _,_,_,.nil=> .nil
 | _,_,_,.cons a b c=> .cons a (Reps.mono hh b) (RepRows.mono hh c)
end
inductive AC where
 | undef
 | dat (d:D)
 | own (id:W)
 | osub (id lo hi:W)
 | nil
 | pb (id off:W)
 | pe (id idx off:W)
 | clo (f:FuncId) (ids:N W)
 | z
 | ipb (t:TypeId) (id:W)
 | old (d:D)
 | vol (d:D)
 | nw
 | mix (d:D)
 deriving Inhabited
inductive V1 where
 | sc (c:AC)
 | ag (cs:N AC)
 deriving Inhabited
inductive AV where
 | undef
 | no
 | v (x:V1)
 | tup (l:N V1)
 | ev (c:AC)
 deriving Inhabited
def BP:A6:=fun _ _=>False
inductive ShV:Value->Value->Prop
 | int {k n n'}:k.min<=n'->n'<=k.max->ShV (.int k n) (.int k n')
 | bool {b b'}:ShV (.bool b) (.bool b')
 | str {s:ByteArray} {s':N Z}:s'.length<=maxLen->ShV (.string s) (.string ⟨s'.toArray⟩)
 | same {v}:ShV v v
inductive ShL:N Value->N Value->Prop
 | nil:ShL [] []
 | cons {v v' vs vs'}:ShV v v'->ShL vs vs'->ShL (v::vs) (v'::vs')
mutual
inductive RepS (h:A6):D->Value->Prop
 | int {k n n'}:k.min<=n'->n'<=k.max->RepS h (.int k n) (.int k n')
 | bool {b b'}:RepS h (.bool b) (.bool b')
 | str {s} {s':N Z}:s'.length<=maxLen->RepS h (.str s) (.string ⟨s'.toArray⟩)
 | nil {a cap}:RepS h (.sl []) (.slice a 0 cap)
 | sl {es b C sz off cap len}:h b C->0<sz->RepSRows h sz es (C.drop off)->len=es.length->len<=cap->cap<=maxLen->RepS h (.sl es) (.slice (G ⟨b,off,L⟩) len cap)
 | slb {es k b C sz off cap len}:h b C->0<sz->RepSRows h sz es (C.drop off)->len=es.length->len<=cap->cap<=maxLen->RepS h (.slb b k es) (.slice (G ⟨b,off,L⟩) len cap)
 | pd {cs b C off}:h b C->RepSs h cs (C.drop off)->RepS h (.pd cs) (.pointer (G ⟨b,off,L⟩))
 | clo {f caps vs}:RepSs h caps vs->caps.length=vs.length->RepS h (.clo f caps) (.func (.func f) #[] vs.toArray)
 | ifc {t d v}:RepS h d v->RepS h (.ifc t d) (.iface t v)
 | ifs {t cs vs}:RepSs h cs vs->cs.length=vs.length->RepS h (.ifs t cs) (.iface t (.agg vs.toArray))
 | noi:RepS h .noi .nilIface
inductive RepSs (h:A6):N D->N Value->Prop
 | nil {vs}:RepSs h [] vs
 | cons {d v ds vs}:RepS h d v->RepSs h ds vs->RepSs h (d::ds) (v::vs)
inductive RepSRows (h:A6):W->N (N D)->N Value->Prop
 | nil {sz vs}:RepSRows h sz [] vs
 | cons {sz d ds vs}:d.length=sz->RepSs h d vs->RepSRows h sz ds (vs.drop sz)->RepSRows h sz (d::ds) vs
end
structure Ar where
 A:W->W × W->Prop
 o:A6
 v:A6
 new:V
abbrev B9:=W->W × W->Prop
instance:CoeFun Ar (fun _=>W->W × W->Prop):=⟨Ar.A⟩
instance:Coe Ar B9:=⟨Ar.A⟩
def Ar.of(A:B9):Ar:=⟨A,BP,BP,E⟩
abbrev Rows:=N (W × W × N (N D))
structure St where
 env:N (W × AV)
 bx:N (W × N AC)
 rows:Rows
def A1{α:Type}:N (W × α)->W->O α
 | [],_=>L
 | (k,v)::r,n=>bif k==n then G v else A1 r n
def put{α:Type}:N (W × α)->W->α->N (W × α)
 | [],n,v=> [(n,v)]
 | (k,u)::r,n,v=>bif k==n then(k,v)::r else(k,u)::put r n v
def St.get(M:St)(k:W):AV:=(A1 M.env k).getD .undef
def St.set(M:St)(k:W)(v:AV):St:={M with env:=put M.env k v}
def Bm{α:Type}:∀(l:N (W × α)) (n:W) (v:α),A1 (put l n v) n=G v
 | [],n,v=>by simp[put,A1]
 | (k,u)::r,n,v=>by
  by_cases h:k=n
  .simp[put,A1,h]
  .have h':(k==n)=E:=by simpa using h
   simp[put,A1,h',Bm r n v]
def Bn{α:Type}:∀(l:N (W × α)) {n m:W} (v:α),m≠n->A1 (put l n v) m=A1 l m
 | [],n,m,v,hne=>by
  have:(n==m)=E:=by simpa using fun e=>hne e.symm
  simp[put,A1,this]
 | (k,u)::r,n,m,v,hne=>by
  by_cases h:k=n
  .subst h;have:(k==m)=E:=by simpa using fun e=>hne e.symm
   simp[put,A1,this]
  .have h':(k==n)=E:=by simpa using h
   simp only[put,h',cond_false,A1];rw[Bn r v hne]
def St.get_set_same(M:St)(k:W)(v:AV):(M.set k v).get k=v:=by simp[St.get,St.set,Bm]
def St.get_set_ne(M:St){k m:W}(v:AV)(h:m≠k):(M.set k v).get m=M.get m:=by simp[St.get,St.set,Bn _ v h]
abbrev Ac:=W->O W
def A9(A:B9)(nm:Ac)(w:World):A6:=fun b C=>(∀i,nm i≠G b)/\∃c t fr,A b fr/\w.heap[b]?=G (.cells c t fr)/\c.toList=C
def B7(w:World):A6:=fun b C=>∃c t fr,w.heap[b]?=G (.cells c t fr)/\c.toList=C
structure OwnB (h:A6) (w:World) (b sz cap:W) (es:N (N D)):Prop where
 pos:0<sz
 room:es.length<=cap
 small:cap<=maxLen
 row:∃C t,w.heap[b]?=G (.cells C t (0,0))/\C.size=cap*sz/\RepRows h sz es C.toList
structure Cx where
 nm:Ac
 rs:Rows
 h:A6
 w:World
 o:A6
 v:A6
 new:V
inductive CRel (X:Cx):AC->Value->Prop
 | undef {v}:v.oneCell'=T->CRel X .undef v
 | dat {d v}:Rep X.h d v->CRel X (.dat d) v
 | ownNil {id sz a}:A1 X.rs id=G (sz,[])->X.nm (2*id+1)=L->CRel X (.own id) (.slice a 0 0)
 | own {id sz es b cap len}:A1 X.rs id=G (sz,es)->X.nm (2*id+1)=G b->OwnB X.h X.w b sz cap es->len=es.length->CRel X (.own id) (.slice (G ⟨b,0,L⟩) len cap)
 | ownDead {id v}:A1 X.rs id=L->v.oneCell'=T->CRel X (.own id) v
 | osubNil {id sz a}:A1 X.rs id=G (sz,[])->X.nm (2*id+1)=L->CRel X (.osub id 0 0) (.slice a 0 0)
 | osub {id sz es lo hi b cap cap' len off}:A1 X.rs id=G (sz,es)->X.nm (2*id+1)=G b->OwnB X.h X.w b sz cap es->lo<=hi->hi<=es.length->((lo<hi->off=lo*sz)/\(lo=0->off=0/\cap'=cap))->len=hi - lo->len<=cap'->cap'<=maxLen->
   CRel X (.osub id lo hi) (.slice (G ⟨b,off,L⟩) len cap')
 | osubDead {id lo hi v}:A1 X.rs id=L->v.oneCell'=T->CRel X (.osub id lo hi) v
 | nil:CRel X .nil (.slice L 0 0)
 | pb {id off b}:X.nm (2*id)=G b->CRel X (.pb id off) (.pointer (G ⟨b,off,L⟩))
 | pe {id sz es idx off b cap o}:A1 X.rs id=G (sz,es)->X.nm (2*id+1)=G b->OwnB X.h X.w b sz cap es->idx<es.length->o=idx*sz+off->CRel X (.pe id idx off) (.pointer (G ⟨b,o,L⟩))
 | peDead {id idx off v}:A1 X.rs id=L->v.oneCell'=T->CRel X (.pe id idx off) v
 | clo {f ids bs}:ids.mapM (fun i=>X.nm (2*i))=G bs->CRel X (.clo f ids) (.func (.func f) #[] (bs.map fun b=>Value.pointer (G ⟨b,0,L⟩)).toArray)
 | z {a}:CRel X .z (.slice a 0 0)
 | old {d v}:X.new=T->Rep X.o d v->CRel X (.old d) v
 | mix {d v}:Rep (fun b C=>X.o b C\/X.h b C) d v->CRel X (.mix d) v
 | nw {v}:X.new=T->v.oneCell'=T->CRel X .nw v
 | vol {d v0 v}:RepS X.v d v0->ShV v0 v->CRel X (.vol d) v
 | ipb {t id b}:X.nm (2*id)=G b->CRel X (.ipb t id) (.iface t (.pointer (G ⟨b,0,L⟩)))
inductive CRels (X:Cx):N AC->N Value->Prop
 | nil:CRels X [] []
 | cons {c v cs vs}:CRel X c v->CRels X cs vs->CRels X (c::cs) (v::vs)
inductive V1Rel (X:Cx):V1->Value->Prop
 | sc {c v}:CRel X c v->V1Rel X (.sc c) v
 | ag {cs vs}:CRels X cs vs->V1Rel X (.ag cs) (.agg vs.toArray)
inductive V1Rels (X:Cx):N V1->N Value->Prop
 | nil:V1Rels X [] []
 | cons {c v cs vs}:V1Rel X c v->V1Rels X cs vs->V1Rels X (c::cs) (v::vs)
inductive VRel (X:Cx):AV->Value->Prop
 | undef {v}:VRel X .undef v
 | no:VRel X .no undef
 | v {x v}:V1Rel X x v->VRel X (.v x) v
 | tup {l vs}:V1Rels X l vs->VRel X (.tup l) (.tuple vs.toArray)
 | ev {c u v}:CRel X c u->VRel X (.ev c) v
def BoxRel(X:Cx)(id:W)(cs:N AC):Prop:=
 ∃b C t,X.nm (2*id)=G b/\X.w.heap[b]?=G (.cells C t (0,0))/\CRels X cs C.toList
def cx(A:Ar)(nm:Ac)(M:St)(w:World):Cx:=⟨nm,M.rows,A9 A nm w,w,A.o,A.v,A.new⟩
def AG:W:=199999999998
structure Base where
 w:World
 np:Ac
 ms:W->Prop
 lt:∀b,ms b->b<w.heap.size
 vv:W->Prop
 no:∀b,vv b->¬((∃i,AG<=i/\np i=G b)\/ms b)
def Base.of(w:World)(np:Ac):Base:=⟨w,np,fun _=>False,fun _ h=>h.elim,fun _=>False,fun _ h=>h.elim⟩
def Base.M(b0:Base)(b:W):Prop:=(∃i,AG<=i/\b0.np i=G b)\/b0.ms b
def Base.of_M{w:World}{np:Ac}{b:W}(h:(Base.of w np).M b):∃i,AG<=i/\np i=G b:=h.elim id fun h=>h.elim
structure BelowX (B:W) (b0:Base) (w':World):Prop where
 os:w'.os=b0.w.os
 tape:w'.tape=b0.w.tape
 output:w'.output=b0.w.output
 size:b0.w.heap.size<=w'.heap.size
 block:∀k,k<B->¬b0.M k->¬b0.vv k->w'.heap[k]?=b0.w.heap[k]?
 room:∀k,b0.M k->∀C t fr,b0.w.heap[k]?=G (.cells C t fr)->∃C':Array Value,w'.heap[k]?=G (.cells C' t fr)/\C'.size=C.size
 vlt:∀k,b0.vv k->k<B
 shape:∀k,b0.vv k->∀C t fr,b0.w.heap[k]?=G (.cells C t fr)->∃C':Array Value,w'.heap[k]?=G (.cells C' t fr)/\ShL C.toList C'.toList
def ShL.refl:∀l:N Value,ShL l l
 | []=> .nil
 | _::r=> .cons .same (ShL.refl r)
def BelowX.start(B:W)(b0:Base)(hv:∀k,b0.vv k->k<B):BelowX B b0 b0.w:=⟨rfl,rfl,rfl,zM _,fun _ _ _ _=>rfl,fun _ _ C _ _ h=>⟨C,h,rfl⟩,hv,fun _ _ C _ _ h=>⟨C,h,.refl _⟩⟩
def DO{w:World}{k:W}{o:Obj}(h:w.heap[k]?=G o):k<w.heap.size:=(Array.getElem?_eq_some_iff.1 h).1
def BelowX.trans{B:W}{b0:Base}{a c:World}(h:BelowX B b0 a)(hM:∀k,b0.M k->k<a.heap.size)(k:RowKit.Below a.heap.size a c)(hB:B<=a.heap.size):BelowX B b0 c:=
 ⟨k.os.trans h.os,k.tape.trans h.tape,k.output.trans h.output,zY h.size k.size,fun j hj hm hv=>(k.block j a9).trans (h.block j hj hm hv),fun j hm C t fr hC=>by
  obtain⟨C',h1,h2⟩:=h.room j hm C t fr hC;exact⟨C',(k.block j (hM j hm)).trans h1,h2⟩,h.vlt,fun j hv C t fr hC=>by
  obtain⟨C',h1,h2⟩:=h.shape j hv C t fr hC;exact⟨C',(k.block j (DO h1)).trans h1,h2⟩⟩
def BelowX.plain{B:W}{w w':World}{np:Ac}(h:BelowX B (.of w np) w')(hn:∀i,np i=L):RowKit.Below B w w':=
 ⟨h.os,h.tape,h.output,h.size,fun k hk=>h.block k hk (fun hm=>by obtain⟨i,_,e⟩:=Base.of_M hm; have:=hn i; simp_all) (fun h=>h.elim)⟩
structure Glob (A:Ar) (B:W) (w0:Base):Prop where
 all:∀b,(B<=b\/w0.ms b)->A b (0,0)
 old:∀b C,A.o b C->b<B/\¬w0.M b/\¬w0.vv b/\∃c t fr,w0.w.heap[b]?=G (.cells c t fr)/\c.toList=C
 vol:∀b C,A.v b C->w0.vv b/\∃c t fr,w0.w.heap[b]?=G (.cells c t fr)/\c.toList=C/\fr=(0,0)
 vout:∀b fr,w0.vv b->¬A b fr
 new:A.new=T->∀b fr,A b fr->(B<=b\/w0.ms b)/\fr=(0,0)
structure Rel (A:Ar) (B:W) (w0:Base) (nm:Ac) (M:St) (tmps:Array Value) (w:World):Prop where
 below:BelowX B w0 w
 size:B<=w.heap.size
 all:Glob A B w0
 good:∀w2,BelowX B w0 w2->GoodW w2
 names:∀i b,nm i=G b->(B<=b\/w0.M b)/\b<w.heap.size
 inj:∀i j b,nm i=G b->nm j=G b->i=j
 pin:∀i,AG<=i->nm i=w0.np i
 env:∀k,VRel (cx A nm M w) (M.get k) (tmps.getD k undef)
 bxs:∀id cs,A1 M.bx id=G cs->BoxRel (cx A nm M w) id cs
section
variable {A : Ar} {B : W} {w0 : Base} {w : World} {nm : Ac} {M : St} {tmps : Array Value}
def Rel.there(R:Rel A B w0 nm M tmps w):∀k,w0.M k->k<w.heap.size:=fun k hk=>hk.elim (fun⟨i,hi,e⟩=>(R.names i k ((R.pin i hi).trans e)).2) fun h=>Nat.lt_of_lt_of_le (w0.lt k h) R.below.size
def Rel.mine(R:Rel A B w0 nm M tmps w){i b:W}(hi:i<AG)(h:nm i=G b):B<=b\/w0.ms b:=by
 rcases(R.names i b h).1 with h1|⟨j,hj,e⟩|h1
 .exact .inl h1
 .have:=R.inj i j b h ((R.pin j hj).trans e);omega
 .exact .inr h1
end
end
inductive Opd where
 | t (n:W)
 | c (v:AV)
 deriving Inhabited
inductive FK where
 | i | b | s
inductive AOp where
 | mv (d:W) (x:Opd)
 | pick (d:W) (c a b:Opd)
 | box (d:W) (x:Opd)
 | alloc (d:W) (cs:N AC)
 | build (d:W) (zs:N AC) (parts:N (W × W × Opd))
 | bslice (d sz:W) (zs:N D) (len:W) (parts:N (W × Opd))
 | load (d:W) (x:Opd) (agg:V) (n:W)
 | store (x y:Opd) (n:W)
 | clr (x:Opd) (sz:W) (zs:N D)
 | nilc (d:W) (x:Opd)
 | bin (d:W) (op:BinOp) (x y:Opd)
 | beq (d:W) (neg:V) (x y:Opd)
 | geq (d:W) (neg:V) (ks:N FK) (x y:Opd)
 | un (d:W) (op:UnOp) (x:Opd)
 | conv (d:W) (k:IntKind) (x:Opd)
 | mksl (d sz bytes:W) (zs:N D) (len cap:Opd)
 | slc (d sz:W) (x:Opd) (lo hi mx:O Opd)
 | sslc (d:W) (x:Opd) (lo hi:O Opd)
 | faddr (d:W) (x:Opd) (off:W)
 | field (d:W) (x:Opd) (off:W) (agg:V) (n:W)
 | iaddr (d:W) (x i:Opd) (sz:W)
 | aaddr (d:W) (x i:Opd) (len sz:W)
 | idx (d:W) (x i:Opd)
 | extr (d:W) (x:Opd) (i:W)
 | len (d:W) (x:Opd)
 | slen (d:W) (x:Opd)
 | sconv (d:W) (x:Opd)
 | app (d sz bytes:W) (x y:Opd)
 | mm (d:W) (isMax:V) (x y:Opd)
 | mkf (d:W) (f:FuncId) (caps:N Opd)
 | call (d:W) (f:FuncId) (args:N Opd)
 | callv (d:W) (x:Opd) (args:N Opd)
 | zsl (d:W)
 | zap (d sz bytes:W) (x y:Opd)
 | mkif (d:W) (t:TypeId) (x:Opd)
 | tass (d:W) (x:Opd) (t:TypeId) (zc:AC)
 | drop (ks:N W)
 | own (d j id sz:W)
 | ownb (b j id sz:W)
 | ren (a b:W)
 | frz (id:W)
 | frzb (id:W)
 | forget (gs:N W)
 | keep (ks bs rs:N W)
 | cut (d:W)
 deriving Inhabited
def St.val(M:St):Opd->AV
 | .t n=>M.get n
 | .c v=>v
def AC.kill(id:W):AC->AC
 | .own i=>bif i==id then .undef else .own i
 | .osub i lo hi=>bif i==id then .undef else .osub i lo hi
 | .pe i x o=>bif i==id then .undef else .pe i x o
 | c=>c
def AC.ren(a b:W):AC->AC
 | .own i=> .own (bif i==a then b else i)
 | .osub i lo hi=> .osub (bif i==a then b else i) lo hi
 | .pe i x o=> .pe (bif i==a then b else i) x o
 | c=>c
def AC.frz(id:W)(es:N (N D)):AC->AC
 | .own i=>bif i==id then .dat (.sl es) else .own i
 | .osub i lo hi=>bif i==id then .undef else .osub i lo hi
 | .pe i x o=>bif i==id then .undef else .pe i x o
 | c=>c
def AC.frzb(id:W)(ds:N D):AC->AC
 | .pb i off=>bif i==id then .dat (.pd (ds.drop off)) else .pb i off
 | .clo f ids=>bif ids.contains id then .undef else .clo f ids
 | .ipb t i=>bif i==id then .undef else .ipb t i
 | c=>c
def AC.uses(g:W):AC->V
 | .own i | .osub i _ _ | .pe i _ _=>i / 64==g
 | .pb i _=>i==g
 | .ipb _ i=>i==g
 | .clo _ ids=>ids.any (· == g)
 | _=>E
def V1.map(f:AC->AC):V1->V1
 | .sc c=> .sc (f c)
 | .ag cs=> .ag (cs.map f)
def AV.map(f:AC->AC):AV->AV
 | .undef=> .undef
 | .no=> .no
 | .v x=> .v (x.map f)
 | .tup l=> .tup (l.map (V1.map f))
 | .ev c=> .ev (f c)
def V1.cells:V1->N AC
 | .sc c=> [c]
 | .ag cs=>cs
def AV.cells:AV->N AC
 | .undef | .no=> []
 | .v x=>x.cells
 | .tup l=>l.flatMap V1.cells
 | .ev c=> [c]
def St.map(f:AC->AC)(M:St):St:={M with env:=M.env.map fun(k,v)=>(k,v.map f),bx:=M.bx.map fun(k,cs)=>(k,cs.map f)}
def St.fresh(M:St)(g:W):V:=
 decide (g<1073741824)&&(M.env.all (fun p=>p.2.cells.all fun c=> !c.uses g)&&M.bx.all (fun p=>p.1 !=g&&p.2.all fun c=> !c.uses g))
def AC.has(id:W):AC->V
 | .own i | .osub i _ _ | .pe i _ _=>i==id
 | _=>E
def St.has(M:St)(id:W):V:=(M.env.any fun p=>p.2.cells.any (·.has id)) || M.bx.any fun p=>p.2.any (·.has id)
def erase{α:Type}(l:N (W × α))(ks:N W):N (W × α):=l.filter fun p=> !ks.contains p.1
def St.drop(M:St)(ks:N W):St:={M with env:=erase M.env ks}
def toD0(rs:Rows):AC->O D
 | .dat d=>G d
 | .own id=>match A1 rs id with
  | some (_,es)=>G (.sl es)
  | none=>L
 | .osub id lo hi=>match A1 rs id with
  | some (_,es)=>G (.sl ((es.drop lo).take (hi - lo)))
  | none=>L
 | .nil=>G (.sl [])
 | _=>L
def toD1(rs:Rows):AC->O D
 | .old d | .mix d=>G d
 | c=>toD0 rs c
def D.fl:D->V
 | .int .. | .bool _ | .str _=>T
 | _=>E
def CT(d:D):AC:=bif d.fl then .dat d else .old d
def Mu:D->D->V
 | .int k _,.int k' _=>k==k'
 | .bool _,.bool _=>T
 | .str _,.str _=>T
 | _,_=>E
def toD0s(rs:Rows):N AC->O (N D)
 | []=>G []
 | c::cs=>match toD1 rs c,toD0s rs cs with
  | some d,G ds=>G (d::ds)
  | _,_=>L
def Fo:AC->O D
 | .dat d=>G d
 | .nil=>G (.sl [])
 | _=>L
def D7:N AC->O (N D)
 | []=>G []
 | c::cs=>match Fo c,D7 cs with
  | some d,G ds=>G (d::ds)
  | _,_=>L
def St.pdOf(M:St)(id off:W):O D:=match A1 M.bx id with
 | some cs=>(toD0s M.rows (cs.drop off)).map .pd
 | none=>L
def St.pdsOf(M:St):N W->O (N D)
 | []=>G []
 | i::is=>match M.pdOf i 0,St.pdsOf M is with
  | some d,G ds=>G (d::ds)
  | _,_=>L
def St.toD(M:St):AC->O D
 | .pb id off=>M.pdOf id off
 | .pe id idx off=>match A1 M.rows id with
  | some (_,es)=>(es[idx]?).map fun d=> .pd (d.drop off)
  | none=>L
 | .clo f ids=>(M.pdsOf ids).map (.clo f)
 | c=>toD1 M.rows c
inductive DV where
 | sc (d:D)
 | ag (ds:N D)
def St.toDV(M:St):AV->O DV
 | .v (.sc c)=>(M.toD c).map .sc
 | .v (.ag cs)=>(toD0s M.rows cs).map .ag
 | _=>L
def St.toDVs(M:St):N Opd->O (N DV)
 | []=>G []
 | x::xs=>match M.toDV (M.val x),M.toDVs xs with
  | some d,G ds=>G (d::ds)
  | _,_=>L
inductive RC where
 | v (d:D)
 | o (sz:W) (es:N (N D))
inductive R1 where
 | sc (c:RC)
 | ag (cs:N RC)
def RC.inst(g j:W):RC->AC
 | .v d=> .dat d
 | .o _ _=> .own (g*64+j)
def Er(g:W):W->N RC->N AC
 | _,[]=> []
 | j,c::cs=>c.inst g j::Er g (j+1) cs
def R1.inst(g j:W):R1->V1
 | .sc c=> .sc (c.inst g j)
 | .ag cs=> .ag (Er g j cs)
def R1.width:R1->W
 | .sc _=>1
 | .ag cs=>cs.length
def Dv(g:W):W->N R1->N V1
 | _,[]=> []
 | j,r::rs=>r.inst g j::Dv g (j+r.width) rs
def BR(g:W):W->N RC->Rows
 | _,[]=> []
 | j,.v _::cs=>BR g (j+1) cs
 | j,.o sz es::cs=>(g*64+j,sz,es)::BR g (j+1) cs
def R1.cells:R1->N RC
 | .sc c=> [c]
 | .ag cs=>cs
def BI(g:W)(rs:N R1):Rows:=BR g 0 (rs.flatMap R1.cells)
def BN(g:W):N R1->AV
 | [r]=> .v (r.inst g 0)
 | rs=> .tup (Dv g 0 rs)
def Bl(op:BinOp)(k:IntKind)(x y:Q):Q:=
 match op with
 | .and=>k.wrap (BitVec.ofInt k.bits x &&& BitVec.ofInt k.bits y).toNat
 | .or=>k.wrap (BitVec.ofInt k.bits x ||| BitVec.ofInt k.bits y).toNat
 | .xor=>k.wrap (BitVec.ofInt k.bits x ^^^ BitVec.ofInt k.bits y).toNat
 | _=>k.wrap (BitVec.ofInt k.bits x &&& ~~~ BitVec.ofInt k.bits y).toNat
def AX(op:BinOp)(k:IntKind)(x y:Q):O D:=
 match op with
 | .add=>G (.int k (k.wrap (x+y)))
 | .sub=>G (.int k (k.wrap (x - y)))
 | .mul=>G (.int k (k.wrap (x*y)))
 | .quo=>if y=0 then L else G (.int k (k.wrap (x.tdiv y)))
 | .rem=>if y=0 then L else G (.int k (k.wrap (x.tmod y)))
 | .and | .or | .xor | .andNot=>G (.int k (Bl op k x y))
 | .shl=>if y<0 then L else G (.int k (k.wrap (x*2 ^ min y.toNat k.bits)))
 | .shr=>if y<0 then L else G (.int k (k.wrap (x.fdiv (2 ^ min y.toNat k.bits))))
 | .eql=>G (.bool (x==y))
 | .neq=>G (.bool (x !=y))
 | .lss=>G (.bool (decide (x<y)))
 | .leq=>G (.bool (decide (x<=y)))
 | .gtr=>G (.bool (decide (y<x)))
 | .geq=>G (.bool (decide (y<=x)))
def I6(op:BinOp)(x y:N Z):O D:=
 match op with
 | .add=>if x.length+y.length<=4611686018427387904 then G (.str (x++y)) else L
 | .eql=>G (.bool (x==y))
 | .neq=>G (.bool (!(x==y)))
 | _=>L
def CM(op:BinOp):AV->AV->O AV
 | .v (.sc (.dat (.int k x))),.v (.sc (.dat (.int k' y)))=>if k=k'\/op= .shl\/op= .shr then(AX op k x y).map fun d=> .v (.sc (.dat d)) else L
 | .v (.sc (.dat (.str x))),.v (.sc (.dat (.str y)))=>(I6 op x y).map fun d=> .v (.sc (.dat d))
 | _,_=>L
def KP(neg:V):AV->AV->O AV
 | .v (.sc (.dat (.bool x))),.v (.sc (.dat (.bool y)))=>G (.v (.sc (.dat (.bool (bif neg then !(x==y) else x==y)))))
 | _,_=>L
def Bu:N FK->N AC->N AC->O V
 | [],[],[]=>G T
 | .i::ks,.dat (.int k x)::cs,.dat (.int k' y)::ds=>if k=k' then(Bu ks cs ds).map fun b=>(x==y)&&b else L
 | .b::ks,.dat (.bool x)::cs,.dat (.bool y)::ds=>(Bu ks cs ds).map fun b=>(x==y)&&b
 | .s::ks,.dat (.str x)::cs,.dat (.str y)::ds=>(Bu ks cs ds).map fun b=>(x==y)&&b
 | _,_,_=>L
def Md(neg:V)(ks:N FK):AV->AV->O AV
 | .v (.ag cs),.v (.ag ds)=>(Bu ks cs ds).map fun b=> .v (.sc (.dat (.bool (bif neg then !b else b))))
 | _,_=>L
def HS(P:Program):N Field->W->O (N FK)
 | [],_=>G []
 | f :: fs,i => if f.name ≠ "_" ∧ f.offset = i then (match P.underlying f.type with
   | some (.int _)=>(HS P fs (i+1)).map (.i:: ·)
   | some .bool=>(HS P fs (i+1)).map (.b:: ·)
   | some .string=>(HS P fs (i+1)).map (.s:: ·)
   | _=>L) else L
def SH(P:Program)(t:TypeId):O (N FK):=
 match P.underlying t with
 | some (.struct fs)=>if P.eqGuardType P.depth t=E/\P.stoodInHeld t=E then HS P fs.toList 0 else L
 | _=>L
def KC(op:UnOp):AV->O AV
 | .v (.sc (.dat (.bool b)))=>match op with | .not=>G (.v (.sc (.dat (.bool (!b))))) | _=>L
 | .v (.sc (.dat (.int k x)))=>match op with
  | .neg=>G (.v (.sc (.dat (.int k (k.wrap (0 - x))))))
  | .xor=>G (.v (.sc (.dat (.int k (Bl .xor k (if k.signed then -1 else k.max) x)))))
  | _=>L
 | _=>L
def ix{α:Type}(l:N α)(i:Q):O α:=if 0<=i then l[i.toNat]? else L
def D1(cs:N AC)(off:W)(agg:V)(n:W):O AV:=
 bif agg then(if off+n<=cs.length then G (.v (.ag ((cs.drop off).take n))) else L) else(cs[off]?).map fun c=> .v (.sc c)
def CS(M:St)(agg:V)(n:W):AV->O AV
 | .v (.sc (.pb id off))=>(match A1 M.bx id with
  | some cs=>D1 cs off agg n
  | none=>L)
 | .v (.sc (.pe id i off))=>(match A1 M.rows id with
  | some (_,es)=>(match es[i]? with
   | some d=>D1 (d.map .dat) off agg n
   | none=>L)
  | none=>L)
 | .v (.sc (.dat (.pd cs)))=>D1 (cs.map .dat) 0 agg n
 | .v (.sc (.old (.pd cs)))=>D1 (cs.map CT) 0 agg n
 | .v (.sc (.vol (.pd (.sl es::_))))=>bif agg then L else G (.v (.sc (.vol (.sl es))))
 | _=>L
def CA(rs:Rows)(off:W):AV->O AV
 | .v (.sc (.pb id o))=>G (.v (.sc (.pb id (o+off))))
 | .v (.sc (.pe id i o))=>match A1 rs id with
  | some _=>G (.v (.sc (.pe id i (o+off))))
  | none=>L
 | .v (.sc (.dat (.pd cs)))=>if off<=cs.length then G (.v (.sc (.dat (.pd (cs.drop off))))) else L
 | .v (.sc (.old (.pd cs)))=>if off<=cs.length then G (.v (.sc (.old (.pd (cs.drop off))))) else L
 | .v (.sc (.vol (.pd cs)))=>if off<=cs.length then G (.v (.sc (.vol (.pd (cs.drop off))))) else L
 | _=>L
def HJ(off:W)(agg:V)(n:W):AV->O AV
 | .v (.ag cs)=>D1 cs off agg n
 | _=>L
def Dc(rs:Rows)(sz:W):AV->AV->O AV
 | .v (.sc (.dat (.sl es))),.v (.sc (.dat (.int _ i)))=>(match ix es i with
  | some d=>if d.length=sz/\0<sz then G (.v (.sc (.dat (.pd d)))) else L
  | none=>L)
 | .v (.sc (.old (.sl es))),.v (.sc (.dat (.int _ i)))=>(match ix es i with
  | some d=>if d.length=sz/\0<sz then G (.v (.sc (.old (.pd d)))) else L
  | none=>L)
 | .v (.sc (.vol (.sl es))),.v (.sc (.dat (.int _ i)))=>(match ix es i with
  | some d=>if d.length=sz/\0<sz then G (.v (.sc (.vol (.pd d)))) else L
  | none=>L)
 | .v (.sc (.own id)),.v (.sc (.dat (.int _ i)))=>(match A1 rs id with
  | some (sz',es)=>(match ix es i with
   | some _=>if sz'=sz then G (.v (.sc (.pe id i.toNat 0))) else L
   | none=>L)
  | none=>L)
 | _,_=>L
def MT(len sz:W):AV->AV->O AV
 | .v (.sc (.pb id off)),.v (.sc (.dat (.int _ i)))=>if 0<=i/\i<len then G (.v (.sc (.pb id (off+i.toNat*sz)))) else L
 | _,_=>L
def Mg:AV->AV->O AV
 | .v (.sc (.dat (.str s))),.v (.sc (.dat (.int _ i)))=>(ix s i).map fun b=> .v (.sc (.dat (.int .u8 b.toNat)))
 | _,_=>L
def MH:AV->O AV
 | .v (.sc (.dat (.str s)))=>G (.v (.sc (.dat (.int .i64 s.length))))
 | _=>L
def Dm:N (N D)->O (N Z)
 | []=>G []
 | [.int .u8 n]::r=>(Dm r).map (UInt8.ofNat n.toNat:: ·)
 | _=>L
def I4(rs:Rows):AV->O AV
 | .v (.sc (.dat (.sl es)))=>(Dm es).map fun b=> .v (.sc (.dat (.str b)))
 | .v (.sc (.own id))=>match A1 rs id with
  | some (_,es)=>(Dm es).map fun b=> .v (.sc (.dat (.str b)))
  | none=>L
 | _=>L
def Et(rs:Rows):AV->O AV
 | .v (.sc (.dat (.sl es)))=>G (.v (.sc (.dat (.int .i64 es.length))))
 | .v (.sc (.own id))=>match A1 rs id with
  | some (_,es)=>G (.v (.sc (.dat (.int .i64 es.length))))
  | none=>L
 | .v (.sc .nil)=>G (.v (.sc (.dat (.int .i64 0))))
 | .v (.sc (.old (.sl es)))=>G (.v (.sc (.dat (.int .i64 es.length))))
 | .v (.sc (.vol (.sl es)))=>G (.v (.sc (.dat (.int .i64 es.length))))
 | _=>L
def Kj(isMax:V):AV->AV->O AV
 | .v (.sc (.dat (.int k x))),.v (.sc (.dat (.int k' y)))=>if k=k' then G (.v (.sc (.dat (.int k (bif isMax then(if x<y then y else x) else(if y<x then y else x)))))) else L
 | _,_=>L
def Cb:AV->O Q
 | .v (.sc (.dat (.int _ i)))=>G i
 | _=>L
def Ea(M:St)(lo hi mx:O Opd)(n:W):O (W × W):=
 match (match mx with | none=>G (n:Q) | some x=>Cb (M.val x)),(match hi with | none=>G (n:Q) | some x=>Cb (M.val x)),(match lo with | none=>G (0:Q) | some x=>Cb (M.val x)) with
 | some m,G h,G l=>if 0<=l/\l<=h/\h<=m/\m<=n then G (l.toNat,h.toNat) else L
 | _,_,_=>L
def Ez(M:St)(sz:W)(x:AV)(lo hi mx:O Opd):O AV:=
 match x with
 | .v (.sc (.dat (.sl es)))=>if es.all (fun d=>d.length==sz)&&decide (0<sz) then(Ea M lo hi mx es.length).map fun p=> .v (.sc (.dat (.sl ((es.drop p.1).take (p.2 - p.1))))) else L
 | .v (.sc (.own id))=>match A1 M.rows id with
  | some (sz',es)=>if sz'=sz/\mx.isNone=T then(Ea M lo hi mx es.length).map fun p=> .v (.sc (.osub id p.1 p.2)) else L
  | none=>L
 | .v (.sc .nil)=>(Ea M lo hi mx 0).map fun _=> .v (.sc .nil)
 | _=>L
def I5(M:St)(x:AV)(lo hi:O Opd):O AV:=
 match x with
 | .v (.sc (.dat (.str s)))=>(Ea M lo hi L s.length).map fun p=> .v (.sc (.dat (.str ((s.drop p.1).take (p.2 - p.1)))))
 | _=>L
def L4(i:W):AV->O AV
 | .tup l=>(l[i]?).map .v
 | _=>L
def MG:AV->AV->AV->O AV
 | .v (.sc (.dat (.bool b))),x,y=>G (bif b then x else y)
 | _,_,_=>L
def GD:AV->O AV
 | .v (.sc (.pb id off))=>G (.v (.sc (.pb id off)))
 | .v (.sc (.dat (.pd cs)))=>G (.v (.sc (.dat (.pd cs))))
 | .v (.sc (.old (.pd cs)))=>G (.v (.sc (.old (.pd cs))))
 | .v (.sc (.vol (.pd cs)))=>G (.v (.sc (.vol (.pd cs))))
 | _=>L
def GC(f:FuncId):N AV->O (N W)
 | []=>G []
 | .v (.sc (.pb id 0))::r=>(GC f r).map (id:: ·)
 | _=>L
def GB:N AV->O (N D)
 | []=>G []
 | .v (.sc (.dat (.pd ds)))::r=>(GB r).map (.pd ds:: ·)
 | _=>L
def GA(f:FuncId):N AV->O AC
 | .v (.sc (.dat d))::r=>(GB (.v (.sc (.dat d))::r)).map fun q=> .dat (.clo f q)
 | l=>(GC f l).map (.clo f)
def Db:N AC->N (W × W × AV)->O (N AC)
 | cs,[]=>G cs
 | cs,(off,n,.v x)::r=>if x.cells.length=n/\off+n<=cs.length then Db (cs.take off++x.cells++cs.drop (off+n)) r else L
 | _,_=>L
def V1.toDs(x:V1):O (N D):=D7 x.cells
def Gm(sz:W):N (N D)->N (W × AV)->O (N (N D))
 | es,[]=>G es
 | es,(i,.v x)::r=>match x.toDs with
  | some ds=>if ds.length=sz/\i<es.length then Gm sz (es.set i ds) r else L
  | none=>L
 | _,_=>L
def HW(t:TypeId):AV->O AV
 | .v (.sc (.dat d))=>G (.v (.sc (.dat (.ifc t d))))
 | .v (.sc (.pb id 0))=>G (.v (.sc (.ipb t id)))
 | .v (.ag cs)=>(D7 cs).map fun ds=> .v (.sc (.dat (.ifs t ds)))
 | _=>L
def MI(t:TypeId)(zc:AC):AV->O AV
 | .v (.sc (.dat (.ifc u d)))=>bif u==t then G (.tup [.sc (.dat d),.sc (.dat (.bool T))]) else G (.tup [.sc zc,.sc (.dat (.bool E))])
 | _=>L
def St.pure(M:St):AOp->O (W × AV)
 | .mv d x=>G (d,M.val x)
 | .pick d c a b=>(MG (M.val c) (M.val a) (M.val b)).map (d,·)
 | .build d zs ps=>(Db zs (ps.map fun p=>(p.1,p.2.1,M.val p.2.2))).map fun cs=>(d,.v (.ag cs))
 | .load d x agg n=>(CS M agg n (M.val x)).map (d,·)
 | .nilc d x=>(GD (M.val x)).map (d,·)
 | .bin d op x y=>(CM op (M.val x) (M.val y)).map (d,·)
 | .beq d g x y=>(KP g (M.val x) (M.val y)).map (d,·)
 | .geq d g ks x y=>(Md g ks (M.val x) (M.val y)).map (d,·)
 | .un d op x=>(KC op (M.val x)).map (d,·)
 | .conv d k x=>match M.val x with | .v (.sc (.dat (.int _ n)))=>G (d,.v (.sc (.dat (.int k (k.wrap n))))) | _=>L
 | .slc d sz x lo hi mx=>(Ez M sz (M.val x) lo hi mx).map (d,·)
 | .sslc d x lo hi=>(I5 M (M.val x) lo hi).map (d,·)
 | .faddr d x off=>(CA M.rows off (M.val x)).map (d,·)
 | .field d x off agg n=>(HJ off agg n (M.val x)).map (d,·)
 | .iaddr d x i sz=>(Dc M.rows sz (M.val x) (M.val i)).map (d,·)
 | .aaddr d x i len sz=>(MT len sz (M.val x) (M.val i)).map (d,·)
 | .idx d x i=>(Mg (M.val x) (M.val i)).map (d,·)
 | .extr d x i=>(L4 i (M.val x)).map (d,·)
 | .len d x=>(Et M.rows (M.val x)).map (d,·)
 | .slen d x=>(MH (M.val x)).map (d,·)
 | .sconv d x=>(I4 M.rows (M.val x)).map (d,·)
 | .mm d m x y=>(Kj m (M.val x) (M.val y)).map (d,·)
 | .mkf d f caps=>(GA f (caps.map M.val)).map fun c=>(d,.v (.sc c))
 | .zsl d=>G (d,.v (.sc .z))
 | .mkif d t x=>(HW t (M.val x)).map (d,·)
 | .tass d x t zc=>(MI t zc (M.val x)).map (d,·)
 | _=>L
def appSrc(rs:Rows):AV->O (N (N D))
 | .v (.sc c)=>match toD0 rs c with
  | some (.sl es)=>G es
  | _=>L
 | _=>L
def zapV(rs:Rows)(d sz bytes:W):AV->AV->O (W × W × N (N D))
 | .v (.sc .z),y=>match appSrc rs y with
  | some es=>if es.all (fun r=>r.length==sz)=T/\es.length*bytes<=140737488355328/\es.length<=4611686018427387904 then G (d,sz,es) else L
  | none=>L
 | _,_=>L
inductive Mk where
 | box (d:W) (cs:N AC)
 | row (d sz:W) (es:N (N D))
def St.made(M:St):AOp->O Mk
 | .box d x=>match M.val x with
  | .v y=>G (.box d y.cells)
  | _=>L
 | .alloc d cs=>G (.box d cs)
 | .bslice d sz zs len ps=>(match Gm sz (zC len zs) (ps.map fun p=>(p.1,M.val p.2)) with
  | some es=>if zs.length=sz then G (.row d sz es) else L
  | none=>L)
 | .mksl d sz bytes zs len cap=>match Cb (M.val len),Cb (M.val cap) with
  | some l,G c=>if 0<=l/\l<=c/\c*bytes<=140737488355328/\c<=4611686018427387904/\zs.length=sz then G (.row d sz (zC l.toNat zs)) else L
  | _,_=>L
 | .zap d sz bytes x y=>(zapV M.rows d sz bytes (M.val x) (M.val y)).map fun p=> .row p.1 p.2.1 p.2.2
 | _=>L
def GK(cs:N D)(off:W)(ds:N D):N D:=cs.take off++ds++cs.drop (off+ds.length)
def BS(cs:N AC)(off:W)(ds:N AC):N AC:=cs.take off++ds++cs.drop (off+ds.length)
def St.storeV(M:St)(n:W):AV->AV->O St
 | .v (.sc (.pb id off)),.v y=>(match A1 M.bx id with
  | some cs=>if y.cells.length=n/\off+n<=cs.length then G {M with bx:=put M.bx id (BS cs off y.cells)} else L
  | none=>L)
 | .v (.sc (.pe id i off)),.v y=>(match A1 M.rows id with
  | some (sz,es)=>(match es[i]?,y.toDs with
   | some d,G ds=>if ds.length=n/\off+n<=d.length then G {M with rows:=put M.rows id (sz,es.set i (GK d off ds))} else L
   | _,_=>L)
  | none=>L)
 | .v (.sc (.vol (.pd (c::_)))),.v (.sc (.dat d))=>bif n==1&&Mu c d then G M else L
 | _,_=>L
def St.clrV(M:St)(sz:W)(zs:N D):AV->O St
 | .v (.sc (.osub id lo hi))=>(match A1 M.rows id with
  | some (z,es)=>if z=sz/\zs.length=sz/\lo<=hi/\hi=es.length then G {M with rows:=put M.rows id (sz,es.take lo++zC (hi - lo) zs)} else L
  | none=>L)
 | _=>L
def St.appV(M:St)(d sz bytes:W):AV->AV->O St
 | .v (.sc (.own id)),y=>if id / 99999999999=0 then(match A1 M.rows id,appSrc M.rows y with
  | some (sz',es),G es'=>if sz'=sz/\es'.all (fun r=>r.length==sz)=T/\(es.length+es'.length)*bytes<=140737488355328/\es.length+es'.length<=4611686018427387904 then
    G {((M.map (AC.kill id)).set d (.v (.sc (.own id)))) with rows:=put M.rows id (sz,es++es')} else L
  | _,_=>L) else L
 | _,_=>L
def St.make(M:St):Mk->O St
 | .box d cs=>if M.fresh d&&cs.all (fun c=> !c.uses d) then G {(M.set d (.v (.sc (.pb d 0)))) with bx:=put M.bx d cs} else L
 | .row d sz es=>if M.fresh d then G {(M.set d (.v (.sc (.own (d*64))))) with rows:=put M.rows (d*64) (sz,es)} else L
def Cr{α:Type}(l:N (W × α)):N W->N (W × α)
 | []=> []
 | k::ks=>match A1 l k with
  | some v=>(k,v)::Cr l ks
  | none=>Cr l ks
def St.kept(M:St)(ks bs rs:N W):St:=⟨Cr M.env ks,Cr M.bx bs,Cr M.rows rs⟩
def St.step(M:St)(o:AOp):O St:=
 match o with
 | .store x y n=>M.storeV n (M.val x) (M.val y)
 | .clr x sz zs=>M.clrV sz zs (M.val x)
 | .app d sz bytes x y=>M.appV d sz bytes (M.val x) (M.val y)
 | .drop ks=>G (M.drop ks)
 | .forget gs=>G {M with bx:=M.bx.filter fun p=> !gs.contains p.1,rows:=M.rows.filter fun p=> !gs.contains (p.1 / 64)}
 | .keep ks bs rs=>G (M.kept ks bs rs)
 | .own d j id sz=>if M.has id || !(id / 99999999999==0) then L else match M.get d with
  | .v (.sc .nil)=>if j=0 then G {(M.set d (.v (.sc (.own id)))) with rows:=put M.rows id (sz,[])} else L
  | .v (.ag cs)=>match cs[j]? with
   | some .nil=>G {(M.set d (.v (.ag (cs.set j (.own id))))) with rows:=put M.rows id (sz,[])}
   | _=>L
  | _=>L
 | .ownb b j id sz=>if M.has id || !(id / 99999999999==0) then L else match A1 M.bx b with
  | some cs=>match cs[j]? with
   | some .nil=>G {M with bx:=put M.bx b (cs.set j (.own id)),rows:=put M.rows id (sz,[])}
   | _=>L
  | none=>L
 | .cut d=>match M.get d with
  | .v (.sc (.osub id 0 h))=>if id / 99999999999=0 then(match A1 M.rows id with
   | some (sz,es)=>if h<=es.length then G {((M.map (AC.kill id)).set d (.v (.sc (.own id)))) with rows:=put M.rows id (sz,es.take h)} else L
   | none=>L) else L
  | _=>L
 | .ren a b=>if M.has b || !(a / 99999999999==0&&b / 99999999999==0) then L else match A1 M.rows a with
  | some r=>G {(M.map (AC.ren a b)) with rows:=put (erase M.rows [a]) b r}
  | none=>L
 | .frz id=>if !(id / 99999999999==0) then L else match A1 M.rows id with
  | some (_,es)=>G {(M.map (AC.frz id es)) with rows:=erase M.rows [id]}
  | none=>G M
 | .frzb id=>if !(id / 99999999999==0) then L else match A1 M.bx id with
  | some cs=>match D7 cs with
   | some ds=>G (({M with bx:=erase M.bx [id]}:St).map (AC.frzb id ds))
   | none=>L
  | none=>L
 | o=>match M.pure o with
  | some (d,v)=>G (M.set d v)
  | none=>match M.made o with
   | some m=>M.make m
   | none=>L
def Iu:Value->AC
 | .int k n=>if k.min<=n/\n<=k.max then .dat (.int k n) else .undef
 | .bool b=> .dat (.bool b)
 | .string s=>if s.data.toList.length<=4096 then .dat (.str s.data.toList) else .undef
 | .slice L 0 0=> .nil
 | .nilIface=> .dat .noi
 | _=> .undef
def EI(l:N Value):O (N AC):=if l.all (·.oneCell') then G (l.map Iu) else L
def TW:Value->AV
 | .agg cs=>match EI cs.toList with
  | some l=> .v (.ag l)
  | none=> .undef
 | .tuple _=> .undef
 | v=> .v (.sc (Iu v))
def AJ:Operand->O Opd
 | .tmp t=>G (.t t)
 | .const v=>G (.c (TW v))
 | .func f=>G (.c (.v (.sc (.dat (.clo f [])))))
 | .global _=>L
def C8:N Operand->O (N Opd)
 | []=>G []
 | x::xs=>match AJ x,C8 xs with
  | some y,G ys=>G (y::ys)
  | _,_=>L
def MD:O Operand->O (O Opd)
 | none=>G L
 | some x=>(AJ x).map G
def EG(P:Program)(t:TypeId):O (V × W):=
 match P.underlying t,P.info? t with
 | some (.struct _),G i=>G (T,i.size)
 | some (.array _ _),G i=>G (T,i.size)
 | some _,G i=>G (E,i.size)
 | _,_=>L
def Rf(P:Program)(t:TypeId):O TypeInfo:=
 match P.underlying t with
 | some (.slice e)=>P.info? e
 | _=>L
def KF(P:Program)(t:TypeId):O (TypeInfo × Value):=
 match P.info? t with
 | some i=>i.zero.map fun z=>(i,z)
 | none=>L
def L2(P:Program)(t:TypeId):O (TypeInfo × Value):=
 match P.underlying t with
 | some (.slice e)=>KF P e
 | _=>L
def Qi(places:N (W × W)):N (W × Operand)->O (N (W × W × Opd))
 | []=>G []
 | (i,x)::r=>match places[i]?,AJ x,Qi places r with
  | some p,G y,G ys=>G ((p.1,p.2,y)::ys)
  | _,_,_=>L
def Qh(sz:W):N (W × Operand)->O (N (W × W × Opd))
 | []=>G []
 | (i,x)::r=>match AJ x,Qh sz r with
  | some y,G ys=>G ((i*sz,sz,y)::ys)
  | _,_=>L
def MF:N (W × Operand)->O (N (W × Opd))
 | []=>G []
 | (i,x)::r=>match AJ x,MF r with
  | some y,G ys=>G ((i,y)::ys)
  | _,_=>L
def Ad(P:Program)(d:W)(o:Oper):O AOp:=
 match o.op with
 | .move x | .assign x=>(AJ x).map (.mv d)
 | .pick c a b=>match AJ c,AJ a,AJ b with
  | some c,G a,G b=>G (.pick d c a b)
  | _,_,_=>L
 | .alloc elem=>match KF P elem with
  | some (_,z)=>(EI z.cells.toList).map (.alloc d)
  | none=>L
 | .box _ x=>(AJ x).map (.box d)
 | .build t ps=>match P.underlying t,KF P t with
  | some (.struct fs),G (_,z)=>match fs.toList.mapM (fun f=>(P.info? f.type).map fun i=>(f.offset,i.size)) with
   | some places=>match EI z.cells.toList,Qi places ps.toList with
    | some zs,G qs=>G (.build d zs qs)
    | _,_=>L
   | none=>L
  | some (.array _ e),G (_,z)=>match P.info? e with
   | some ie=>match EI z.cells.toList,Qh ie.size ps.toList with
    | some zs,G qs=>G (.build d zs qs)
    | _,_=>L
   | none=>L
  | _,_=>L
 | .buildSlice t len ps=>match L2 P t with
  | some (i,z)=>if z.cells.size=i.size/\0<i.size/\len*i.size<=16777216 then
    (match (EI z.cells.toList).bind D7,MF ps.toList with
    | some zs,G qs=>G (.bslice d i.size zs len qs)
    | _,_=>L) else L
  | none=>L
 | .load t x=>match EG P t,AJ x with
  | some (g,n),G y=>if g\/n=1 then G (.load d y g n) else L
  | _,_=>L
 | .nilCheck x=>(AJ x).map (.nilc d)
 | .binOp op t x y _=>match AJ x,AJ y with
  | some x,G y=>(match P.underlying t,op with
   | some .bool,.eql=>G (.beq d E x y)
   | some .bool,.neq=>G (.beq d T x y)
   | some (.struct _),.eql=>(SH P t).map fun ks=> .geq d E ks x y
   | some (.struct _),.neq=>(SH P t).map fun ks=> .geq d T ks x y
   | _,_=>G (.bin d op x y))
  | _,_=>L
 | .unOp op _ x=>(AJ x).map (.un d op)
 | .convert s t x=>match P.underlying s,P.underlying t,AJ x with
  | some _,G (.int k),G y=>G (.conv d k y)
  | some (.slice e),G .string,G y=>match P.underlying e with | some (.int .u8)=>G (.sconv d y) | _=>L
  | _,_,_=>L
 | .makeSlice t l c=>match L2 P t with
  | some (i,z)=>if z.cells.size=i.size/\0<i.size/\0<i.bytes then
    (match (EI z.cells.toList).bind D7,AJ l,AJ c with
    | some zs,G l,G c=>G (.mksl d i.size i.bytes zs l c)
    | _,_,_=>L) else L
  | none=>L
 | .slice t x lo hi mx=>match AJ x,MD lo,MD hi,MD mx with
  | some y,G l,G h,G m=>if h=L/\m≠L then L else match P.underlying t with
   | some .string=>if mx.isNone then G (.sslc d y l h) else L
   | some (.slice e)=>(P.info? e).map fun i=> .slc d i.size y l h m
   | _=>L
  | _,_,_,_=>L
 | .fieldAddr s x f=>match P.underlying s,AJ x with
  | some (.struct fs),G y=>match fs[f]? with
   | some fd=>match P.info? fd.type with
    | some i=>if i.size=0 then L else G (.faddr d y fd.offset)
    | none=>L
   | none=>L
  | _,_=>L
 | .field t x f=>match P.underlying t,AJ x with
  | some (.struct fs),G y=>match fs[f]? with
   | some fd=>match EG P fd.type with
    | some (g,n)=>if g\/n=1 then G (.field d y fd.offset g n) else L
    | none=>L
   | none=>L
  | _,_=>L
 | .indexAddr t x i=>match Rf P t,AJ x,AJ i with
  | some inf,G y,G j=>G (.iaddr d y j inf.size)
  | none,G y,G j=>(match P.underlying t with
   | some (.array len e)=>match P.info? e with
    | some ie=>match i with
     | .const (.int _ n)=>if 0<=n/\n<len/\ie.size≠0 then G (.faddr d y (n.toNat*ie.size)) else L
     | _=>G (.aaddr d y j len ie.size)
    | none=>L
   | _=>L)
  | _,_,_=>L
 | .index t x i=>match P.underlying t,AJ x,AJ i with
  | some .string,G y,G j=>G (.idx d y j)
  | some (.array len e),G y,G _=>(match EG P e,i with
   | some (g,m),.const (.int _ n)=>if 0<=n/\n<len/\(g=T\/m=1) then G (.field d y (n.toNat*m) g m) else L
   | _,_=>L)
  | _,_,_=>L
 | .extract x i=>(AJ x).map fun y=> .extr d y i
 | .makeInterface t x=>match P.underlying t,AJ x with
  | some (.interface _),_=>L
  | some _,G y=>G (.mkif d t y)
  | _,_=>L
 | .typeAssert x _ t ok=>match P.underlying t,KF P t,AJ x with
  | some (.interface _),_,_=>L
  | some _,G (_,z),G y=>if z.oneCell'=T/\ok=T then G (.tass d y t (Iu z)) else L
  | _,_,_=>L
 | .makeFunc (.func f) first caps=>if first.isEmpty then(C8 caps.toList).map (.mkf d f) else L
 | .call {callee:= .builtin .len,args,argTypes}=>match args.toList,argTypes.toList with
  | [x],[t]=>match P.underlying t,AJ x with
   | some .string,G y=>G (.slen d y)
   | some (.slice _),G y=>G (.len d y)
   | _,_=>L
  | _,_=>L
 | .call {callee:= .builtin .append,args,argTypes}=>match args.toList,argTypes.toList with
  | [x,y],[t,t']=>match L2 P t,P.underlying t',AJ x,AJ y with
   | some (i,z),G (.slice _),G a,G b=>if z.cells.size=i.size/\0<i.size/\0<i.bytes then G (.app d i.size i.bytes a b) else L
   | _,_,_,_=>L
  | _,_=>L
 | .call {callee:= .builtin .max,args,.. }=>match args.toList with
  | [x,y]=>match AJ x,AJ y with
   | some a,G b=>G (.mm d T a b)
   | _,_=>L
  | _=>L
 | .call {callee:= .builtin .min,args,.. }=>match args.toList with
  | [x,y]=>match AJ x,AJ y with
   | some a,G b=>G (.mm d E a b)
   | _,_=>L
  | _=>L
 | .call {callee:= .value (.func f),args,.. }=>match P.funcs[f]? with
  | some fn => if fn.body.isSome ∧ (fn.name == "runtime.NumGoroutine") = false then (C8 args.toList).map (.call d f) else none
  | none=>L
 | .call {callee:= .value (.tmp t),args,.. }=>(C8 args.toList).map (.callv d (.t t))
 | _=>L
def CN(P:Program)(nt:W)(o:Oper):O AOp:=
 match o.dst with
 | some d=>if d<nt then Ad P d o else L
 | none=>match o.op with
  | .store t a x=>match P.info? t,AJ a,AJ x with
   | some i,G a,G x=>G (.store a x i.size)
   | _,_,_=>L
  | .call {callee:= .builtin .clear,args,argTypes}=>match args.toList,argTypes.toList with
   | [x],[t]=>match L2 P t,AJ x with
    | some (i,z),G y=>if z.cells.size=i.size/\0<i.size then(match (EI z.cells.toList).bind D7 with
     | some zs=>G (.clr y i.size zs)
     | none=>L) else L
    | _,_=>L
   | _,_=>L
  | _=>L
section
def Rep.one{h:A6}{d:D}{v:Value}(H:Rep h d v):v.oneCell'=T:=by cases H<;>rfl
def RepS.one{h:A6}{d:D}{v:Value}(H:RepS h d v):v.oneCell'=T:=by cases H<;>rfl
def ShV.one{v v':Value}(H:ShV v v')(h:v.oneCell'=T):v'.oneCell'=T:=by
 cases H with
 | same=>exact h
 | _=>rfl
def CRel.one{X:Cx}{c:AC}{v:Value}(H:CRel X c v):v.oneCell'=T:=by
 cases H with
 | undef h1=>exact h1
 | dat hd=>cases hd<;>rfl
 | ownDead _ h1=>exact h1
 | osubDead _ h1=>exact h1
 | peDead _ h1=>exact h1
 | old _ h1=>exact h1.one
 | nw _ h1=>exact h1
 | mix h1=>exact h1.one
 | vol h1 h2=>exact h2.one h1.one
 | _=>rfl
def TU{X:Cx}(v:Value)(h1:v.oneCell'=T):CRel X (Iu v) v:=by
 unfold Iu;split
 .split
  .rename_i hk; exact .dat (.int hk.1 hk.2)
  .exact .undef J
 .exact .dat .bool
 .rename_i s
  split
  .rename_i hl
   have e:s=⟨s.data.toList.toArray⟩:=by cases s; simp
   have:Rep X.h (.str s.data.toList) (.string ⟨s.data.toList.toArray⟩):= .str (by unfold maxLen; omega);rw[<- e] at this
   exact .dat this
  .exact .undef J
 .exact .nil
 .exact .dat .noi
 .exact .undef h1
def YG{X:Cx}:∀l:N Value,l.all (·.oneCell')=T->CRels X (l.map Iu) l
 | [],_=> .nil
 | v::r,h1=>by
  simp only[List.all_cons,zI] at h1
  exact .cons (TU v h1.1) (YG r h1.2)
def N6{X:Cx}{l:N Value}{cs:N AC}(hc:EI l=G cs):CRels X cs l:=by
 unfold EI at hc
 split at hc
 .rename_i h1; cases hc; exact YG l h1
 .cases hc
def ow{X:Cx}(v:Value):VRel X (TW v) v:=by
 unfold TW;split
 .rename_i cs
  split
  .rename_i l hl
   have:=V1Rel.ag (N6 (X:=X) hl);simp only[Array.toArray_toList] at this
   exact .v this
  .exact .undef
 .exact .undef
 .rename_i h1 h2
  refine .v (.sc (TU _ ?_));cases v<;>first | rfl | (exact absurd rfl (h1 _)) | (exact absurd rfl (h2 _))
section
variable {P : Program} {A : Ar} {B : W} {w0 : Base} {nm : Ac} {M : St} {a : Act} {w : World} {X : Cx}
def Ax(R:Rel A B w0 nm M a.tmps w){x:Operand}{y:Opd}(h:AJ x=G y):VRel (cx A nm M w) (M.val y) (a.eval x):=by
 cases x with
 | tmp t=>simp only[AJ,zA] at h; subst h; exact R.env t
 | const v=>simp only[AJ,zA] at h; subst h; exact ow v
 | global g=>simp[AJ] at h
 | func f=>
  simp only[AJ,zA] at h; subst h
  exact .v (.sc (.dat (.clo (vs:= []) .nil J)))
def VRel.inv_int{k n v}(H:VRel X (.v (.sc (.dat (.int k n)))) v):v= .int k n/\k.min<=n/\n<=k.max:=by
 cases H with | v H=>cases H with | sc H=>cases H with | dat H=>cases H with | int h1 h2=>exact⟨rfl,h1,h2⟩
def VRel.inv_bool{b v}(H:VRel X (.v (.sc (.dat (.bool b)))) v):v= .bool b:=by
 cases H with | v H=>cases H with | sc H=>cases H with | dat H=>cases H with | bool=>rfl
def VRel.inv_str{s v}(H:VRel X (.v (.sc (.dat (.str s)))) v):v= .string ⟨s.toArray⟩/\s.length<=maxLen:=by
 cases H with | v H=>cases H with | sc H=>cases H with | dat H=>cases H with | str h1=>exact⟨rfl,h1⟩
def VRel.inv_sc{c v}(H:VRel X (.v (.sc c)) v):CRel X c v:=by
 cases H with | v H=>cases H with | sc H=>exact H
def VRel.inv_ag{cs v}(H:VRel X (.v (.ag cs)) v):∃vs,v= .agg vs.toArray/\CRels X cs vs:=by
 cases H with | v H=>cases H with | ag H=>exact⟨_,rfl,H⟩
def CRel.inv_dat{d v}(H:CRel X (.dat d) v):Rep X.h d v:=by cases H with | dat H=>exact H
def CRel.inv_own{id sz es v}(hf:A1 X.rs id=G (sz,es))(H:CRel X (.own id) v) :
  (es= []/\X.nm (2*id+1)=L/\∃a,v= .slice a 0 0)\/∃b cap,X.nm (2*id+1)=G b/\OwnB X.h X.w b sz cap es/\v= .slice (G ⟨b,0,L⟩) es.length cap:=by
 cases H with
 | ownNil h1 h2=>rw[hf] at h1; cases h1; exact .inl ⟨rfl,h2,_,rfl⟩
 | own h1 h2 h3 h4=>rw[hf] at h1; cases h1; subst h4; exact .inr ⟨_,_,h2,h3,rfl⟩
 | ownDead h1 _=>rw[hf] at h1; cases h1
def CRel.inv_osub{id sz es lo hi v}(hf:A1 X.rs id=G (sz,es))(H:CRel X (.osub id lo hi) v) :
  (es= []/\lo=0/\hi=0/\X.nm (2*id+1)=L/\∃a,v= .slice a 0 0)\/∃b cap cap' off,X.nm (2*id+1)=G b/\OwnB X.h X.w b sz cap es/\lo<=hi/\hi<=es.length/\((lo<hi->off=lo*sz)/\(lo=0->off=0/\cap'=cap))/\hi - lo<=cap'/\cap'<=maxLen/\
   v= .slice (G ⟨b,off,L⟩) (hi - lo) cap':=by
 cases H with
 | osubNil h1 h2=>rw[hf] at h1; cases h1; exact .inl ⟨rfl,rfl,rfl,h2,_,rfl⟩
 | osub h1 h2 h3 h4 h5 h6 h7 h8 h9=>rw[hf] at h1; cases h1; subst h7; exact .inr ⟨_,_,_,_,h2,h3,h4,h5,h6,h8,h9,rfl⟩
 | osubDead h1 _=>rw[hf] at h1; cases h1
def CRel.inv_pe{id sz es idx off v}(hf:A1 X.rs id=G (sz,es))(H:CRel X (.pe id idx off) v) :
  ∃b cap,X.nm (2*id+1)=G b/\OwnB X.h X.w b sz cap es/\idx<es.length/\v= .pointer (G ⟨b,idx*sz+off,L⟩):=by
 cases H with
 | pe h1 h2 h3 h4 h5=>rw[hf] at h1; cases h1; subst h5; exact⟨_,_,h2,h3,h4,rfl⟩
 | peDead h1 _=>rw[hf] at h1; cases h1
def HV{k:IntKind}{n:Q}(h1:k.min<=n)(h2:n<=k.max):VRel X (.v (.sc (.dat (.int k n)))) (.int k n):= .v (.sc (.dat (.int h1 h2)))
def Mv{b:V}:VRel X (.v (.sc (.dat (.bool b)))) (.bool b):= .v (.sc (.dat .bool))
def Bs{c v}(H:CRel X c v):VRel X (.v (.sc c)) v:= .v (.sc H)
def Ww(k:IntKind)(n:Q):k.min<=k.wrap n/\k.wrap n<=k.max:=by
 cases k<;>simp only[IntKind.min,IntKind.max,IntKind.wrap,IntKind.bits,IntKind.signed]<;>simp<;>(try split)<;>omega
def Mw{k:IntKind}{n:Q}:VRel X (.v (.sc (.dat (.int k (k.wrap n))))) (.int k (k.wrap n)):=HV (Ww k n).1 (Ww k n).2
def A6e{k:IntKind}{x y:Q}(h1:k.min<=x)(h2:x<=k.max):k.wrap (x.tmod y)=x.tmod y:=by
 have hr:(x.tmod y).natAbs<=x.natAbs:=by rw[Int.natAbs_tmod]; exact Nat.mod_le _ _
 have hs:0<=x->0<=x.tmod y:=fun h0=>Int.tmod_nonneg y h0
 have hs':x<=0->x.tmod y<=0:=fun h0=>by
  have h5:=Int.tmod_nonneg y (show 0<= -x by omega);rw[Int.neg_tmod] at h5
  omega
 have hb:k.min<=x.tmod y/\x.tmod y<=k.max:=by
  cases k<;>simp only[IntKind.min,IntKind.max,IntKind.bits,IntKind.signed] at h1 h2 ⊢ <;> simp at h1 h2 ⊢ <;> omega
 obtain⟨b1,b2⟩:=hb;cases k<;>simp only[IntKind.min,IntKind.max,IntKind.wrap,IntKind.bits,IntKind.signed] at b1 b2 ⊢ <;> simp at b1 b2 ⊢ <;> (try split)<;>omega
def tO{k:IntKind}{x:Q}{n:W}(h1:k.min<=x)(h2:x<=k.max):k.wrap (x.fdiv (2 ^ n))=x.fdiv (2 ^ n)/\k.min<=x.fdiv (2 ^ n)/\x.fdiv (2 ^ n)<=k.max:=by
 have hp:(0:Q)<2 ^ n:=Int.pow_pos d4;rw[Int.fdiv_eq_ediv_of_nonneg _ (Int.le_of_lt hp)]
 have h3:x / 2 ^ n<=max x 0:=by
  by_cases hx:0<=x
  .have:=Int.ediv_le_self (2 ^ n) hx; omega
  .have:x / 2 ^ n<0:=Int.ediv_neg_of_neg_of_pos a9 hp;omega
 have h4:min x 0<=x / 2 ^ n:=by
  by_cases hx:0<=x
  .have:=Int.ediv_nonneg hx (Int.le_of_lt hp); omega
  .have h5:x<=x / 2 ^ n:=by
    have h6:(2:Q) ^ n>=1:=by omega
    have:=Int.le_ediv_of_mul_le hp (a:=x) (b:=x) (by
     have:x*2 ^ n<=x*1:=Int.mul_le_mul_of_nonpos_left a9 h6;omega)
    exact this
   omega
 generalize x / 2 ^ n=q at *
 have hb:k.min<=q/\q<=k.max:=by
  cases k<;>simp only[IntKind.min,IntKind.max,IntKind.bits,IntKind.signed] at h1 h2 ⊢ <;> simp at h1 h2 ⊢ <;> omega
 refine⟨?_,hb.1,hb.2⟩;obtain⟨b1,b2⟩:=hb;cases k<;>simp only[IntKind.min,IntKind.max,IntKind.wrap,IntKind.bits,IntKind.signed] at b1 b2 ⊢ <;> simp at b1 b2 ⊢ <;> (try split)<;>omega
def xq{op:BinOp}{k k':IntKind}{t:TypeId}{x y:Q}{d:D}(hk:k=k'\/op= .shl\/op= .shr)(hx:k.min<=x/\x<=k.max)(hd:AX op k x y=G d) :
  ∃v,(binOp op t (.int k x) (.int k' y)).run P w= .ok v w/\VRel X (.v (.sc (.dat d))) v:=by
 cases op
 case shl=>
  simp only[AX] at hd
  split at hd
  .cases hd
  .rename_i hy
   cases hd;exact⟨.int k (k.wrap (x*2 ^ min y.toNat k.bits)),by simp[binOp,Op.shift,hy],Mw⟩
 case shr=>
  simp only[AX] at hd
  split at hd
  .cases hd
  .rename_i hy
   cases hd;have hf:=tO (n:=min y.toNat k.bits) hx.1 hx.2;refine⟨.int k (x.fdiv (2 ^ min y.toNat k.bits)),by simp[binOp,Op.shift,hy],?_⟩;rw[hf.1];exact HV hf.2.1 hf.2.2
 all_goals (have hk':k=k':=by simpa using hk); subst hk'
 case quo=>
  simp only[AX] at hd
  split at hd
  .cases hd
  .rename_i hy
   cases hd;exact⟨_,by simp[binOp,Op.intDiv,hy],Mw⟩
 case rem=>
  simp only[AX] at hd
  split at hd
  .cases hd
  .rename_i hy
   cases hd;refine⟨.int k (x.tmod y),by simp[binOp,Op.intDiv,hy],?_⟩;have hb:=Ww k (x.tmod y);rw[A6e hx.1 hx.2] at hb ⊢
   exact HV hb.1 hb.2
 all_goals
  simp only[AX,zA] at hd
  subst hd
  first
   | (refine⟨_,?_,Mw⟩; simp only[binOp,ne_eq,not_true_eq_false,if_false]; rfl)
   | (refine⟨_,?_,Mv⟩; simp only[binOp,ne_eq,not_true_eq_false,if_false]; rfl)
end
end
section
section
variable {P : Program} {M : St} {a : Act} {w : World} {X : Cx} {h : A6}
def A5p{op:BinOp}{t:TypeId}{x y:N Z}{d:D}(hd:I6 op x y=G d) :
  ∃v,(binOp op t (.string ⟨x.toArray⟩) (.string ⟨y.toArray⟩)).run P w= .ok v w/\VRel X (.v (.sc (.dat d))) v:=by
 cases op<;>simp only[I6] at hd
 case add=>
  split at hd
  .rename_i hl
   cases hd;refine⟨.string ⟨(x++y).toArray⟩,?_,Bs (.dat (.str (by simp[maxLen]; omega)))⟩;have h1:¬(((x.length+y.length:W):Q) > 9223372036854775807):=by omega
   have e:(⟨x.toArray⟩++⟨y.toArray⟩:ByteArray)=⟨(x++y).toArray⟩:=by
    apply ByteArray.ext
    simp
   have hs:∀z:N Z,(⟨z.toArray⟩:ByteArray).size=z.length:=fun z=>by simp[ByteArray.size]
   simp only[binOp,Op.stringOp,hs];rw[if_neg (by simpa[IntKind.max,IntKind.bits,IntKind.signed] using h1),e];rfl
  .cases hd
 case eql=>cases hd; exact⟨_,by simp[binOp,Op.stringOp],Mv⟩
 case neq=>cases hd; exact⟨_,by simp[binOp,Op.stringOp],Mv⟩
 all_goals cases hd
def sN{op:BinOp}{t:TypeId}{x y:Operand}{k k':IntKind}{m n:Q}:(eqGuard op t x y (.int k m) (.int k' n)).run P w= .ok () w:=by
 cases op<;>rfl
def sO{op:BinOp}{t:TypeId}{x y:Operand}{m n:ByteArray}:(eqGuard op t x y (.string m) (.string n)).run P w= .ok () w:=by
 cases op<;>rfl
def sM{op:BinOp}{t:TypeId}{x y:Operand}{m n:V}:(eqGuard op t x y (.bool m) (.bool n)).run P w= .ok () w:=by
 cases op<;>rfl
def oB{op:BinOp}{t:TypeId}{OX OY:Operand}{ax ay r:AV}{vx vy:Value}(hx:VRel X ax vx)(hy:VRel X ay vy)(hr:CM op ax ay=G r) :
  ∃v,(do eqGuard op t OX OY vx vy; binOp op t vx vy:Sem Value).run P w= .ok v w/\VRel X r v:=by
 unfold CM at hr
 split at hr
 .rename_i k x k' y
  obtain⟨rfl,hb1,hb2⟩:=hx.inv_int;obtain⟨rfl,_⟩:=hy.inv_int;split at hr
  .rename_i hk
   simp only[I] at hr
   obtain⟨d,hd,rfl⟩:=hr;obtain⟨v,hv,hrel⟩:=xq (P:=P) (w:=w) (X:=X) (t:=t) hk ⟨hb1,hb2⟩ hd;refine⟨v,?_,hrel⟩;rw[Sem.run_bind,sN];exact hv
  .cases hr
 .rename_i x y
  obtain⟨rfl,_⟩:=hx.inv_str;obtain⟨rfl,_⟩:=hy.inv_str;simp only[I] at hr
  obtain⟨d,hd,rfl⟩:=hr;obtain⟨v,hv,hrel⟩:=A5p (P:=P) (w:=w) (X:=X) (t:=t) hd;refine⟨v,?_,hrel⟩;rw[Sem.run_bind,sO];exact hv
 .cases hr
def Yl{op:BinOp}{t:TypeId}{OX OY:Operand}{g:V}{ax ay r:AV}{vx vy:Value}(ht:P.underlying t=G .bool)(hop:op=if g then .neq else .eql)
  (hx:VRel X ax vx) (hy:VRel X ay vy) (hr:KP g ax ay=G r) :
  ∃v,(do eqGuard op t OX OY vx vy; binOp op t vx vy:Sem Value).run P w= .ok v w/\VRel X r v:=by
 unfold KP at hr
 split at hr
 .rename_i x y
  cases hr;obtain rfl:=hx.inv_bool;obtain rfl:=hy.inv_bool;refine⟨_,?_,Mv⟩
  have he:(Op.equal t (.bool x) (.bool y)).run P w= .ok (x==y) w:=by
   unfold Op.equal Op.maxDepth Op.equalIn;rw[Sem.run_bind,run_underlying ht];rfl
  rw[Sem.run_bind,sM];subst hop;cases g
  .simp[binOp,he]
  .simp[binOp,he]
 .cases hr
def cw{t:TypeId}{xs:Array Value}{off:W}{v:Value}(ht:(∃k,P.underlying t=G (.int k))\/P.underlying t=G .bool\/P.underlying t=G .string)(h:xs[off]?=G v):(part t xs off).run P w= .ok v w:=by
 unfold part isAgg;rcases ht with ⟨k,ht⟩|ht|ht<;>simp[run_underlying ht,h]
def L1{xs:Array Value}{i:W}{v:Value}{r:N Value}(h:xs.toList.drop i=v::r):xs[i]?=G v/\xs.toList.drop (i+1)=r:=by
 refine⟨?_,?_⟩
 .have:(xs.toList.drop i)[0]?=G v:=by rw[h]; rfl
  rw[List.getElem?_drop] at this
  simpa using this
 .rw[<- zD,h]; rfl
def YR{xs ys:Array Value}(d:W):∀(fs:N Field) (i:W) (ks:N FK) (cs ds:N AC) (b:V) (as1 AU:N Value),HS P fs i=G ks->xs.toList.drop i=as1->ys.toList.drop i=AU->CRels X cs as1->CRels X ds AU->Bu ks cs ds=G b->(Op.eqFields (d+1) xs ys fs).run P w= .ok b w
 | [],i,ks,cs,ds,b,as1,AU,hk,ha,hb,h1,h2,he=>by
  simp only[HS,zA] at hk
  subst hk;cases h1<;>cases h2<;>simp only[Bu] at he<;>cases he
  simp[Op.eqFields]
 | f::fs,i,ks,cs,ds,b,as1,AU,hk,ha,hb,h1,h2,he=>by
  unfold HS at hk
  split at hk
  .rename_i hf
   have one:∀(x y:Value) (r:V) (ks':N FK) (cs' ds':N AC) (as2 bs2:N Value) (b':V),HS P fs (i+1)=G ks'->xs[i]?=G x->ys[i]?=G y->xs.toList.drop (i+1)=as2->ys.toList.drop (i+1)=bs2->CRels X cs' as2->CRels X ds' bs2->
     ((∃k,P.underlying f.type=G (.int k))\/P.underlying f.type=G .bool\/P.underlying f.type=G .string)->(Op.equalIn (d+1) f.type x y).run P w= .ok r w->Bu ks' cs' ds'=G b'->(Op.eqFields (d+1) xs ys (f::fs)).run P w= .ok (r&&b') w:=by
    intro x y r ks' cs' ds' as2 bs2 b' g1 g2 g3 g4 g5 g6 g7 g8 g9 g10;have ih:=YR d fs (i+1) ks' cs' ds' b' as2 bs2 g1 g4 g5 g6 g7 g10;simp only[Op.eqFields,if_pos hf.1,Sem.run_bind,hf.2,cw g8 g2,cw g8 g3,g9,Result.andThen_ok];cases r with
    | true=>simpa using ih
    | false=>simp
   split at hk
   .rename_i k hu
    simp only[I] at hk
    obtain⟨ks',hk',rfl⟩:=hk;cases h1 with
    | nil=>cases h2<;>simp[Bu] at he
    | cons a1 a2=>
     cases h2 with
     | nil=>rename_i c _ _ _; cases c<;>simp[Bu] at he<;>(rename_i d; cases d<;>simp[Bu] at he)
     | cons b1 b2=>
      unfold Bu at he
      split at he<;>first | (cases he; done) | skip
      all_goals first | (rename_i e _ _; cases e; done) | skip
      rename_i e1 e2 e3
      cases e1; cases e2; cases e3;split at he
      .rename_i hkk
       subst hkk;simp only[I] at he
       obtain⟨b',hb',rfl⟩:=he;cases a1 with | dat a1=>
       cases b1 with | dat b1=>
       cases a1; cases b1;obtain⟨p1,p2⟩:=L1 ha;obtain⟨p3,p4⟩:=L1 hb;exact one _ _ _ _ _ _ _ _ _ hk' p1 p3 p2 p4 a2 b2 (.inl ⟨k,hu⟩) (run_equalIn_int w d _ _ k _ _ hu) hb'
      .cases he
   .rename_i hu
    simp only[I] at hk
    obtain⟨ks',hk',rfl⟩:=hk;cases h1 with
    | nil=>cases h2<;>simp[Bu] at he
    | cons a1 a2=>
     cases h2 with
     | nil=>rename_i c _ _ _; cases c<;>simp[Bu] at he<;>(rename_i d; cases d<;>simp[Bu] at he)
     | cons b1 b2=>
      unfold Bu at he
      split at he<;>first | (cases he; done) | skip
      all_goals first | (rename_i e _ _; cases e; done) | skip
      rename_i e1 e2 e3
      cases e1; cases e2; cases e3;simp only[I] at he
      obtain⟨b',hb',rfl⟩:=he;cases a1 with | dat a1=>
      cases b1 with | dat b1=>
      cases a1; cases b1;obtain⟨p1,p2⟩:=L1 ha;obtain⟨p3,p4⟩:=L1 hb;exact one _ _ _ _ _ _ _ _ _ hk' p1 p3 p2 p4 a2 b2 (.inr (.inl hu)) (run_equalIn_bool w d _ _ _ hu) hb'
   .rename_i hu
    simp only[I] at hk
    obtain⟨ks',hk',rfl⟩:=hk;cases h1 with
    | nil=>cases h2<;>simp[Bu] at he
    | cons a1 a2=>
     cases h2 with
     | nil=>rename_i c _ _ _; cases c<;>simp[Bu] at he<;>(rename_i d; cases d<;>simp[Bu] at he)
     | cons b1 b2=>
      unfold Bu at he
      split at he<;>first | (cases he; done) | skip
      all_goals first | (rename_i e _ _; cases e; done) | skip
      rename_i e1 e2 e3
      cases e1; cases e2; cases e3;simp only[I] at he
      obtain⟨b',hb',rfl⟩:=he;cases a1 with | dat a1=>
      cases b1 with | dat b1=>
      cases a1; cases b1;obtain⟨p1,p2⟩:=L1 ha;obtain⟨p3,p4⟩:=L1 hb;refine one _ _ _ _ _ _ _ _ _ hk' p1 p3 p2 p4 a2 b2 (.inr (.inr hu)) ?_ hb';rw[run_equalIn_string w d _ _ _ hu];simp[ByteArray.toList_eq]
   .cases hk
  .cases hk
def Zf{op:BinOp}{t:TypeId}{OX OY:Operand}{g:V}{ks:N FK}{ax ay r:AV}{vx vy:Value}(ht:SH P t=G ks)(hop:op=if g then .neq else .eql)
  (hx:VRel X ax vx) (hy:VRel X ay vy) (hr:Md g ks ax ay=G r) :
  ∃v,(do eqGuard op t OX OY vx vy; binOp op t vx vy:Sem Value).run P w= .ok v w/\VRel X r v:=by
 unfold Md at hr
 split at hr
 .rename_i cs ds
  simp only[I] at hr
  obtain⟨b,hb,rfl⟩:=hr;obtain⟨xs,rfl,hxs⟩:=hx.inv_ag;obtain⟨ys,rfl,hys⟩:=hy.inv_ag;unfold SH at ht
  split at ht
  .rename_i fs hu
   split at ht
   .rename_i hc
    have hfo:P.fieldsOf t=fs:=by unfold Program.fieldsOf; rw[hu]
    have he:(Op.equalIn 10000 t (.agg xs.toArray) (.agg ys.toArray)).run P w= .ok b w:=by
     rw[run_equalIn_agg w 9999 t _ _ (by rw[hfo]; exact hu) hc.2,hfo];exact YR 9998 fs.toList 0 ks cs ds b xs ys ht d0 d0 hxs hys hb
    refine⟨_,?_,Mv⟩;rw[Sem.run_bind,run_eqGuard_agg w op t OX OY _ _ hc.1];subst hop;cases g
    .simp[run_eql_struct,he]
    .simp[run_neq_struct,he]
   .cases ht
  .cases ht
 .cases hr
def A61{op:UnOp}{ax r:AV}{vx:Value}(hx:VRel X ax vx)(hr:KC op ax=G r) :
  ∃v,(Op.unary op vx).run P w= .ok v w/\VRel X r v:=by
 unfold KC at hr
 split at hr
 .obtain rfl:=hx.inv_bool;split at hr
  .cases hr; exact⟨_,rfl,Mv⟩
  .cases hr
 .obtain⟨rfl,_⟩:=hx.inv_int;split at hr
  .cases hr; exact⟨_,rfl,Mw⟩
  .cases hr; exact⟨_,rfl,Mw⟩
  .cases hr
 .cases hr
inductive CPre (X:Cx):N AC->N Value->Prop
 | nil {vs}:CPre X [] vs
 | cons {c v cs vs}:CRel X c v->CPre X cs vs->CPre X (c::cs) (v::vs)
def CRels.pre:∀{cs vs},CRels X cs vs->CPre X cs vs
 | _,_,.nil=> .nil
 | _,_,.cons a b=> .cons a b.pre
def CRels.length:∀{cs vs},CRels X cs vs->cs.length=vs.length
 | _,_,.nil=>rfl
 | _,_,.cons _ b=>by simp[b.length]
def Reps.pre:∀{ds vs},Reps X.h ds vs->CPre X (ds.map .dat) vs
 | _,_,.nil=> .nil
 | _,_,.cons a b=> .cons (.dat a) b.pre
def CPre.le:∀{cs vs},CPre X cs vs->cs.length<=vs.length
 | _,_,.nil=>by simp
 | _,_,.cons _ b=>by have:=b.le; simp; omega
def CPre.drop:∀(n:W) {cs vs},CPre X cs vs->CPre X (cs.drop n) (vs.drop n)
 | 0,_,_,H=>by simpa using H
 | n+1,_,_,.nil=>by simpa using .nil
 | n+1,_,_,.cons _ b=>by simpa using b.drop n
def CPre.take:∀(n:W) {cs vs},CPre X cs vs->n<=cs.length->CRels X (cs.take n) (vs.take n)
 | 0,_,_,_,_=>by simpa using .nil
 | n+1,_,_,.nil,hn=>by simp at hn
 | n+1,_,_,.cons a b,hn=>by simp at hn; simpa using .cons a (b.take n hn)
def CPre.get:∀{i:W} {cs vs c},CPre X cs vs->cs[i]?=G c->∃v,vs[i]?=G v/\CRel X c v
 | _,_,_,_,.nil,hc=>by simp at hc
 | 0,_,_,_,.cons a _,hc=>by simp at hc; subst hc; exact⟨_,d0,a⟩
 | i+1,_,_,_,.cons _ b,hc=>by simp at hc; obtain⟨v,hv,hr⟩:=b.get hc; exact⟨v,by simpa using hv,hr⟩
def Ko(vs:N Value)(off:W)(g:V)(n:W):O Value:=bif g then(if off+n<=vs.length then G (.agg ((vs.drop off).take n).toArray) else L) else vs[off]?
def KV{cs:N AC}{vs:N Value}{off n:W}{g:V}{r:AV}(H:CPre X cs vs)(hr:D1 cs off g n=G r):∃v,Ko vs off g n=G v/\VRel X r v:=by
 unfold D1 at hr
 unfold Ko;cases g
 .simp only[cond_false,I] at hr ⊢
  obtain⟨c,hc,rfl⟩:=hr;obtain⟨v,hv,hrel⟩:=H.get hc;exact⟨v,hv,Bs hrel⟩
 .simp only[cond_true] at hr ⊢
  split at hr
  .rename_i hle
   cases hr;have h2:=H.le;refine⟨_,by rw[if_pos a9],.v (.ag ((H.drop off).take n d3))⟩
  .cases hr
def Tz{t:TypeId}{g:V}{n:W}(ha:EG P t=G (g,n)) :
  (isAgg t).run P w= .ok g w/\(sizeOf t).run P w= .ok n w/\∃i,P.info? t=G i/\i.size=n:=by
 unfold EG at ha
 split at ha<;>simp only[zA,zB,reduceCtorEq] at ha
 all_goals (obtain⟨rfl,rfl⟩:=ha)
 .rename_i hu hi; exact⟨by unfold isAgg; rw[Sem.run_bind,run_underlying hu]; rfl,by simp[sizeOf,typeInfo,hi],_,hi,rfl⟩
 .rename_i hu hi; exact⟨by unfold isAgg; rw[Sem.run_bind,run_underlying hu]; rfl,by simp[sizeOf,typeInfo,hi],_,hi,rfl⟩
 .rename_i d i h1 h2 hu hi
  refine⟨?_,by simp[sizeOf,typeInfo,hi],_,hi,J⟩;unfold isAgg;rw[Sem.run_bind,run_underlying hu];simp only[Result.andThen];cases d<;>first | rfl | (exfalso; first | exact h1 _ rfl | exact h2 _ _ rfl)
def SN{b off n:W}{C:Array Value}{t:TypeId}{fr:W × W}(hC:w.heap[b]?=G (.cells C t fr))(hle:off+n<=C.size) :
  (loadCells ⟨b,off,L⟩ n).run P w= .ok ((C.toList.drop off).take n).toArray w:=by
 have hl:((C.toList.drop off).take n).length=n:=by simp; omega
 have:=run_loadCells_list (P:=P) w ⟨b,off,L⟩ ((C.toList.drop off).take n) (fun j v hv=>by
  rw[Addr.add_lit,cell_of_row w b _ C t fr hC];rw[List.getElem?_take] at hv
  split at hv
  .simpa using hv
  .cases hv)
 rwa [hl] at this
def Q6{ty:TypeId}{g:V}{n b o off:W}{C:Array Value}{t:TypeId}{fr:W × W}{v:Value}(ha:EG P ty=G (g,n))(hC:w.heap[b]?=G (.cells C t fr))
  (hv:Ko (C.toList.drop o) off g n=G v):(loadVar ty ⟨b,o+off,L⟩).run P w= .ok v w:=by
 obtain⟨h1,h2,_⟩:=Tz (w:=w) ha;unfold Ko at hv
 cases g
 .simp only[cond_false] at hv
  have hc:w.cell? ⟨b,o+off,L⟩=G v:=by
   rw[cell_of_row w b _ C t fr hC];simpa using hv
  simp[loadVar,h1,hc]
 .simp only[cond_true] at hv
  split at hv
  .rename_i hle
   cases hv;by_cases hn:n=0
   .subst hn;simp[loadVar,h1,h2,loadCells,loadCellsFrom]
   .have hle':o+off+n<=C.size:=by
     simp at hle
     omega
    have:=SN (P:=P) (w:=w) (off:=o+off) (n:=n) hC hle';simp[loadVar,h1,h2,this,zD]
  .cases hv
end
end
section
def ShL.len:∀{l l':N Value},ShL l l'->l'.length=l.length
 | _,_,.nil=>rfl
 | _,_,.cons _ b=>by simp[b.len]
def ShL.drop:∀(n:W) {l l':N Value},ShL l l'->ShL (l.drop n) (l'.drop n)
 | 0,_,_,H=>by simpa using H
 | n+1,_,_,.nil=>by simpa using .nil
 | n+1,_,_,.cons _ b=>by simpa using b.drop n
def ShL.get:∀{l l':N Value} {i:W} {v:Value},ShL l l'->l[i]?=G v->∃v',l'[i]?=G v'/\ShV v v'
 | _,_,_,_,.nil,h=>by simp at h
 | _,_,0,_,.cons a _,h=>by simp at h; subst h; exact⟨_,rfl,a⟩
 | _,_,i+1,_,.cons _ b,h=>by
  simp at h;obtain⟨v',h1,h2⟩:=b.get h;exact⟨v',by simpa using h1,h2⟩
def RepSs.drop{h:A6}:∀(n:W) {ds:N D} {vs:N Value},RepSs h ds vs->RepSs h (ds.drop n) (vs.drop n)
 | 0,_,_,H=>by simpa using H
 | n+1,_,_,.nil=>by simpa using .nil
 | n+1,_,_,.cons _ b=>by simpa using b.drop n
def RepSRows.row{h:A6}{sz:W}:∀{es:N (N D)} {vs:N Value} {i:W} {d:N D},RepSRows h sz es vs->es[i]?=G d->d.length=sz/\RepSs h d (vs.drop (i*sz))
 | _,_,_,_,.nil,hd=>by simp at hd
 | _,_,0,_,.cons a b _,hd=>by simp at hd; subst hd; exact⟨a,by simpa using b⟩
 | _,_,i+1,_,.cons _ _ c,hd=>by
  simp at hd
  obtain⟨h1,h2⟩:=c.row hd;refine⟨h1,?_⟩;rw[zD] at h2
  rw[show(i+1)*sz=sz+i*sz by rw[zH]; omega];exact h2
def Vp{X:Cx}{d:D}{v:Value}(hnw:X.new=T)(H:Rep X.o d v):CRel X (CT d) v:=by
 unfold CT;cases hf:d.fl with
 | false=>exact .old hnw H
 | true=>
  cases H<;>first
   | exact .dat .bool
   | (cases hf; done)
   | skip
  case int a b=>exact .dat (.int a b)
  case str a=>exact .dat (.str a)
def Reps.preO{X:Cx}(hnw:X.new=T):∀{ds vs},Reps X.o ds vs->CPre X (ds.map CT) vs
 | _,_,.nil=> .nil
 | _,_,.cons a b=> .cons (Vp hnw a) (b.preO hnw)
def Rel.oldAt{A:Ar}{B:W}{w0:Base}{nm:Ac}{M:St}{tmps:Array Value}{w:World}(R:Rel A B w0 nm M tmps w){b:W}{C:N Value}(h:A.o b C):∃c t fr,w.heap[b]?=G (.cells c t fr)/\c.toList=C:=by
 obtain⟨h1,h2,h3,c,t,fr,h4,h5⟩:=R.all.old b C h;exact⟨c,t,fr,(R.below.block b h1 h2 h3).trans h4,h5⟩
def Rel.volAt{A:Ar}{B:W}{w0:Base}{nm:Ac}{M:St}{tmps:Array Value}{w:World}(R:Rel A B w0 nm M tmps w){b:W}{C:N Value}(h:A.v b C):∃c t fr,w.heap[b]?=G (.cells c t fr)/\ShL C c.toList/\fr=(0,0)/\w0.vv b:=by
 obtain⟨h1,c,t,fr,h4,rfl,rfl⟩:=R.all.vol b C h;obtain⟨C',h5,h6⟩:=R.below.shape b h1 c t _ h4;exact⟨C',t,_,h5,h6,J,h1⟩
def RepRows.row{h:A6}{sz:W}:∀{es:N (N D)} {vs:N Value} {i:W} {d:N D},RepRows h sz es vs->es[i]?=G d->d.length=sz/\Reps h d (vs.drop (i*sz))
 | _,_,_,_,.nil,hd=>by simp at hd
 | _,_,0,_,.cons a b _,hd=>by simp at hd; subst hd; exact⟨a,by simpa using b⟩
 | _,_,i+1,_,.cons _ _ c,hd=>by
  simp at hd
  obtain⟨h1,h2⟩:=c.row hd;refine⟨h1,?_⟩;rw[zD] at h2
  rw[show(i+1)*sz=sz+i*sz by rw[zH]; omega];exact h2
def RepRows.dropRows{h:A6}{sz:W}:∀(n:W) {es:N (N D)} {vs:N Value},RepRows h sz es vs->RepRows h sz (es.drop n) (vs.drop (n*sz))
 | 0,_,_,H=>by simpa using H
 | n+1,_,_,.nil=>by simpa using .nil
 | n+1,_,_,.cons _ _ c=>by
  have:=c.dropRows n;rw[zD] at this
  rw[show(n+1)*sz=sz+n*sz by rw[zH]; omega];simpa using this
def RepRows.takeRows{h:A6}{sz:W}:∀(n:W) {es:N (N D)} {vs:N Value},RepRows h sz es vs->RepRows h sz (es.take n) vs
 | 0,_,_,_=>by simpa using .nil
 | n+1,_,_,.nil=>by simpa using .nil
 | n+1,_,_,.cons a b c=>by simpa using .cons a b (c.takeRows n)
def RepRows.all{h:A6}{sz:W}:∀{es:N (N D)} {vs:N Value},RepRows h sz es vs->∀d∈es,d.length=sz
 | _,_,.nil,_,hd=>by cases hd
 | _,_,.cons a _ c,d,hd=>by
  cases hd with
  | head=>exact a
  | tail _ hm=>exact c.all d hm
def Reps.drop{h:A6}:∀(n:W) {ds:N D} {vs:N Value},Reps h ds vs->Reps h (ds.drop n) (vs.drop n)
 | 0,_,_,H=>by simpa using H
 | n+1,_,_,.nil=>by simpa using .nil
 | n+1,_,_,.cons _ b=>by simpa using b.drop n
def Reps.le{h:A6}:∀{ds:N D} {vs:N Value},Reps h ds vs->ds.length<=vs.length
 | _,_,.nil=>by simp
 | _,_,.cons _ b=>by have:=b.le; simp; omega
section
variable {P : Program} {A : Ar} {B : W} {w0 : Base} {nm : Ac} {M : St} {a : Act} {w : World} {X : Cx}
def sG{t:TypeId}{inf:TypeInfo}(he:Rf P t=G inf):∃e,P.underlying t=G (.slice e)/\P.info? e=G inf:=by
 unfold Rf at he
 split at he
 .rename_i hu; exact⟨_,hu,he⟩
 .cases he
def cF{ty:TypeId}{g:V}{n:W}{ax r:AV}{vx:Value}(R:Rel A B w0 nm M a.tmps w)(ha:EG P ty=G (g,n))(hx:VRel (cx A nm M w) ax vx)(hr:CS M g n ax=G r) :
  ∃v,(Instr.loadAt ty vx).run P w= .ok v w/\VRel (cx A nm M w) r v:=by
 unfold CS at hr
 split at hr
 .rename_i id off
  split at hr
  .rename_i cs hf
   obtain⟨b,C,t,hb,hC,hcs⟩:=R.bxs _ _ hf;have hx':=hx.inv_sc;cases hx' with | pb hb'=>
   have e:b=_:=zN (hb.symm.trans hb');subst e;obtain⟨v,hv,hrel⟩:=KV hcs.pre hr;refine⟨v,?_,hrel⟩;have:=Q6 (P:=P) (w:=w) (o:=0) (off:=off) ha hC (by simpa using hv);simpa[Instr.loadAt,Instr.sureAddr] using this
  .cases hr
 .rename_i id i off
  split at hr
  .rename_i sz es hf
   split at hr
   .rename_i d hd
    obtain⟨b,cap,hb,own,hlt,rfl⟩:=hx.inv_sc.inv_pe hf;obtain⟨C,t,hC,hsz,hrows⟩:=own.row;obtain⟨hdl,hreps⟩:=hrows.row hd;obtain⟨v,hv,hrel⟩:=KV (X:=cx A nm M w) hreps.pre hr;refine⟨v,?_,hrel⟩;have:=Q6 (P:=P) (w:=w) ha hC hv;simpa[Instr.loadAt,Instr.sureAddr] using this
   .cases hr
  .cases hr
 .rename_i cs
  have hx':=hx.inv_sc.inv_dat;cases hx' with | pd hC hreps=>
  obtain⟨_,C,t,fr,_,hC,rfl⟩:=hC;obtain⟨v,hv,hrel⟩:=KV (X:=cx A nm M w) hreps.pre hr;refine⟨v,?_,hrel⟩;have:=Q6 (P:=P) (w:=w) ha hC hv;simpa[Instr.loadAt,Instr.sureAddr] using this
 .rename_i cs
  have hx':=hx.inv_sc;cases hx' with | old hnw hx'=>
  cases hx' with | pd hC hreps=>
  obtain⟨C,t,fr,hC2,rfl⟩:=R.oldAt hC;obtain⟨v,hv,hrel⟩:=KV (X:=cx A nm M w) (Reps.preO (X:=cx A nm M w) hnw hreps) hr;refine⟨v,?_,hrel⟩;have:=Q6 (P:=P) (w:=w) ha hC2 hv;simpa[Instr.loadAt,Instr.sureAddr] using this
 .rename_i es ds
  cases g with
  | true=>cases hr
  | false=>
   cases hr;have hx':=hx.inv_sc;cases hx' with | vol hx' hsh=>
   cases hx' with | pd hC hreps=>
   cases hsh;rename_i b C0 off
   obtain⟨C,t,fr,hC2,hshl,_⟩:=R.volAt hC
   obtain⟨u,us,hu,hrep⟩:∃u us,C0.drop off=u::us/\RepS A.v (.sl es) u:=by
    generalize C0.drop off=l at hreps
    cases hreps with | cons a b=>exact⟨_,_,rfl,a⟩
   have hu0:(C0.drop off)[0]?=G u:=by rw[hu]; rfl
   obtain⟨v,hv,hvs⟩:=(hshl.drop off).get hu0;refine⟨v,?_,Bs (.vol hrep hvs)⟩;have:=Q6 (P:=P) (w:=w) (o:=off) (off:=0) (g:=false) ha hC2 (by simpa[Ko] using hv);simpa[Instr.loadAt,Instr.sureAddr] using this
 .cases hr
def YU{F:Value->Sem Value}{off:W}(key:∀b o,(F (.pointer (G ⟨b,o,L⟩))).run P w= .ok (.pointer (G ⟨b,o+off,L⟩)) w){ax r:AV}{vx:Value}(hx:VRel (cx A nm M w) ax vx)(hr:CA M.rows off ax=G r) :
  ∃v,(F vx).run P w= .ok v w/\VRel (cx A nm M w) r v:=by
 unfold CA at hr
 split at hr
 .cases hr;have hx':=hx.inv_sc;cases hx' with | pb hb=>exact⟨_,key _ _,Bs (.pb hb)⟩
 .split at hr
  .rename_i q hf
   cases hr;obtain⟨b,cap,hb,own,hlt,rfl⟩:=hx.inv_sc.inv_pe (es:=q.2) (sz:=q.1) hf;exact⟨_,key _ _,Bs (.pe hf hb own hlt a9)⟩
  .cases hr
 .split at hr
  .rename_i hle
   cases hr;have hx':=hx.inv_sc.inv_dat;cases hx' with | pd hC hreps=>
   refine⟨_,key _ _,Bs (.dat (.pd hC ?_))⟩;have:=hreps.drop off;rwa [zD] at this
  .cases hr
 .split at hr
  .rename_i hle
   cases hr;have hx':=hx.inv_sc;cases hx' with | old hnw hx'=>
   cases hx' with | pd hC hreps=>
   refine⟨_,key _ _,Bs (.old hnw (.pd hC ?_))⟩;have:=hreps.drop off;rwa [zD] at this
  .cases hr
 .split at hr
  .rename_i hle
   cases hr;have hx':=hx.inv_sc;cases hx' with | vol hx' hsh=>
   cases hx' with | pd hC hreps=>
   cases hsh;refine⟨_,key _ _,Bs (.vol (.pd hC ?_) .same)⟩;have:=hreps.drop off;rwa [zD] at this
  .cases hr
 .cases hr
def tM{s:TypeId}{fs:Array Field}{f:W}{fd:Field}{i:TypeInfo}{ax r:AV}{vx:Value}(hs:P.underlying s=G (.struct fs))(hf:fs[f]?=G fd)(hi:P.info? fd.type=G i)(hz:i.size≠0)
  (hx:VRel (cx A nm M w) ax vx) (hr:CA M.rows fd.offset ax=G r) :
  ∃v,(Instr.fieldAt s vx f).run P w= .ok v w/\VRel (cx A nm M w) r v:=
 YU (F:=fun v=>Instr.fieldAt s v f) (fun b o=>by simp[Instr.fieldAt,run_underlying hs,hf,Instr.sureAddr,fieldPlace,sizeOf,typeInfo,hi,hz,Addr.add_lit]) hx hr
def Yf{t e:TypeId}{len:W}{ie:TypeInfo}{k:IntKind}{n:Q}(hu:P.underlying t=G (.array len e))(hi:P.info? e=G ie)(h0:0<=n)(h1:n<len)(b o:W) :
  (Instr.indexAt t (.pointer (G ⟨b,o,L⟩)) (.int k n)).run P w= .ok (.pointer (G ⟨b,o+n.toNat*ie.size,L⟩)) w:=by
 simp[Instr.indexAt,asIntOf,run_underlying hu,h0,h1,sizeOf,typeInfo,hi,Addr.add_lit,Instr.sureAddr]
def tL{t e:TypeId}{len:W}{ie:TypeInfo}{k:IntKind}{n:Q}{ax r:AV}{vx:Value}(hu:P.underlying t=G (.array len e))(hi:P.info? e=G ie)(h0:0<=n)(h1:n<len)
  (hx:VRel (cx A nm M w) ax vx) (hr:CA M.rows (n.toNat*ie.size) ax=G r):∃v,(Instr.indexAt t vx (.int k n)).run P w= .ok v w/\VRel (cx A nm M w) r v:=
 YU (F:=fun v=>Instr.indexAt t v (.int k n)) (fun b o=>Yf hu hi h0 h1 b o) hx hr
def me{t e:TypeId}{len:W}{ie:TypeInfo}{ax ai r:AV}{vx vi:Value}(hu:P.underlying t=G (.array len e))(hinf:P.info? e=G ie)
  (hx:VRel (cx A nm M w) ax vx) (hi:VRel (cx A nm M w) ai vi) (hr:MT len ie.size ax ai=G r):∃v,(Instr.indexAt t vx vi).run P w= .ok v w/\VRel (cx A nm M w) r v:=by
 unfold MT at hr
 split at hr
 .obtain⟨rfl,_⟩:=hi.inv_int;split at hr
  .rename_i hn
   cases hr;have hx':=hx.inv_sc;cases hx' with | pb hb=>exact⟨_,Yf hu hinf hn.1 hn.2 _ _,Bs (.pb hb)⟩
  .cases hr
 .cases hr
def tR{t:TypeId}{fs:Array Field}{f:W}{fd:Field}{g:V}{n:W}{ax r:AV}{vx:Value}(hs:P.underlying t=G (.struct fs))(hf:fs[f]?=G fd)(ha:EG P fd.type=G (g,n))
  (hx:VRel (cx A nm M w) ax vx) (hr:HJ fd.offset g n ax=G r) :
  ∃v,(Instr.field t vx f).run P w= .ok v w/\VRel (cx A nm M w) r v:=by
 unfold HJ at hr
 split at hr
 .rename_i cs
  obtain⟨vs,rfl,hcs⟩:=hx.inv_ag;obtain⟨v,hv,hrel⟩:=KV hcs.pre hr;refine⟨v,?_,hrel⟩;obtain⟨h1,h2,_⟩:=Tz (w:=w) ha;unfold Ko at hv
  cases g
  .simp only[cond_false] at hv
   simp[Instr.field,run_underlying hs,hf,asAgg,part,h1,hv]
  .simp only[cond_true] at hv
   split at hv
   .rename_i hle
    cases hv;simp[Instr.field,run_underlying hs,hf,asAgg,part,h1,h2,zZ,Nat.add_sub_cancel_left]
   .cases hv
 .cases hr
def tP{t e:TypeId}{len:W}{g:V}{m:W}{k:IntKind}{n:Q}{ax r:AV}{vx:Value}(hs:P.underlying t=G (.array len e))(ha:EG P e=G (g,m))(h0:0<=n)(h1:n<len)
  (hx:VRel (cx A nm M w) ax vx) (hr:HJ (n.toNat*m) g m ax=G r):∃v,(Instr.index t vx (.int k n)).run P w= .ok v w/\VRel (cx A nm M w) r v:=by
 unfold HJ at hr
 split at hr
 .rename_i cs
  obtain⟨vs,rfl,hcs⟩:=hx.inv_ag;obtain⟨v,hv,hrel⟩:=KV hcs.pre hr;refine⟨v,?_,hrel⟩;obtain⟨k1,k2,_⟩:=Tz (w:=w) ha;unfold Ko at hv
  cases g
  .simp only[cond_false] at hv
   simp[Instr.index,asIntOf,run_underlying hs,h0,h1,part,k1,k2,hv]
  .simp only[cond_true] at hv
   split at hv
   .rename_i hle
    cases hv;simp[Instr.index,asIntOf,run_underlying hs,h0,h1,part,k1,k2,zZ,Nat.add_sub_cancel_left]
   .cases hv
 .cases hr
def PM{α:Type}{l:N α}{i:Q}{x:α}(hx:ix l i=G x):0<=i/\i.toNat<l.length/\l[i.toNat]?=G x/\i<l.length:=by
 unfold ix at hx
 split at hx
 .rename_i h0
  have:=(zF.1 hx).1;exact⟨h0,this,hx,a9⟩
 .cases hx
def wc{t:TypeId}{inf:TypeInfo}{ax ai r:AV}{vx vi:Value}(he:Rf P t=G inf)(hx:VRel (cx A nm M w) ax vx)(hi:VRel (cx A nm M w) ai vi)(hr:Dc M.rows inf.size ax ai=G r) :
  ∃v,(Instr.indexAt t vx vi).run P w= .ok v w/\VRel (cx A nm M w) r v:=by
 obtain⟨e,hu,hinf⟩:=sG he
 have key:∀(b o len cap:W) (k:IntKind) (i:Q),0<=i->i<(len:Q)->(Instr.indexAt t (.slice (G ⟨b,o,L⟩) len cap) (.int k i)).run P w= .ok (.pointer (G ⟨b,o+i.toNat*inf.size,L⟩)) w:=by
  intro b o len cap k i h0 h1;simp[Instr.indexAt,asIntOf,run_underlying hu,h0,h1,sizeOf,typeInfo,hinf,Addr.add_lit]
 unfold Dc at hr
 split at hr
 .rename_i es k i
  obtain⟨rfl,_⟩:=hi.inv_int;split at hr
  .rename_i d hd
   obtain⟨h0,hl,hg,hlt⟩:=PM hd;split at hr
   .rename_i hsz
    cases hr;have hx':=hx.inv_sc.inv_dat;cases hx' with
    | nil=>simp at hl
    | sl hC hpos hrows hlen hcap hmax=>
     subst hlen;obtain⟨hdl,hreps⟩:=hrows.row hg;refine⟨_,key _ _ _ _ _ _ h0 hlt,Bs (.dat (.pd hC ?_))⟩;rw[zD] at hreps
     rw[<- hsz.1,hdl];exact hreps
   .cases hr
  .cases hr
 .rename_i es k i
  obtain⟨rfl,_⟩:=hi.inv_int;split at hr
  .rename_i d hd
   obtain⟨h0,hl,hg,hlt⟩:=PM hd;split at hr
   .rename_i hsz
    cases hr;have hx':=hx.inv_sc;cases hx' with | old hnw hx'=>
    cases hx' with
    | nil=>simp at hl
    | sl hC hpos hrows hlen hcap hmax=>
     subst hlen;obtain⟨hdl,hreps⟩:=hrows.row hg;refine⟨_,key _ _ _ _ _ _ h0 hlt,Bs (.old hnw (.pd hC ?_))⟩;rw[zD] at hreps
     rw[<- hsz.1,hdl];exact hreps
   .cases hr
  .cases hr
 .rename_i es k i
  obtain⟨rfl,_⟩:=hi.inv_int;split at hr
  .rename_i d hd
   obtain⟨h0,hl,hg,hlt⟩:=PM hd;split at hr
   .rename_i hsz
    cases hr;have hx':=hx.inv_sc;cases hx' with | vol hx' hsh=>
    cases hx' with
    | nil=>simp at hl
    | sl hC hpos hrows hlen hcap hmax=>
     cases hsh;subst hlen;obtain⟨hdl,hreps⟩:=hrows.row hg;refine⟨_,key _ _ _ _ _ _ h0 hlt,Bs (.vol (.pd hC ?_) .same)⟩;rw[zD] at hreps
     rw[<- hsz.1,hdl];exact hreps
   .cases hr
  .cases hr
 .rename_i id k i
  obtain⟨rfl,_⟩:=hi.inv_int;split at hr
  .rename_i sz' es hf
   split at hr
   .rename_i d hd
    obtain⟨h0,hl,hg,hlt⟩:=PM hd;split at hr
    .rename_i hsz
     cases hr;subst hsz;rcases hx.inv_sc.inv_own hf with ⟨rfl,_,_,_⟩|⟨b,cap,hb,own,rfl⟩
     .simp at hl
     .exact⟨_,key _ _ _ _ _ _ h0 hlt,Bs (.pe hf hb own hl a9)⟩
    .cases hr
   .cases hr
  .cases hr
 .cases hr
def R4(s:N Z):(⟨s.toArray⟩:ByteArray).size=s.length:=by
 show s.toArray.size=s.length
 simp
def na(s:N Z)(i:W):(⟨s.toArray⟩:ByteArray)[i]?=s[i]?:=by
 by_cases hi:i<s.length
 .rw[getElem?_pos _ _ (by rw[R4]; exact hi),yD hi];rfl
 .rw[getElem?_neg _ _ (by rw[R4]; exact hi),List.getElem?_eq_none a9]
def we{t:TypeId}{ax ai r:AV}{vx vi:Value}(hu:P.underlying t=G .string)(hx:VRel (cx A nm M w) ax vx)(hi:VRel (cx A nm M w) ai vi)(hr:Mg ax ai=G r) :
  ∃v,(Instr.index t vx vi).run P w= .ok v w/\VRel (cx A nm M w) r v:=by
 unfold Mg at hr
 split at hr
 .rename_i s k i
  simp only[I] at hr
  obtain⟨b,hb,rfl⟩:=hr;obtain⟨rfl,_⟩:=hi.inv_int;obtain⟨rfl,_⟩:=hx.inv_str;obtain⟨h0,hl,hg,hlt⟩:=PM hb;have hb2:b.toNat<256:=b.toNat_lt;refine⟨.int .u8 b.toNat,?_,HV (by simp[IntKind.min,IntKind.signed]) (by simp[IntKind.max,IntKind.signed,IntKind.bits]; omega)⟩;have hq:(⟨s.toArray⟩:ByteArray)[i.toNat]?=G b:=by rw[na,hg]
  simp[Instr.index,asIntOf,run_underlying hu,h0,hq]
 .cases hr
def SQ{n:W}(hn:n<=maxLen):IntKind.i64.min<=(n:Q)/\(n:Q)<=IntKind.i64.max:=by
 unfold maxLen at hn
 simp[IntKind.min,IntKind.max,IntKind.signed,IntKind.bits];omega
def A4h{t ty:TypeId}{ax r:AV}{vx:Value}(hu:P.underlying t=G .string)(hx:VRel (cx A nm M w) ax vx)(hr:MH ax=G r) :
  ∃v,(Builtin.len_ #[t] ty #[vx]).run P w= .ok v w/\VRel (cx A nm M w) r v:=by
 unfold MH at hr
 split at hr
 .rename_i s
  cases hr;obtain⟨rfl,hl⟩:=hx.inv_str;exact⟨.int .i64 s.length,by simp[Builtin.len_,run_underlying hu,goInt,R4],HV (SQ hl).1 (SQ hl).2⟩
 .cases hr
def Ys{h:A6}{sz:W}:∀{es:N (N D)} {vs:N Value} {bs:N Z},RepRows h sz es vs->Dm es=G bs->
  (es≠ []->sz=1)/\es.length<=vs.length/\bs.length=es.length/\∃ns:N Q,vs.take es.length=ns.map (Value.int .u8)/\ns.map (fun n=>UInt8.ofNat n.toNat)=bs
 | [],vs,bs,_,hb=>by
  simp only[Dm,zA] at hb
  subst hb;exact⟨fun h=>absurd J h,d0,J,[],d0,J⟩
 | d::es,vs,bs,.cons hl hd hr,hb=>by
  unfold Dm at hb
  split at hb
  .rename_i e; cases e
  .rename_i n r e
   cases e;simp only[I] at hb
   obtain⟨bs',hb',rfl⟩:=hb;obtain rfl:sz=1:=by simpa using hl.symm
   cases hd with
   | cons hv _=>
    cases hv;rename_i vs' _ _
    obtain⟨_,h2,h3,ns,h4,h5⟩:=Ys hr hb';simp only[List.drop_succ_cons,yB] at h2 h4
    exact⟨fun _=>rfl,d3,by simp[h3],n::ns,by simp[h4],by simp[h5]⟩
  .cases hb
def dK:∀(ns:N Q) (s:ByteArray),ns.foldl (fun r n=>r.push (UInt8.ofNat n.toNat)) s=⟨(s.data.toList++ns.map fun n=>UInt8.ofNat n.toNat).toArray⟩
 | [],s=>by simp
 | n::ns,s=>by
  rw[List.foldl_cons,dK ns];simp
def A32{s t e:TypeId}{ax r:AV}{vx:Value}(hs:P.underlying s=G (.slice e))(he:P.underlying e=G (.int .u8))(ht:P.underlying t=G .string)(hx:VRel (cx A nm M w) ax vx)(hr:I4 M.rows ax=G r) :
  ∃v,(convert s t vx).run P w= .ok v w/\VRel (cx A nm M w) r v:=by
 have nilc:∀p c bs,Dm []=G bs->∃v,(convert s t (.slice p 0 c)).run P w= .ok v w/\VRel (cx A nm M w) (.v (.sc (.dat (.str bs)))) v:=by
  intro p c bs hb;simp only[Dm,zA] at hb
  subst hb;refine⟨.string .empty,?_,.v (.sc (.dat (.str (s:= []) d0)))⟩;cases p<;>simp[convert,run_underlying hs,run_underlying ht,run_underlying he,Conv.bytesToString,loadCells,loadCellsFrom]
 have full:∀(b off c sz:W) (C:Array Value) (tt:TypeId) (fr:W × W) (es:N (N D)) (bs:N Z),es≠ []->Dm es=G bs->es.length<=maxLen->w.heap[b]?=G (.cells C tt fr)->RepRows (A9 A nm w) sz es (C.toList.drop off)->
   ∃v,(convert s t (.slice (G ⟨b,off,L⟩) es.length c)).run P w= .ok v w/\VRel (cx A nm M w) (.v (.sc (.dat (.str bs)))) v:=by
  intro b off c sz C tt fr es bs hne hb hm hC hrows;obtain⟨_,h2,h3,ns,h4,h5⟩:=Ys hrows hb;have hpe:0<es.length:=yA.2 hne;simp only[zW,Array.length_toList] at h2
  have hld:=SN (P:=P) (w:=w) (b:=b) (off:=off) (n:=es.length) hC a9;rw[h4] at hld
  refine⟨.string ⟨bs.toArray⟩,?_,.v (.sc (.dat (.str a9)))⟩;have:=run_bytesToString (P:=P) w ⟨b,off,L⟩ es.length c ns hld;rw[dK] at this
  simp only[convert,Sem.run_bind,run_underlying hs,run_underlying ht,run_underlying he,Result.andThen_ok];rw[this,h5];simp
 unfold I4 at hr
 split at hr
 .rename_i es
  simp only[I] at hr
  obtain⟨bs,hb,rfl⟩:=hr;have hx':=hx.inv_sc.inv_dat;cases hx' with
  | nil=>exact nilc _ _ _ hb
  | sl hC hpos hrows hlen hcap hmax=>
   subst hlen;by_cases hne:es= []
   .subst hne; exact nilc _ _ _ hb
   .obtain⟨_,C',tt,fr,_,hC',rfl⟩:=hC;exact full _ _ _ _ C' tt fr es bs hne hb a9 hC' hrows
 .split at hr
  .rename_i sz es hf
   simp only[I] at hr
   obtain⟨bs,hb,rfl⟩:=hr;rcases hx.inv_sc.inv_own hf with ⟨rfl,_,a0,rfl⟩|⟨b,cap,hb2,own,rfl⟩
   .exact nilc _ _ _ hb
   .have h1:=own.room; have h2:=own.small;obtain⟨_,_,_,C,tt,k1,k2,k3⟩:=own;by_cases hne:es= []
    .subst hne; exact nilc _ _ _ hb
    .exact full b 0 cap _ C tt _ es bs hne hb a9 k1 (by rw[yB]; exact k3)
  .cases hr
 .cases hr
def A0a{t ty e:TypeId}{ax r:AV}{vx:Value}(hu:P.underlying t=G (.slice e))(hx:VRel (cx A nm M w) ax vx)(hr:Et M.rows ax=G r) :
  ∃v,(Builtin.len_ #[t] ty #[vx]).run P w= .ok v w/\VRel (cx A nm M w) r v:=by
 have key:∀p n c,n<=maxLen->∃v,(Builtin.len_ #[t] ty #[.slice p n c]).run P w= .ok v w/\VRel (cx A nm M w) (.v (.sc (.dat (.int .i64 (n:Q))))) v:=fun p n c hn=>
  ⟨.int .i64 n,by simp[Builtin.len_,run_underlying hu,goInt],HV (SQ hn).1 (SQ hn).2⟩
 unfold Et at hr
 split at hr
 .cases hr;have hx':=hx.inv_sc.inv_dat;cases hx' with
  | nil=>exact key _ 0 _ (by simp[maxLen])
  | sl hC hpos hrows hlen hcap hmax=>subst hlen; exact key _ _ _ a9
 .split at hr
  .rename_i sz es hf
   cases hr;rcases hx.inv_sc.inv_own hf with ⟨rfl,_,a0,rfl⟩|⟨b,cap,hb,own,rfl⟩
   .exact key _ 0 _ (by simp[maxLen])
   .have h1:=own.room; have h2:=own.small; exact key _ _ _ a9
  .cases hr
 .cases hr;have hx':=hx.inv_sc;cases hx' with
  | nil=>exact key _ 0 _ (by simp[maxLen])
 .cases hr;have hx':=hx.inv_sc;cases hx' with | old hnw hx'=>
  cases hx' with
  | nil=>exact key _ 0 _ (by simp[maxLen])
  | sl hC hpos hrows hlen hcap hmax=>subst hlen; exact key _ _ _ a9
 .cases hr;have hx':=hx.inv_sc;cases hx' with | vol hx' hsh=>
  cases hx' with
  | nil=>cases hsh; exact key _ 0 _ (by simp[maxLen])
  | sl hC hpos hrows hlen hcap hmax=>cases hsh; subst hlen; exact key _ _ _ a9
 .cases hr
def cT{g:V}{ax ay r:AV}{vx vy:Value}(hx:VRel (cx A nm M w) ax vx)(hy:VRel (cx A nm M w) ay vy)(hr:Kj g ax ay=G r) :
  ∃v,((if g then Builtin.max2 vx vy else Builtin.min2 vx vy).run P w= .ok v w)/\VRel (cx A nm M w) r v:=by
 unfold Kj at hr
 split at hr
 .rename_i k x k' y
  split at hr
  .rename_i hk
   subst hk;cases hr;obtain⟨rfl,a1,a2⟩:=hx.inv_int;obtain⟨rfl,b1,b2⟩:=hy.inv_int;cases g
   .refine⟨_,J,?_⟩;simp only[cond_false];split<;>exact HV ‹_› ‹_›
   .refine⟨_,J,?_⟩;simp only[cond_true,gt_iff_lt];split<;>exact HV ‹_› ‹_›
  .cases hr
 .cases hr
def tE{i:W}{ax r:AV}{vx:Value}(hx:VRel X ax vx)(hr:L4 i ax=G r) :
  ∃v,(Instr.extract vx i).run P w= .ok v w/\VRel X r v:=by
 unfold L4 at hr
 split at hr
 .rename_i l
  simp only[I] at hr
  obtain⟨x,hl,rfl⟩:=hr;cases hx with | tup H=>
  have key:∀{l:N V1} {vs:N Value} {i:W} {x:V1},V1Rels X l vs->l[i]?=G x->∃v,vs[i]?=G v/\V1Rel X x v:=by
   intro l vs i x H hl
   induction H generalizing i with
   | nil=>simp at hl
   | cons a _ ih=>
    cases i with
    | zero=>simp at hl; subst hl; exact⟨_,d0,a⟩
    | succ i=>simp at hl; obtain⟨v,hv,hr⟩:=ih hl; exact⟨v,by simpa using hv,hr⟩
  obtain⟨v,hv,hrel⟩:=key H hl;exact⟨v,by simp[Instr.extract,hv],.v hrel⟩
 .cases hr
def A2o{ac ax ay r:AV}{vc vx vy:Value}(hc:VRel X ac vc)(hx:VRel X ax vx)(hy:VRel X ay vy)(hr:MG ac ax ay=G r) :
  ∃b,vc= .bool b/\VRel X r (if b then vx else vy):=by
 unfold MG at hr
 split at hr
 .rename_i b
  cases hr;exact⟨b,hc.inv_bool,by cases b<;>simpa⟩
 .cases hr
def A1n{ax r:AV}{vx:Value}(hx:VRel X ax vx)(hr:GD ax=G r):(∃ad,vx= .pointer (G ad))/\VRel X r vx:=by
 unfold GD at hr
 split at hr<;>first | (cases hr; done) | skip
 all_goals
  cases hr;refine⟨?_,hx⟩;have hx':=hx.inv_sc;cases hx'
  first
   | exact⟨_,rfl⟩
   | (rename_i hd; cases hd; exact⟨_,rfl⟩)
   | (rename_i hd he; cases hd; cases he; exact⟨_,rfl⟩)
def cS{f:FuncId}:∀{avs:N AV} {vs:N Value} {ids:N W},avs.length=vs.length->(∀(i:W) (a:AV) (v:Value),avs[i]?=G a->vs[i]?=G v->VRel X a v)->GC f avs=G ids->
  ∃bs,ids.mapM (fun i=>X.nm (2*i))=G bs/\vs=bs.map fun b=>Value.pointer (G ⟨b,0,L⟩)
 | [],[],ids,_,_,hr=>by simp[GC] at hr; subst hr; exact⟨[],rfl,rfl⟩
 | [],_::_,_,hl,_,_=>by simp at hl
 | _::_,[],_,hl,_,_=>by simp at hl
 | a::avs,v::vs,ids,hl,H,hr=>by
  unfold GC at hr
  split at hr
  .rename_i heq; cases heq
  .rename_i id r heq
   cases heq;simp only[I] at hr
   obtain⟨ids',hr',rfl⟩:=hr;obtain⟨bs,hbs,hvs⟩:=cS (by simpa using hl) (fun i a v ha hv=>H (i+1) a v (by simpa using ha) (by simpa using hv)) hr';have h0:=(H 0 (.v (.sc (.pb id 0))) v d0 d0).inv_sc;cases h0 with | pb hb=>
   refine⟨_::bs,?_,by rw[hvs]; rfl⟩;simp[yH,hb,hbs]
  .cases hr
def cR:∀{avs:N AV} {vs:N Value} {ds:N D},avs.length=vs.length->(∀(i:W) (a:AV) (v:Value),avs[i]?=G a->vs[i]?=G v->VRel X a v)->GB avs=G ds->Reps X.h ds vs/\ds.length=vs.length
 | [],[],ds,_,_,hr=>by simp[GB] at hr; subst hr; exact⟨.nil,rfl⟩
 | [],_::_,_,hl,_,_=>by simp at hl
 | _::_,[],_,hl,_,_=>by simp at hl
 | a::avs,v::vs,ds,hl,H,hr=>by
  unfold GB at hr
  split at hr
  .rename_i heq; cases heq
  .rename_i id r heq
   cases heq;simp only[I] at hr
   obtain⟨ds',hr',rfl⟩:=hr;obtain⟨h1,h2⟩:=cR (by simpa using hl) (fun i a v ha hv=>H (i+1) a v (by simpa using ha) (by simpa using hv)) hr';have h0:=(H 0 (.v (.sc (.dat (.pd id)))) v d0 d0).inv_sc;cases h0 with | dat hb=>exact⟨.cons hb h1,by simp[h2]⟩
  .cases hr
def A05{f:FuncId}{avs:N AV}{vs:N Value}{c:AC}(hl:avs.length=vs.length)(H:∀(i:W) (a:AV) (v:Value),avs[i]?=G a->vs[i]?=G v->VRel X a v)(h:GA f avs=G c):CRel X c (.func (.func f) #[] vs.toArray):=by
 unfold GA at h;split at h
 .simp only[I] at h;obtain⟨q,hq,rfl⟩:=h;obtain⟨h1,h2⟩:=cR hl H hq;exact .dat (.clo h1 h2)
 .simp only[I] at h;obtain⟨ids,hq,rfl⟩:=h;obtain⟨bs,hbs,rfl⟩:=cS hl H hq;exact .clo hbs
end
end
section
section
variable {P : Program} {A : Ar} {B : W} {w0 : Base} {nm : Ac} {M : St} {a : Act} {w : World} {X : Cx}
def Fx(X:Cx)(M:St):O Opd->O Value->Prop
 | none,L=>True
 | some y,G v=>VRel X (M.val y) v
 | _,_=>False
def Qe(R:Rel A B w0 nm M a.tmps w){x:O Operand}{y:O Opd}(hx:MD x=G y):Fx (cx A nm M w) M y (x.map a.eval):=by
 cases x with
 | none=>simp[MD] at hx; subst hx; trivial
 | some x=>
  simp only[MD,I] at hx
  obtain⟨y',hy,rfl⟩:=hx;exact Ax R hy
def KM{ax:AV}{v:Value}{i:Q}(hx:VRel X ax v)(hi:Cb ax=G i):∃k,v= .int k i:=by
 unfold Cb at hi
 split at hi
 .cases hi; exact⟨_,hx.inv_int.1⟩
 .cases hi
def T1{k:IntKind}{i:Q}{y:W}{code:BoundsCode}(h0:0<=i)(h1:i<=y):(Instr.sliceBound (.int k i) y code).run P w= .ok i.toNat w:=by
 simp[Instr.sliceBound,asIntOf,h0,h1]
def Q7(vlo:O Value)(y:W)(code:BoundsCode)(m:W):Sem (W × W × W):=do
 let l <- match vlo with
  | some v=>Instr.sliceBound v y code
  | none=>pure 0
 pure (l,y,m)
def KU{isS:V}{len cap l r:W}{lo hi mx:O Opd}{vlo vhi vmx:O Value}(hc:len<=cap)(hnm:¬(hi=L/\mx≠L))
  (hlo:Fx X M lo vlo) (hhi:Fx X M hi vhi) (hmx:Fx X M mx vmx) (hb:Ea M lo hi mx len=G (l,r)) :
  l<=r/\r<=len/\∃m,r<=m/\m<=cap/\(mx=L->m=cap)/\(Instr.sliceBounds isS len cap vlo vhi vmx).run P w= .ok (l,r,m) w:=by
 unfold Ea at hb
 split at hb
 .rename_i m hh ll hm1 hh1 hl1
  split at hb
  .rename_i hle
   simp only[zA,zB] at hb
   obtain⟨rfl,rfl⟩:=hb;obtain⟨b0,b1,b2,b3⟩:=hle;refine⟨a9,a9,?_⟩
   have Hl:∀(y:W) (code:BoundsCode) (m':W),hh.toNat=y->(Q7 vlo y code m').run P w= .ok (ll.toNat,y,m') w:=by
    intro y code m' hy;cases lo with
    | none=>
     cases vlo with
     | none=>simp only[zA] at hl1; subst hl1; rfl
     | some v=>exact hlo.elim
    | some x=>
     cases vlo with
     | none=>exact hlo.elim
     | some v=>
      obtain⟨k,rfl⟩:=KM hlo hl1;simp only[Q7,Sem.run_bind,T1 (P:=P) (w:=w) (k:=k) (code:=code) b0 (show ll<=(y:Q) by omega),Result.andThen_ok,Sem.run_pure]
   cases mx with
   | none=>
    cases vmx with
    | some v=>exact hmx.elim
    | none=>
     simp only[zA] at hm1
     subst hm1;refine⟨cap,a9,zM _,fun _=>rfl,?_⟩;cases hi with
     | none=>
      cases vhi with
      | some v=>exact hhi.elim
      | none=>
       simp only[zA] at hh1
       subst hh1;have h3:=Hl len .sliceB cap d0;have e:Instr.sliceBounds isS len cap vlo L L=Q7 vlo len .sliceB cap:=by cases vlo<;>rfl
       rw[e,h3];simp
     | some x=>
      cases vhi with
      | none=>exact hhi.elim
      | some v=>
       obtain⟨k,rfl⟩:=KM hhi hh1;have h3:=Hl hh.toNat .sliceB cap rfl;have h2:=T1 (P:=P) (w:=w) (k:=k) (i:=hh) (y:=cap) (code:=if isS then .sliceAcap else .sliceAlen) a9 a9;have e:Instr.sliceBounds isS len cap vlo (G (.int k hh)) L=(do let q <- Instr.sliceBound (.int k hh) cap (if isS then .sliceAcap else .sliceAlen); Q7 vlo q .sliceB cap):=by cases vlo<;>rfl
       rw[e,Sem.run_bind,h2];exact h3
   | some xm=>
    cases vmx with
    | none=>exact hmx.elim
    | some vm=>
     obtain⟨km,rfl⟩:=KM hmx hm1;cases hi with
     | none=>exact absurd ⟨rfl,d0⟩ hnm
     | some x=>
      cases vhi with
      | none=>exact hhi.elim
      | some v=>
       obtain⟨k,rfl⟩:=KM hhi hh1;refine⟨m.toNat,a9,a9,fun h=>(by cases h),?_⟩;have h3:=Hl hh.toNat .slice3C m.toNat rfl;have h1:=T1 (P:=P) (w:=w) (k:=km) (i:=m) (y:=cap) (code:=if isS then .slice3Acap else .slice3Alen) a9 a9;have h2:=T1 (P:=P) (w:=w) (k:=k) (i:=hh) (y:=m.toNat) (code:= .slice3B) a9 a9;have e:Instr.sliceBounds isS len cap vlo (G (.int k hh)) (G (.int km m))=(do let c <- Instr.sliceBound (.int km m) cap (if isS then .slice3Acap else .slice3Alen); let q <- Instr.sliceBound (.int k hh) c .slice3B; Q7 vlo q .slice3C c):=by cases vlo<;>rfl
       rw[e,Sem.run_bind,h1];simp only[Result.andThen_ok,Sem.run_bind,h2];exact h3
  .cases hb
 .cases hb
def nZ(s:N Z)(l r:W):(⟨s.toArray⟩:ByteArray).extract l r=⟨((s.drop l).take (r - l)).toArray⟩:=by
 apply ByteArray.ext
 simp[ByteArray.data_extract,zZ]
def A4f{t:TypeId}{ax r:AV}{vx:Value}{lo hi:O Opd}{vlo vhi:O Value}(hu:P.underlying t=G .string)
  (hx:VRel (cx A nm M w) ax vx) (hlo:Fx (cx A nm M w) M lo vlo) (hhi:Fx (cx A nm M w) M hi vhi) (hr:I5 M ax lo hi=G r) :
  ∃v,(Instr.sliceAt t vx vlo vhi L).run P w= .ok v w/\VRel (cx A nm M w) r v:=by
 unfold I5 at hr
 split at hr
 .rename_i s
  simp only[I] at hr
  obtain⟨⟨l,q⟩,hb,rfl⟩:=hr;obtain⟨rfl,hs⟩:=hx.inv_str;obtain⟨b1,b2,m,b3,b4,bm,hrun⟩:=KU (P:=P) (w:=w) (isS:=false) (cap:=s.length) (zM _) d0 hlo hhi (mx:=none) (vmx:=none) trivial hb;refine⟨.string ⟨((s.drop l).take (q - l)).toArray⟩,?_,Bs (.dat (.str d3))⟩;simp[Instr.sliceAt,Instr.slice,run_underlying hu,R4,hrun,nZ]
 .cases hr
def A4e{t e:TypeId}{inf:TypeInfo}{ax r:AV}{vx:Value}{lo hi mx:O Opd}{vlo vhi vmx:O Value}(hu:P.underlying t=G (.slice e))(hi2:P.info? e=G inf)(hnm:¬(hi=L/\mx≠L))
  (hx:VRel (cx A nm M w) ax vx) (hlo:Fx (cx A nm M w) M lo vlo) (hhi:Fx (cx A nm M w) M hi vhi) (hmx:Fx (cx A nm M w) M mx vmx) (hr:Ez M inf.size ax lo hi mx=G r) :
  ∃v,(Instr.sliceAt t vx vlo vhi vmx).run P w= .ok v w/\VRel (cx A nm M w) r v:=by
 have key:∀(p:O Addr) (len cap l q m:W),(Instr.sliceBounds T len cap vlo vhi vmx).run P w= .ok (l,q,m) w->
   (Instr.sliceAt t (.slice p len cap) vlo vhi vmx).run P w= .ok (.slice (if m=l then p else p.map (·.add (l*inf.size))) (q - l) (m - l)) w:=by
  intro p len cap l q m hb;simp[Instr.sliceAt,Instr.slice,run_underlying hu,hb,sizeOf,typeInfo,hi2]
 unfold Ez at hr
 split at hr
 .rename_i es
  split at hr
  .rename_i hall
   simp only[I] at hr
   obtain⟨⟨l,q⟩,hb,rfl⟩:=hr;simp only[zI,zP,beq_iff_eq,decide_eq_true_eq] at hall
   have hx':=hx.inv_sc.inv_dat;cases hx' with
   | nil=>
    obtain⟨b1,b2,m,b3,b4,bm,hrun⟩:=KU (P:=P) (w:=w) (isS:=true) (len:=0) (Nat.zero_le _) hnm hlo hhi hmx hb;refine⟨_,key _ _ _ _ _ _ hrun,Bs (.dat ?_)⟩;simp only[List.drop_nil,List.take_nil];rw[show q - l=0 by omega];exact .nil
   | @sl _ _ _ sz0 _ _ _ hC hpos hrows hlen hcap hmax=>
    subst hlen;obtain⟨b1,b2,m,b3,b4,bm,hrun⟩:=KU (P:=P) (w:=w) (isS:=true) hcap hnm hlo hhi hmx hb;refine⟨_,key _ _ _ _ _ _ hrun,Bs (.dat ?_)⟩;by_cases hne:(es.drop l).take (q - l)= []
    .have hql:q - l=0:=by
      have:=congrArg List.length hne;simp at this
      omega
     rw[hne,hql];exact .nil
    .have hml:m≠l:=by
      intro e;apply hne
      rw[show q - l=0 by omega];simp
     rw[if_neg hml];simp only[Option.map_some,Addr.add_lit];have hd:∀d∈es,d.length=sz0:=hrows.all
     have hsz:sz0=inf.size:=by
      cases es with
      | nil=>simp at hne
      | cons d ds=>exact(hd d d0).symm.trans (hall.1 d d0)
     refine .sl hC hpos ?_ d3 a9 a9;have h1:=(hrows.dropRows l).takeRows (q - l);rw[zD,hsz] at h1
     rw[hsz];exact h1
  .cases hr
 .rename_i id
  split at hr
  .rename_i sz' es hf
   split at hr
   .rename_i hsz0
    obtain⟨hsz,hmn0⟩:=hsz0;have hmn:mx=L:=by simpa using hmn0
    simp only[I] at hr
    obtain⟨⟨l,q⟩,hb,rfl⟩:=hr;rcases hx.inv_sc.inv_own hf with ⟨rfl,hn,a0,rfl⟩|⟨b,cap,hbk,own,rfl⟩
    .obtain⟨b1,b2,m,b3,b4,bm,hrun⟩:=KU (P:=P) (w:=w) (isS:=true) (len:=0) (cap:=0) (Nat.zero_le _) hnm hlo hhi hmx hb;obtain rfl:q=0:=by omega
     obtain rfl:l=0:=by omega
     obtain rfl:m=0:=by omega
     refine⟨_,key _ _ _ _ _ _ hrun,Bs ?_⟩;simp only[Option.map_none,ite_self,Nat.sub_self];exact .osubNil hf hn
    .obtain⟨b1,b2,m,b3,b4,bm,hrun⟩:=KU (P:=P) (w:=w) (isS:=true) own.room hnm hlo hhi hmx hb;refine⟨_,key _ _ _ _ _ _ hrun,Bs ?_⟩;have hsm:=own.small;subst hsz;split
     .exact .osub (off:=0) hf hbk own b1 b2 ⟨fun hne=>by omega,fun h0=>⟨J,by have:=bm hmn; omega⟩⟩ J a9 a9
     .simp only[Option.map_some,Addr.add_lit,Nat.zero_add];exact .osub hf hbk own b1 b2 ⟨fun _=>rfl,fun h0=>⟨by rw[h0,Nat.zero_mul],by have:=bm hmn; omega⟩⟩ J a9 a9
   .cases hr
  .cases hr
 .simp only[I] at hr
  obtain⟨⟨l,q⟩,hb,rfl⟩:=hr;have hx':=hx.inv_sc;cases hx' with
  | nil=>
   obtain⟨b1,b2,m,b3,b4,bm,hrun⟩:=KU (P:=P) (w:=w) (isS:=true) (len:=0) (cap:=0) (Nat.zero_le _) hnm hlo hhi hmx hb;refine⟨_,key _ _ _ _ _ _ hrun,Bs ?_⟩;simp only[Option.map_none,ite_self];rw[show q - l=0 by omega,show m - l=0 by omega];exact .nil
 .cases hr
end
end
section
section
variable {X : Cx}
def A14{v:Value}(h1:v.oneCell'=T):v.cells= #[v]:=by
 cases v<;>first | rfl | (cases h1; done)
def V1Rel.cells{x:V1}{v:Value}(H:V1Rel X x v):CRels X x.cells v.cells.toList:=by
 cases H with
 | sc H=>rw[A14 H.one]; exact .cons H .nil
 | ag H=>simpa[Value.cells,V1.cells] using H
def CRels.append:∀{cs vs cs' vs'},CRels X cs vs->CRels X cs' vs'->CRels X (cs++cs') (vs++vs')
 | _,_,_,_,.nil,H=>H
 | _,_,_,_,.cons a b,H=> .cons a (b.append H)
def CRels.take:∀(n:W) {cs vs},CRels X cs vs->CRels X (cs.take n) (vs.take n)
 | 0,_,_,_=>by simpa using .nil
 | n+1,_,_,.nil=>by simpa using .nil
 | n+1,_,_,.cons a b=>by simpa using .cons a (b.take n)
def CRels.drop:∀(n:W) {cs vs},CRels X cs vs->CRels X (cs.drop n) (vs.drop n)
 | 0,_,_,H=>by simpa using H
 | n+1,_,_,.nil=>by simpa using .nil
 | n+1,_,_,.cons _ b=>by simpa using b.drop n
def Zb(off:W)(vs:N Value)(cs:Array Value)(hle:off+vs.length<=cs.size) :
  ((vs.zipIdx 0).foldl (fun cs (x:Value × W)=>cs.setIfInBounds (off+x.2) x.1) cs).toList=cs.toList.take off++vs++cs.toList.drop (off+vs.length):=by
 obtain⟨h1,h2⟩:=Great.foldl_set off vs 0 cs;apply List.ext_getElem?
 intro k;rw[Array.getElem?_toList,h2 k];simp only[zR];by_cases hk1:k<off
 .rw[if_neg a9,zE,zK d3];simp[hk1]
 .by_cases hk2:k<off+vs.length
  .rw[if_pos a9,zE,zJ d3];have e:(cs.toList.take off).length=off:=by simp; omega
   rw[e,zK a9]
  .rw[if_neg a9,zJ d3];have e:(cs.toList.take off++vs).length=off+vs.length:=by simp; omega
   rw[e,List.getElem?_drop];simp[show off+vs.length+(k - (off+vs.length))=k by omega]
inductive PartsRel (X:Cx) (pl:W->O (W × W)):N (W × W × AV)->N (W × Value)->Prop
 | nil:PartsRel X pl [] []
 | cons {off n i av v r s}:pl i=G (off,n)->VRel X av v->PartsRel X pl r s->PartsRel X pl ((off,n,av)::r) ((i,v)::s)
def YX{pl:W->O (W × W)}:∀{aps:N (W × W × AV)} {ps:N (W × Value)} {cs:N AC} {cells:Array Value} {r:N AC},
  PartsRel X pl aps ps->CRels X cs cells.toList->Db cs aps=G r->
  ∃cells',Instr.fill pl cells ps=G cells'/\CRels X r cells'.toList:=by
 intro aps
 induction aps with
 | nil=>
  intro ps cs cells r hp hc hr;cases hp;simp only[Db,zA] at hr
  subst hr;exact⟨cells,J,hc⟩
 | cons p aps ih=>
  intro ps cs cells r hp hc hr;cases hp with
  | @cons off n i av v _ s hpl hv hps=>
   cases av with
   | undef=>simp[Db] at hr
   | no=>simp[Db] at hr
   | tup l=>simp[Db] at hr
   | ev c=>simp[Db] at hr
   | v x=>
    simp only[Db] at hr
    split at hr
    .rename_i hx
     have hvx:V1Rel X x v:=by cases hv with | v H=>exact H
     have hlen:=hc.length;have hcx:=hvx.cells;have hvs:v.cells.size=n:=by have:=hcx.length; simp at this; omega
     have hfit:¬(off+v.cells.size > cells.size):=by
      have:cells.toList.length=cells.size:=by simp
      omega
     have hsp:=Zb off v.cells.toList cells d3
     obtain⟨cells',h1,h2⟩:=ih (cells:=((v.cells.toList.zipIdx 0).foldl (fun cs (x:Value × W)=>cs.setIfInBounds (off+x.2) x.1) cells)) hps (by
       rw[hsp];have:=((hc.take off).append hcx).append (hc.drop (off+n));simpa[hvs] using this) hr
     refine⟨cells',?_,h2⟩;simp only[Instr.fill,hpl];rw[if_neg (by simp[hvs]; omega)];rw[<- h1];congr 1
     rw[<- Array.foldl_toList];simp[Array.toList_zipIdx]
    .cases hr
end
end
section
section
variable {P : Program} {A : Ar} {B : W} {w0 : Base} {nm : Ac} {M : St} {a : Act} {w : World}
def SW(R:Rel A B w0 nm M a.tmps w):∀{xs:N Operand} {ys:N Opd},C8 xs=G ys->
  ys.length=xs.length/\∀(i:W) (u:AV) (v:Value),(ys.map M.val)[i]?=G u->(xs.map a.eval)[i]?=G v->VRel (cx A nm M w) u v
 | [],ys,hy=>by simp[C8] at hy; subst hy; exact⟨rfl,fun i u v hu=>by simp at hu⟩
 | x::xs,ys,hy=>by
  simp only[C8] at hy
  split at hy
  .rename_i y ys' h1 h2
   cases hy;obtain⟨hl,H⟩:=SW R h2;refine⟨by simp[hl],fun i u v hu hv=> ?_⟩;cases i with
   | zero=>simp at hu hv; subst hu hv; exact Ax R h1
   | succ i=>simp only[List.map_cons,zS] at hu hv; exact H i u v hu hv
  .cases hy
def cz(R:Rel A B w0 nm M a.tmps w){places:N (W × W)}:∀{ps:N (W × Operand)} {qs:N (W × W × Opd)},Qi places ps=G qs->
  PartsRel (cx A nm M w) (places.toArray[·]?) (qs.map fun p=>(p.1,p.2.1,M.val p.2.2)) (ps.map fun p=>(p.1,a.eval p.2))
 | [],qs,hq=>by simp[Qi] at hq; subst hq; exact .nil
 | (i,x)::r,qs,hq=>by
  simp only[Qi] at hq
  split at hq
  .rename_i p y ys h1 h2 h3
   cases hq;exact .cons (by simpa using h1) (Ax R h2) (cz R h3)
  .cases hq
def cy(R:Rel A B w0 nm M a.tmps w){sz:W}:∀{ps:N (W × Operand)} {qs:N (W × W × Opd)},Qh sz ps=G qs->
  PartsRel (cx A nm M w) (fun i=>G (i*sz,sz)) (qs.map fun p=>(p.1,p.2.1,M.val p.2.2)) (ps.map fun p=>(p.1,a.eval p.2))
 | [],qs,hq=>by simp[Qh] at hq; subst hq; exact .nil
 | (i,x)::r,qs,hq=>by
  simp only[Qh] at hq
  split at hq
  .rename_i y ys h2 h3
   cases hq;exact .cons J (Ax R h2) (cy R h3)
  .cases hq
def QK{t:TypeId}{i:TypeInfo}{z:Value}(hz:KF P t=G (i,z)):P.info? t=G i/\i.zero=G z:=by
 unfold KF at hz
 split at hz
 .rename_i i' hi
  simp only[I,zB] at hz
  obtain⟨z',h1,rfl,rfl⟩:=hz;exact⟨hi,h1⟩
 .cases hz
def L3{t:TypeId}{i:TypeInfo}{z:Value}(hz:L2 P t=G (i,z)):∃e,P.underlying t=G (.slice e)/\P.info? e=G i/\i.zero=G z:=by
 unfold L2 at hz
 split at hz
 .rename_i e hu
  exact⟨e,hu,QK hz⟩
 .cases hz
def mf{X:Cx}{c:AC}{v:Value}{d:D}(H:CRel X c v)(hd:Fo c=G d):Rep X.h d v:=by
 cases c with
 | dat d'=>
  simp only[Fo,zA] at hd
  subst hd;cases H with | dat h=>exact h
 | nil=>
  simp only[Fo,zA] at hd
  subst hd;cases H;exact .nil
 | _=>simp[Fo] at hd
def Y1{X:Cx}:∀{cs:N AC} {vs:N Value} {ds:N D},CRels X cs vs->D7 cs=G ds->Reps X.h ds vs/\ds.length=cs.length
 | [],vs,ds,_,hd=>by simp[D7] at hd; subst hd; exact⟨.nil,rfl⟩
 | c::cs,_,ds,.cons a b,hd=>by
  simp only[D7] at hd
  split at hd
  .rename_i d ds' h1 h2
   cases hd;obtain⟨h3,h4⟩:=Y1 b h2;exact⟨.cons (mf a h1) h3,by simp[h4]⟩
  .cases hd
def A1d{t:TypeId}{u:TypeDesc}{ax r:AV}{vx:Value}{X:Cx}(hu:P.underlying t=G u)(hn:∀ms,u≠ .interface ms)(hx:VRel X ax vx)(hr:HW t ax=G r) :
  ∃v,(Instr.makeInterface t vx).run P w= .ok v w/\VRel X r v:=by
 unfold HW at hr
 split at hr
 .cases hr;refine⟨.iface t vx,?_,.v (.sc (.dat (.ifc (by cases hx.inv_sc with | dat h=>exact h))))⟩;simp only[Instr.makeInterface,Sem.run_bind,run_underlying hu,Result.andThen_ok];cases u<;>first | rfl | exact absurd rfl (hn _)
 .cases hr;refine⟨.iface t vx,?_,?_⟩
  .simp only[Instr.makeInterface,Sem.run_bind,run_underlying hu,Result.andThen_ok];cases u<;>first | rfl | exact absurd rfl (hn _)
  .have hc:=hx.inv_sc;cases hc with | pb hb=>exact .v (.sc (.ipb hb))
 .simp only[I] at hr
  obtain⟨ds,hds,rfl⟩:=hr;obtain⟨vs,rfl,hcs⟩:=hx.inv_ag;obtain⟨k1,k2⟩:=Y1 hcs hds;refine⟨.iface t (.agg vs.toArray),?_,.v (.sc (.dat (.ifs k1 (k2.trans hcs.length))))⟩;simp only[Instr.makeInterface,Sem.run_bind,run_underlying hu,Result.andThen_ok];cases u<;>first | rfl | exact absurd rfl (hn _)
 .cases hr
def A6b{s t:TypeId}{u:TypeDesc}{i:TypeInfo}{z:Value}{ax r:AV}{vx:Value}{X:Cx}(hu:P.underlying t=G u)(hn:∀ms,u≠ .interface ms)(hz:KF P t=G (i,z))(h1:z.oneCell'=T)(hx:VRel X ax vx)(hr:MI t (Iu z) ax=G r) :
  ∃v,(Instr.typeAssert vx s t T).run P w= .ok v w/\VRel X r v:=by
 unfold MI at hr
 split at hr
 .rename_i q d
  obtain⟨hi,hz0⟩:=QK hz;have hc:=hx.inv_sc;cases hc with | dat hc=>
  cases hc with | ifc hd=>
  rename_i v
  by_cases e:q=t
  .subst e;simp only[beq_self_eq_true,cond_true,zA] at hr
   subst hr;refine⟨.tuple #[v,.bool T],?_,.tup (.cons (.sc (.dat hd)) (.cons (.sc (.dat .bool)) .nil))⟩;simp only[Instr.typeAssert,Sem.run_bind,run_underlying hu,Result.andThen_ok];cases u<;>first | (simp; done) | exact absurd rfl (hn _)
  .have e':(q==t)=E:=by simpa using e
   simp only[e',cond_false,zA] at hr
   subst hr;refine⟨.tuple #[z,.bool E],?_,.tup (.cons (.sc (TU z h1)) (.cons (.sc (.dat .bool)) .nil))⟩;simp only[Instr.typeAssert,Sem.run_bind,run_underlying hu,Result.andThen_ok];cases u<;>first | (simp[e,zeroValue,typeInfo,hi,hz0]; done) | exact absurd rfl (hn _)
 .cases hr
def A2v(R:Rel A B w0 nm M a.tmps w){d d':W}{o:Oper}{ao:AOp}{av:AV}(hc:Ad P d o=G ao)(hp:M.pure ao=G (d',av)) :
  d'=d/\∃v,(execOp a.eval o).run P w= .ok (.value v) w/\VRel (cx A nm M w) av v:=by
 obtain⟨dst,op,ty,pos,after,guard⟩:=o
 have fin:∀{s:Sem Value} {v:Value},s.run P w= .ok v w->(do pure (Next.value (<- s)):Sem Next).run P w= .ok (.value v) w:=by
  intro s v hs;simp[hs]
 cases op
 case move x=>
  simp only[Ad,I] at hc
  obtain⟨y,hy,rfl⟩:=hc;simp only[St.pure,zA,zB] at hp
  obtain⟨rfl,rfl⟩:=hp;exact⟨J,_,J,Ax R hy⟩
 case assign x=>
  simp only[Ad,I] at hc
  obtain⟨y,hy,rfl⟩:=hc;simp only[St.pure,zA,zB] at hp
  obtain⟨rfl,rfl⟩:=hp;exact⟨J,_,J,Ax R hy⟩
 case pick c x y=>
  simp only[Ad] at hc
  split at hc
  .rename_i c' x' y' h1 h2 h3
   cases hc;simp only[St.pure,I,zB] at hp
   obtain⟨r,hr,rfl,rfl⟩:=hp;obtain⟨b,hb,hrel⟩:=A2o (Ax R h1) (Ax R h2) (Ax R h3) hr;refine⟨J,_,?_,hrel⟩;simp only[execOp,hb,asBool,Sem.run_bind,Sem.run_pure,Result.andThen_ok]
  .cases hc
 case build t ps=>
  simp only[Ad] at hc
  split at hc
  .rename_i fs i z hu hi
   obtain⟨hi,hz0⟩:=QK hi;split at hc
   .rename_i places hpl
    split at hc
    .rename_i zs qs hz hq
     cases hc;simp only[St.pure,I,zB] at hp
     obtain⟨cs,hcs,rfl,rfl⟩:=hp;obtain⟨cells,h1,h2⟩:=YX (cells:=z.cells) (cz R hq) (N6 hz) hcs;refine⟨J,.agg cells,?_,?_⟩
     .refine fin (run_build w t _ cells ?_);unfold Program.built;rw[hi,hu];simp only[hpl,hz0];simpa using h1
     .have:=V1Rel.ag h2;simp only[Array.toArray_toList] at this
      exact .v this
    .cases hc
   .cases hc
  .rename_i n e i z hu hi
   obtain⟨hi,hz0⟩:=QK hi;split at hc
   .rename_i ie hie
    split at hc
    .rename_i zs qs hz hq
     cases hc;simp only[St.pure,I,zB] at hp
     obtain⟨cs,hcs,rfl,rfl⟩:=hp;obtain⟨cells,h1,h2⟩:=YX (cells:=z.cells) (cy R hq) (N6 hz) hcs;refine⟨J,.agg cells,?_,?_⟩
     .refine fin (run_build w t _ cells ?_);unfold Program.built;rw[hi,hu];simp only[hie,hz0];simpa using h1
     .have:=V1Rel.ag h2;simp only[Array.toArray_toList] at this
      exact .v this
    .cases hc
   .cases hc
  .cases hc
 case load t x=>
  simp only[Ad] at hc
  split at hc
  .rename_i g n y h1 h2
   split at hc
   .cases hc;simp only[St.pure,I,zB] at hp
    obtain⟨r,hr,rfl,rfl⟩:=hp;obtain⟨v,hv,hrel⟩:=cF R h1 (Ax R h2) hr;exact⟨J,v,fin hv,hrel⟩
   .cases hc
  .cases hc
 case nilCheck x=>
  simp only[Ad,I] at hc
  obtain⟨y,hy,rfl⟩:=hc;simp only[St.pure,I,zB] at hp
  obtain⟨r,hr,rfl,rfl⟩:=hp;obtain⟨⟨ad,hv⟩,hrel⟩:=A1n (Ax R hy) hr;refine⟨J,_,?_,hrel⟩;simp[execOp,hv]
 case binOp op t x y yt=>
  simp only[Ad] at hc
  split at hc
  .rename_i x' y' h1 h2
   split at hc
   .rename_i hu
    cases hc;simp only[St.pure,I,zB] at hp
    obtain⟨r,hr,rfl,rfl⟩:=hp;obtain⟨v,hv,hrel⟩:=Yl (P:=P) (w:=w) (op:= .eql) (OX:=x) (OY:=y) hu rfl (Ax R h1) (Ax R h2) hr;exact⟨J,v,fin hv,hrel⟩
   .rename_i hu
    cases hc;simp only[St.pure,I,zB] at hp
    obtain⟨r,hr,rfl,rfl⟩:=hp;obtain⟨v,hv,hrel⟩:=Yl (P:=P) (w:=w) (op:= .neq) (OX:=x) (OY:=y) hu rfl (Ax R h1) (Ax R h2) hr;exact⟨J,v,fin hv,hrel⟩
   .rename_i hu
    simp only[I] at hc
    obtain⟨ks,hks,rfl⟩:=hc;simp only[St.pure,I,zB] at hp
    obtain⟨r,hr,rfl,rfl⟩:=hp;obtain⟨v,hv,hrel⟩:=Zf (P:=P) (w:=w) (op:= .eql) (OX:=x) (OY:=y) hks rfl (Ax R h1) (Ax R h2) hr;exact⟨J,v,fin hv,hrel⟩
   .rename_i hu
    simp only[I] at hc
    obtain⟨ks,hks,rfl⟩:=hc;simp only[St.pure,I,zB] at hp
    obtain⟨r,hr,rfl,rfl⟩:=hp;obtain⟨v,hv,hrel⟩:=Zf (P:=P) (w:=w) (op:= .neq) (OX:=x) (OY:=y) hks rfl (Ax R h1) (Ax R h2) hr;exact⟨J,v,fin hv,hrel⟩
   .cases hc;simp only[St.pure,I,zB] at hp
    obtain⟨r,hr,rfl,rfl⟩:=hp;obtain⟨v,hv,hrel⟩:=oB (P:=P) (w:=w) (t:=t) (OX:=x) (OY:=y) (Ax R h1) (Ax R h2) hr;exact⟨J,v,fin hv,hrel⟩
  .cases hc
 case unOp op t x=>
  simp only[Ad,I] at hc
  obtain⟨y,hy,rfl⟩:=hc;simp only[St.pure,I,zB] at hp
  obtain⟨r,hr,rfl,rfl⟩:=hp;obtain⟨v,hv,hrel⟩:=A61 (P:=P) (w:=w) (Ax R hy) hr;exact⟨J,v,fin hv,hrel⟩
 case convert s t x=>
  simp only[Ad] at hc
  split at hc
  .rename_i k y hs ht hy
   cases hc;simp only[St.pure] at hp
   split at hp
   .rename_i k' n hv
    simp only[zA,zB] at hp
    obtain⟨rfl,rfl⟩:=hp;have hx:=Ax R hy;rw[hv] at hx
    obtain⟨e,_⟩:=hx.inv_int;refine⟨J,_,fin ?_,Mw⟩;simp only[convert,Sem.run_bind,run_underlying hs,run_underlying ht,Result.andThen_ok,e];rename_i ds _ _
    cases ds<;>rfl
   .cases hp
  .rename_i e y hs ht hy
   split at hc
   .rename_i he
    cases hc;simp only[St.pure,I,zB] at hp
    obtain⟨r,hr,rfl,rfl⟩:=hp;obtain⟨v,hv,hrel⟩:=A32 (P:=P) (w:=w) hs he ht (Ax R hy) hr;exact⟨J,v,fin hv,hrel⟩
   .cases hc
  .cases hc
 case slice t x lo hi mx=>
  simp only[Ad] at hc
  split at hc
  .rename_i y l q m h1 h2 h3 h4
   split at hc
   .cases hc
   .rename_i hnm
    split at hc
    .rename_i hu
     split at hc
     .rename_i hmx
      cases hc;simp only[St.pure,I,zB] at hp
      obtain⟨r,hr,rfl,rfl⟩:=hp;have hm0:mx=L:=by simpa using hmx
      subst hm0;obtain⟨v,hv,hrel⟩:=A4f (P:=P) (w:=w) hu (Ax R h1) (Qe R h2) (Qe R h3) hr;exact⟨J,v,fin hv,hrel⟩
     .cases hc
    .rename_i e hu
     simp only[I] at hc
     obtain⟨inf,hi,rfl⟩:=hc;simp only[St.pure,I,zB] at hp
     obtain⟨r,hr,rfl,rfl⟩:=hp;obtain⟨v,hv,hrel⟩:=A4e (P:=P) (w:=w) hu hi hnm (Ax R h1) (Qe R h2) (Qe R h3) (Qe R h4) hr;exact⟨J,v,fin hv,hrel⟩
    .cases hc
  .cases hc
 case fieldAddr s x f=>
  simp only[Ad] at hc
  split at hc
  .rename_i fs y hu hy
   split at hc
   .rename_i fd hf
    split at hc
    .rename_i i hi
     split at hc
     .cases hc
     .rename_i hz
      cases hc;simp only[St.pure,I,zB] at hp
      obtain⟨r,hr,rfl,rfl⟩:=hp;obtain⟨v,hv,hrel⟩:=tM (P:=P) hu hf hi hz (Ax R hy) hr;exact⟨J,v,fin hv,hrel⟩
    .cases hc
   .cases hc
  .cases hc
 case field t x f=>
  simp only[Ad] at hc
  split at hc
  .rename_i fs y hu hy
   split at hc
   .rename_i fd hf
    split at hc
    .rename_i g n hg
     split at hc
     .cases hc;simp only[St.pure,I,zB] at hp
      obtain⟨r,hr,rfl,rfl⟩:=hp;obtain⟨v,hv,hrel⟩:=tR (P:=P) hu hf hg (Ax R hy) hr;exact⟨J,v,fin hv,hrel⟩
     .cases hc
    .cases hc
   .cases hc
  .cases hc
 case indexAddr t x i=>
  simp only[Ad] at hc
  split at hc
  .rename_i inf y j h1 h2 h3
   cases hc;simp only[St.pure,I,zB] at hp
   obtain⟨r,hr,rfl,rfl⟩:=hp;obtain⟨v,hv,hrel⟩:=wc (P:=P) h1 (Ax R h2) (Ax R h3) hr;exact⟨J,v,fin hv,hrel⟩
  .rename_i y j h1 h2 h3
   split at hc
   .rename_i len e hu
    split at hc
    .rename_i ie hie
     split at hc
     .rename_i k n
      split at hc
      .rename_i hn
       cases hc;simp only[St.pure,I,zB] at hp
       obtain⟨r,hr,rfl,rfl⟩:=hp;obtain⟨v,hv,hrel⟩:=tL (P:=P) (k:=k) hu hie hn.1 hn.2.1 (Ax R h2) hr;exact⟨J,v,fin hv,hrel⟩
      .cases hc
     .cases hc;simp only[St.pure,I,zB] at hp
      obtain⟨r,hr,rfl,rfl⟩:=hp;obtain⟨v,hv,hrel⟩:=me (P:=P) hu hie (Ax R h2) (Ax R h3) hr;exact⟨J,v,fin hv,hrel⟩
    .cases hc
   .cases hc
  .cases hc
 case index t x i=>
  simp only[Ad] at hc
  split at hc
  .rename_i y j h1 h2 h3
   cases hc;simp only[St.pure,I,zB] at hp
   obtain⟨r,hr,rfl,rfl⟩:=hp;obtain⟨v,hv,hrel⟩:=we (P:=P) h1 (Ax R h2) (Ax R h3) hr;exact⟨J,v,fin hv,hrel⟩
  .rename_i len e y j h1 h2 h3
   split at hc
   .rename_i g m k n hg
    split at hc
    .rename_i hn
     cases hc;simp only[St.pure,I,zB] at hp
     obtain⟨r,hr,rfl,rfl⟩:=hp;obtain⟨v,hv,hrel⟩:=tP (P:=P) (k:=k) h1 hg hn.1 hn.2.1 (Ax R h2) hr;exact⟨J,v,fin hv,hrel⟩
    .cases hc
   .cases hc
  .cases hc
 case extract x i=>
  simp only[Ad,I] at hc
  obtain⟨y,hy,rfl⟩:=hc;simp only[St.pure,I,zB] at hp
  obtain⟨r,hr,rfl,rfl⟩:=hp;obtain⟨v,hv,hrel⟩:=tE (P:=P) (w:=w) (Ax R hy) hr;exact⟨J,v,fin hv,hrel⟩
 case makeInterface t x=>
  simp only[Ad] at hc
  split at hc
  .cases hc
  .rename_i u y hn hu hy
   cases hc;simp only[St.pure,I,zB] at hp
   obtain⟨r,hr,rfl,rfl⟩:=hp;obtain⟨v,hv,hrel⟩:=A1d (P:=P) (w:=w) hu (fun ms e=>hn ms e) (Ax R hy) hr;exact⟨J,v,fin hv,hrel⟩
  .cases hc
 case typeAssert x s t ok=>
  simp only[Ad] at hc
  split at hc
  .cases hc
  .rename_i u i z y hn hu hz hy
   split at hc
   .rename_i h1
    obtain⟨h1,rfl⟩:=h1;cases hc;simp only[St.pure,I,zB] at hp
    obtain⟨r,hr,rfl,rfl⟩:=hp;obtain⟨v,hv,hrel⟩:=A6b (P:=P) (w:=w) (s:=s) hu (fun ms e=>hn ms e) hz h1 (Ax R hy) hr;exact⟨J,v,fin hv,hrel⟩
   .cases hc
  .cases hc
 case makeFunc fn first caps=>
  cases fn with
  | func f=>
   simp only[Ad] at hc
   split at hc
   .rename_i hf
    simp only[I] at hc
    obtain⟨ys,hy,rfl⟩:=hc;simp only[St.pure,I,zB] at hp
    obtain⟨c,hr,rfl,rfl⟩:=hp;obtain⟨hl,H⟩:=SW R hy;have hc:=A05 (by simp[hl]) H hr;have hf0:first= #[]:=by simpa using hf
    subst hf0;refine⟨J,.func (.func f) #[] (caps.map a.eval),by simp[execOp,Instr.makeFunc],?_⟩;refine Bs ?_
    have e:caps.map a.eval=(yI a.eval caps.toList).toArray:=by
     apply Array.ext'
     rw[Array.toList_map]
    rw[e];exact hc
   .cases hc
  | _=>simp[Ad] at hc
 case call c=>
  obtain⟨callee,args,argTypes⟩:=c;cases callee with
  | value f=>
   exfalso
   cases f with
   | func f=>
    simp only[Ad] at hc
    split at hc
    .split at hc
     .simp only[I] at hc
      obtain⟨ys,_,rfl⟩:=hc;simp[St.pure] at hp
     .cases hc
    .cases hc
   | tmp t=>
    simp only[Ad,I] at hc
    obtain⟨ys,_,rfl⟩:=hc;simp[St.pure] at hp
   | _=>simp[Ad] at hc
  | invoke r m=>simp[Ad] at hc
  | builtin bi=>
   have fin2:∀{s:Sem Value} {v:Value},s.run P w= .ok v w->(do pure (Next.value (<- s)):Sem Next).run P w= .ok (.value v) w:=fin;cases bi<;>try (simp[Ad] at hc; done)
   case append=>
    exfalso
    simp only[Ad] at hc
    split at hc
    .split at hc
     .split at hc
      .cases hc; simp[St.pure] at hp
      .cases hc
     .cases hc
    .cases hc
   case len=>
    simp only[Ad] at hc
    split at hc
    .rename_i x t hargs htys
     have e1:args= #[x]:=by apply Array.ext'; simpa using hargs
     have e2:argTypes= #[t]:=by apply Array.ext'; simpa using htys
     subst e1 e2;split at hc
     .rename_i y hu hy
      cases hc;simp only[St.pure,I,zB] at hp
      obtain⟨r,hr,rfl,rfl⟩:=hp;obtain⟨v,hv,hrel⟩:=A4h (P:=P) (ty:=ty) hu (Ax R hy) hr;refine⟨J,v,?_,hrel⟩;simp[execOp,resolve,invoke,builtin,hv]
     .rename_i e y hu hy
      cases hc;simp only[St.pure,I,zB] at hp
      obtain⟨r,hr,rfl,rfl⟩:=hp;obtain⟨v,hv,hrel⟩:=A0a (P:=P) (ty:=ty) hu (Ax R hy) hr;refine⟨J,v,?_,hrel⟩;simp[execOp,resolve,invoke,builtin,hv]
     .cases hc
    .cases hc
   case max=>
    simp only[Ad] at hc
    split at hc
    .rename_i x y hargs
     have e1:args= #[x,y]:=by apply Array.ext'; simpa using hargs
     subst e1;split at hc
     .rename_i x' y' hx hy
      cases hc;simp only[St.pure,I,zB] at hp
      obtain⟨r,hr,rfl,rfl⟩:=hp;obtain⟨v,hv,hrel⟩:=cT (P:=P) (Ax R hx) (Ax R hy) hr;simp only[if_true] at hv
      refine⟨J,v,?_,hrel⟩;simp[execOp,resolve,invoke,builtin,Builtin.max_,hv]
     .cases hc
    .cases hc
   case min=>
    simp only[Ad] at hc
    split at hc
    .rename_i x y hargs
     have e1:args= #[x,y]:=by apply Array.ext'; simpa using hargs
     subst e1;split at hc
     .rename_i x' y' hx hy
      cases hc;simp only[St.pure,I,zB] at hp
      obtain⟨r,hr,rfl,rfl⟩:=hp;obtain⟨v,hv,hrel⟩:=cT (P:=P) (Ax R hx) (Ax R hy) hr;simp only[Bool.false_eq_true,if_false] at hv
      refine⟨J,v,?_,hrel⟩;simp[execOp,resolve,invoke,builtin,Builtin.min_,hv]
     .cases hc
    .cases hc
 case alloc e=>
  exfalso
  simp only[Ad] at hc
  split at hc
  .simp only[I] at hc
   obtain⟨_,_,rfl⟩:=hc;simp[St.pure] at hp
  .cases hc
 case box e x=>
  exfalso
  simp only[Ad,I] at hc
  obtain⟨_,_,rfl⟩:=hc;simp[St.pure] at hp
 case buildSlice t l ps=>
  exfalso
  simp only[Ad] at hc
  split at hc
  .split at hc
   .split at hc
    .cases hc; simp[St.pure] at hp
    .cases hc
   .cases hc
  .cases hc
 case makeSlice t l c=>
  exfalso
  simp only[Ad] at hc
  split at hc
  .split at hc
   .split at hc
    .cases hc; simp[St.pure] at hp
    .cases hc
   .cases hc
  .cases hc
 all_goals (simp[Ad] at hc)
end
end
section
def AC.hasB(id:W):AC->V
 | .pb i _=>i==id
 | .ipb _ i=>i==id
 | .clo _ ids=>ids.any (· == id)
 | _=>E
def OwnB.move{h h':A6}{w w':World}{b sz cap:W}{es:N (N D)}(H:OwnB h w b sz cap es)(hh:∀b C,h b C->h' b C)(hw:w'.heap[b]?=w.heap[b]?):OwnB h' w' b sz cap es:=by
 obtain⟨h1,h2,h3,C,t,h4,h5,h6⟩:=H;exact⟨h1,h2,h3,C,t,hw.trans h4,h5,h6.mono hh⟩
def A0t{ids:N W}{f g:W->O W}:∀{bs:N W},ids.mapM f=G bs->(∀i∈ids,∀b,f i=G b->g i=G b)->ids.mapM g=G bs:=by
 induction ids with
 | nil=>intro bs h _; simpa using h
 | cons i ids ih=>
  intro bs h H;simp only[yH,Option.bind_eq_bind,Option.pure_def] at h ⊢
  cases hf:f i with
  | none=>simp[hf] at h
  | some b=>
   cases hr:ids.mapM f with
   | none=>simp[hf,hr] at h
   | some r=>
    simp[hf,hr] at h;subst h;rw[H i d0 b hf,ih hr (fun j hj=>H j (by simp[hj]))];rfl
def CRel.move{X Y:Cx}{c:AC}{v:Value}(H:CRel X c v)(hh:∀b C,X.h b C->Y.h b C)
  (hrow:∀id,c.has id=T->A1 Y.rs id=L\/(A1 Y.rs id=A1 X.rs id/\Y.nm (2*id+1)=X.nm (2*id+1)/\∀b,X.nm (2*id+1)=G b->Y.w.heap[b]?=X.w.heap[b]?))
  (hbox:∀id,c.hasB id=T->∀b,X.nm (2*id)=G b->Y.nm (2*id)=G b) (hz:Y.o=X.o/\Y.v=X.v/\Y.new=X.new:=by exact⟨rfl,rfl,rfl⟩):CRel Y c v:=by
 have h1:=H.one;cases H with
 | undef h=>exact .undef h
 | dat hd=>exact .dat (hd.mono hh)
 | @ownNil id sz a0 hf hn=>
  rcases hrow id (by simp[AC.has]) with hd|⟨e1,e2,e3⟩
  .exact .ownDead hd h1
  .exact .ownNil (e1.trans hf) (e2.trans hn)
 | @own id sz es b cap len hf hn hown hl=>
  rcases hrow id (by simp[AC.has]) with hd|⟨e1,e2,e3⟩
  .exact .ownDead hd h1
  .exact .own (e1.trans hf) (e2.trans hn) (hown.move hh (e3 b hn)) hl
 | @ownDead id v hf _=>
  rcases hrow id (by simp[AC.has]) with hd|⟨e1,e2,e3⟩
  .exact .ownDead hd h1
  .exact .ownDead (e1.trans hf) h1
 | @osubNil id sz a0 hf hn=>
  rcases hrow id (by simp[AC.has]) with hd|⟨e1,e2,e3⟩
  .exact .osubDead hd h1
  .exact .osubNil (e1.trans hf) (e2.trans hn)
 | @osub id sz es lo hi b cap cap' len off hf hn hown a1 a2 a3 a4 a5 a6=>
  rcases hrow id (by simp[AC.has]) with hd|⟨e1,e2,e3⟩
  .exact .osubDead hd h1
  .exact .osub (e1.trans hf) (e2.trans hn) (hown.move hh (e3 b hn)) a1 a2 a3 a4 a5 a6
 | @osubDead id lo hi v hf _=>
  rcases hrow id (by simp[AC.has]) with hd|⟨e1,e2,e3⟩
  .exact .osubDead hd h1
  .exact .osubDead (e1.trans hf) h1
 | nil=>exact .nil
 | z=>exact .z
 | old hn hd=>exact .old (hz.2.2.trans hn) (hz.1▸hd)
 | nw hn hd=>exact .nw (hz.2.2.trans hn) hd
 | mix hd=>exact .mix (hd.mono fun b C h=>h.imp (fun h=>hz.1▸h) (hh b C))
 | vol hd hs=>exact .vol (hz.2.1▸hd) hs
 | @pb id off b hb=>exact .pb (hbox id (by simp[AC.hasB]) b hb)
 | @ipb t id b hb=>exact .ipb (hbox id (by simp[AC.hasB]) b hb)
 | @pe id sz es idx off b cap o hf hn hown a1 a2=>
  rcases hrow id (by simp[AC.has]) with hd|⟨e1,e2,e3⟩
  .exact .peDead hd h1
  .exact .pe (e1.trans hf) (e2.trans hn) (hown.move hh (e3 b hn)) a1 a2
 | @peDead id idx off v hf _=>
  rcases hrow id (by simp[AC.has]) with hd|⟨e1,e2,e3⟩
  .exact .peDead hd h1
  .exact .peDead (e1.trans hf) h1
 | @clo f ids bs hb=>exact .clo (A0t hb fun i hi b hi2=>hbox i (by simp[AC.hasB]; exact hi) b hi2)
section
variable {X Y : Cx}
def CRels.map{f:AC->AC}:∀{cs vs},CRels X cs vs->(∀c v,c∈cs->CRel X c v->CRel Y (f c) v)->CRels Y (cs.map f) vs
 | _,_,.nil,_=> .nil
 | _,_,.cons a b,H=> .cons (H _ _ d0 a) (b.map fun c v hc=>H c v (by simp[hc]))
def V1Rel.map{f:AC->AC}{x:V1}{v:Value}(h:V1Rel X x v)(H:∀c v,c∈x.cells->CRel X c v->CRel Y (f c) v):V1Rel Y (x.map f) v:=by
 cases h with
 | sc h=>exact .sc (H _ _ (by simp[V1.cells]) h)
 | ag h=>exact .ag (h.map H)
def V1Rels.map{f:AC->AC}:∀{l vs},V1Rels X l vs->(∀c v,c∈l.flatMap V1.cells->CRel X c v->CRel Y (f c) v)->V1Rels Y (l.map (V1.map f)) vs
 | _,_,.nil,_=> .nil
 | _,_,.cons a b,H=> .cons (a.map fun c v hc=>H c v (by simp[hc])) (b.map fun c v hc=>H c v (by simp only[zV,yF]; exact .inr hc))
def VRel.map{f:AC->AC}{x:AV}{v:Value}(h:VRel X x v)(H:∀c v,c∈x.cells->CRel X c v->CRel Y (f c) v):VRel Y (x.map f) v:=by
 cases h with
 | undef=>exact .undef
 | no=>exact .no
 | v h=>exact .v (h.map H)
 | tup h=>exact .tup (h.map H)
 | ev h=>exact .ev (H _ _ (by simp[AV.cells]) h)
def V1.map_id(x:V1):x.map id=x:=by cases x<;>simp[V1.map]
def AV.map_id(x:AV):x.map id=x:=by
 cases x with
 | undef=>rfl
 | no=>rfl
 | v x=>simp[AV.map,V1.map_id]
 | tup l=>simp[AV.map,show V1.map id=id from funext V1.map_id]
 | ev c=>rfl
def VRel.to{x:AV}{v:Value}(h:VRel X x v)(H:∀c v,c∈x.cells->CRel X c v->CRel Y c v):VRel Y x v:=by
 have:=h.map (f:=id) H;rwa [AV.map_id] at this
def CRels.to{cs vs}(h:CRels X cs vs)(H:∀c v,c∈cs->CRel X c v->CRel Y c v):CRels Y cs vs:=by
 have:=h.map (f:=id) H;rwa [List.map_id] at this
end
def St.Uses(M:St)(c:AC):Prop:=(∃k,c∈(M.get k).cells)\/∃id cs,A1 M.bx id=G cs/\c∈cs
def M8{α:Type}:∀{l:N (W × α)} {n:W} {v:α},A1 l n=G v->(n,v)∈l
 | [],n,v,h=>by simp[A1] at h
 | (k,u)::r,n,v,h=>by
  by_cases hk:k=n
  .subst hk; simp[A1] at h; subst h; simp
  .have h':(k==n)=E:=by simpa using hk
   simp[A1,h'] at h;exact List.mem_cons_of_mem _ (M8 h)
def St.get_mem{M:St}{k:W}{c:AC}(h:c∈(M.get k).cells):∃p∈M.env,c∈p.2.cells:=by
 unfold St.get at h;cases hf:A1 M.env k with
 | none=>simp[hf,AV.cells] at h
 | some av=>simp[hf] at h; exact⟨_,M8 hf,h⟩
def Wo{c:AC}{id:W}(h:c.has id=T):c.uses (id / 64)=T:=by
 cases c<;>simp[AC.has] at h<;>simp[AC.uses,h]
def A65{c:AC}{id:W}(h:c.hasB id=T):c.uses id=T:=by
 cases c<;>simp[AC.hasB] at h<;>simp[AC.uses,h]
def St.fresh_uses{M:St}{g:W}(hf:M.fresh g=T){c:AC}(hc:M.Uses c):c.uses g=E:=by
 simp only[St.fresh,zI,zP] at hf
 rcases hc with ⟨k,hk⟩|⟨id,cs,hcs,hm⟩
 .obtain⟨p,hp,hcp⟩:=St.get_mem hk;have:=hf.2.1 p hp c hcp;simpa using this
 .have:=hf.2.2 _ (M8 hcs);have:=this.2 c hm;simpa using this
def St.fresh_bx{M:St}{g:W}(hf:M.fresh g=T){id:W}{cs:N AC}(hc:A1 M.bx id=G cs):id≠g:=by
 simp only[St.fresh,zI,zP] at hf
 have:=(hf.2.2 _ (M8 hc)).1;simpa using this
def St.fresh_few{M:St}{g:W}(hf:M.fresh g=T):g<1073741824:=by
 simp only[St.fresh,zI] at hf
 exact of_decide_eq_true hf.1
def St.has_uses{M:St}{id:W}(hf:M.has id=E){c:AC}(hc:M.Uses c):c.has id=E:=by
 simp only[St.has,Bool.or_eq_false_iff,List.any_eq_false] at hf
 rcases hc with ⟨k,hk⟩|⟨b,cs,hcs,hm⟩
 .obtain⟨p,hp,hcp⟩:=St.get_mem hk;have:=hf.1 p hp;simp only[yE,not_exists,not_and] at this
  simpa using this c hcp
 .have:=hf.2 _ (M8 hcs);simp only[yE,not_exists,not_and] at this
  simpa using this c hm
section
variable {A : Ar} {B : W} {w0 : Base} {w : World} {nm : Ac} {M : St} {tmps : Array Value}
def Rel.carry(R:Rel A B w0 nm M tmps w){nm':Ac}{M':St}{w':World}(f:AC->AC)
  (hbel:BelowX B w0 w') (hsz:B<=w'.heap.size) (hnames:∀i b,nm' i=G b->(B<=b\/w0.M b)/\b<w'.heap.size) (hinj:∀i j b,nm' i=G b->nm' j=G b->i=j) (hpin:∀i,AG<=i->nm' i=nm i)
  (henv:∀k,M'.get k=(M.get k).map f) (hbx:∀id,A1 M'.bx id=(A1 M.bx id).map (yI f))
  (hkeep:∀id cs,A1 M.bx id=G cs->∀b,nm (2*id)=G b->nm' (2*id)=G b/\w'.heap[b]?=w.heap[b]?)
  (H:∀c v,M.Uses c->CRel (cx A nm M w) c v->CRel (cx A nm' M' w') (f c) v):Rel A B w0 nm' M' tmps w':=by
 refine⟨hbel,hsz,R.all,R.good,hnames,hinj,fun i hi=>(hpin i hi).trans (R.pin i hi),fun k=> ?_,fun id cs hcs=> ?_⟩
 .rw[henv k];exact(R.env k).map fun c v hc hr=>H c v (.inl ⟨k,hc⟩) hr
 .rw[hbx id] at hcs
  simp only[I] at hcs
  obtain⟨cs0,h0,rfl⟩:=hcs;obtain⟨b,C,t,h1,h2,h3⟩:=R.bxs id cs0 h0;obtain⟨k1,k2⟩:=hkeep id cs0 h0 b h1;exact⟨b,C,t,k1,k2.trans h2,h3.map fun c v hc hr=>H c v (.inr ⟨id,cs0,h0,hc⟩) hr⟩
def AV.mapId:AV.map (fun c=>c)=fun v=>v:=by
 funext v
 exact AV.map_id v
def Rel.put(R:Rel A B w0 nm M tmps w){d:W}{av:AV}{v:Value}(hd:d<tmps.size)(h:VRel (cx A nm M w) av v):Rel A B w0 nm (M.set d av) (tmps.setIfInBounds d v) w:=by
 refine⟨R.below,R.size,R.all,R.good,R.names,R.inj,R.pin,fun k=> ?_,R.bxs⟩;by_cases hk:k=d
 .subst hk;rw[St.get_set_same];have:(tmps.setIfInBounds k v).getD k undef=v:=by simp[hd]
  rw[this];exact h
 .rw[St.get_set_ne _ _ hk]
  have:(tmps.setIfInBounds d v).getD k undef=tmps.getD k undef:=by
   simp[Array.getElem?_setIfInBounds_ne (Ne.symm hk)]
  rw[this];exact R.env k
def Rel.bput(R:Rel A B w0 nm M tmps w){id:W}{cs:N AC}(h:BoxRel (cx A nm M w) id cs):Rel A B w0 nm {M with bx:=Vi.put M.bx id cs} tmps w:=by
 refine⟨R.below,R.size,R.all,R.good,R.names,R.inj,R.pin,R.env,fun i c hc=> ?_⟩;by_cases hi:i=id
 .subst hi;rw[show A1 ({M with bx:=Vi.put M.bx i cs}:St).bx i=G cs from Bm _ _ _] at hc
  cases hc;exact h
 .rw[show A1 ({M with bx:=Vi.put M.bx id cs}:St).bx i=A1 M.bx i from Bn _ _ hi] at hc
  exact R.bxs i c hc
def C6(g n:W):Prop:=n=2*g\/(n % 2=1/\n / 2 / 64=g)
instance (g n:W):Decidable (C6 g n):=by unfold C6; infer_instance
def AN(g:W)(inst nm:Ac):Ac:=fun n=>if C6 g n then inst n else nm n
def CW{nm nm':Ac}{w w':World}(hh:∀b,b<w.heap.size->(∀i,nm i≠G b)->(∀i,nm' i≠G b)/\w'.heap[b]?=w.heap[b]?):∀b C,A9 A nm w b C->A9 A nm' w' b C:=by
 rintro b C ⟨h1,c,t,fr,hA,h2,h3⟩
 have hb:b<w.heap.size:=(Array.getElem?_eq_some_iff.1 h2).1;obtain⟨k1,k2⟩:=hh b hb h1;exact⟨k1,c,t,fr,hA,k2.trans h2,h3⟩
def Rel.growCell(R:Rel A B w0 nm M tmps w){g:W}{w':World}(hb:RowKit.Below w.heap.size w w')(inst:Ac)(rows':Rows)
  (hi:∀n b,C6 g n->inst n=G b->w.heap.size<=b/\b<w'.heap.size)
  (hr:∀id,id / 64≠g->A1 rows' id=A1 M.rows id) {c:AC} {v:Value} (hu:c.uses g=E) (hrel:CRel (cx A nm M w) c v) {M':St} (hs:M'.rows=rows'):CRel (cx A (AN g inst nm) M' w') c v:=by
 refine hrel.move (CW fun b hb2 hn=>⟨fun i=> ?_,hb.block b hb2⟩) (fun id hid=> .inr ?_) (fun id hid b hnb=> ?_)
 .unfold AN;split
  .rename_i hg; intro e; have:=hi i b hg e; omega
  .exact hn i
 .have hg:id / 64≠g:=fun e=>by have:=Wo hid; rw[e,hu] at this; cases this
  refine⟨by rw[show(cx A (AN g inst nm) M' w').rs=rows' from hs]; exact hr id hg,?_,fun b hb2=>hb.block b (R.names _ b hb2).2⟩;show AN g inst nm (2*id+1)=nm (2*id+1)
  unfold AN;rw[if_neg (by unfold C6; omega)]
 .have hg:id≠g:=fun e=>by have:=A65 hid; rw[e,hu] at this; cases this
  show AN g inst nm (2*id)=G b
  unfold AN;rw[if_neg (by unfold C6; omega)];exact hnb
def Rel.grow(R:Rel A B w0 nm M tmps w){g:W}(hf:M.fresh g=T){w':World}(hb:RowKit.Below w.heap.size w w')(inst:Ac)(rows':Rows)
  (hi:∀n b,C6 g n->inst n=G b->w.heap.size<=b/\b<w'.heap.size) (hinj:∀n m b,C6 g n->C6 g m->inst n=G b->inst m=G b->n=m)
  (hr:∀id,id / 64≠g->A1 rows' id=A1 M.rows id):Rel A B w0 (AN g inst nm) {M with rows:=rows'} tmps w':=by
 have hbl:BelowX B w0 w':=R.below.trans R.there hb R.size;have hsz:=hb.size;have hfew:=St.fresh_few hf;refine R.carry (f:=fun c=>c) hbl (zY R.size hsz) (fun i b hib=> ?_) (fun i j b hib hjb=> ?_) (fun i hpi=> ?_) (fun k=>by rw[AV.mapId]; rfl) (fun id=>by simp) (fun id cs hcs b hnb=> ?_) (fun c v hc hrel=> ?_)
 .unfold AN at hib
  split at hib
  .rename_i hg; have:=hi i b hg hib; have:=R.size; exact⟨.inl a9,a9⟩
  .obtain⟨h1,h2⟩:=R.names i b hib; exact⟨h1,a9⟩
 .unfold AN at hib hjb
  split at hib<;>split at hjb
  .rename_i h1 h2; exact hinj i j b h1 h2 hib hjb
  .rename_i h1 h2; have:=hi i b h1 hib; have:=R.names j b hjb; omega
  .rename_i h1 h2; have:=hi j b h2 hjb; have:=R.names i b hib; omega
  .exact R.inj i j b hib hjb
 .unfold AN;rw[if_neg];unfold C6;unfold AG at hpi
  omega
 .have hne:=St.fresh_bx hf hcs;refine⟨?_,hb.block b (R.names _ b hnb).2⟩;unfold AN;rw[if_neg (by unfold C6; omega)];exact hnb
 .exact R.growCell hb inst rows' hi hr (St.fresh_uses hf hc) hrel J
end
end
section
section
variable {P : Program} {A : Ar} {B : W} {w0 : Base} {w : World} {nm : Ac} {M : St} {a : Act}
def Wv(w:World)(o:Obj):RowKit.Below w.heap.size w (w.alloc o):=(RowKit.Below.refl _ _).alloc (zM _) o
def Rel.newBox(R:Rel A B w0 nm M a.tmps w){d:W}{cs:N AC}{C:Array Value}{t:TypeId}(hd:d<a.tmps.size)(hf:M.fresh d=T)(hC:CRels (cx A nm M w) cs C.toList)(hu:∀c∈cs,c.uses d=E) :
  ∃nm',Rel A B w0 nm' {(M.set d (.v (.sc (.pb d 0)))) with bx:=Vi.put M.bx d cs} (a.put (G d) (.pointer (G ⟨w.heap.size,0,L⟩))).tmps (w.alloc (.cells C t)):=by
 let inst:Ac:=fun n=>if n=2*d then G w.heap.size else L
 have hi:∀n b,C6 d n->inst n=G b->w.heap.size<=b/\b<(w.alloc (.cells C t)).heap.size:=by
  intro n b _ hb;simp only[inst] at hb
  split at hb
  .cases hb; exact⟨zM _,d0⟩
  .cases hb
 have hinj:∀n m b,C6 d n->C6 d m->inst n=G b->inst m=G b->n=m:=by
  intro n m b _ _ h1 h2;simp only[inst] at h1 h2
  split at h1<;>split at h2<;>simp_all
 have R1:=R.grow hf (Wv w _) inst M.rows hi hinj (fun _ _=>rfl)
 have hnm:AN d inst nm (2*d)=G w.heap.size:=by
  unfold AN;rw[if_pos (.inl rfl)];simp[inst]
 have hbox:BoxRel (cx A (AN d inst nm) {M with rows:=M.rows} (w.alloc (.cells C t))) d cs:=by
  refine⟨w.heap.size,C,t,hnm,heap_alloc_new _ _,?_⟩;exact hC.to fun c v hc hr=>R.growCell (Wv w _) inst M.rows hi (fun _ _=>rfl) (hu c hc) hr J
 have R2:=R1.bput hbox;have R3:=R2.put (d:=d) (av:= .v (.sc (.pb d 0))) (v:= .pointer (G ⟨w.heap.size,0,L⟩)) hd (Bs (.pb hnm));exact⟨_,R3⟩
def tW{rows:Rows}{g:W}{x:W × N (N D)}(id:W)(h:id / 64≠g):A1 (Vi.put rows (g*64) x) id=A1 rows id:=
 Bn _ _ a9
def Rel.newRow(R:Rel A B w0 nm M a.tmps w){d sz len cap:W}{es:N (N D)}{C:Array Value}{t:TypeId}(hd:d<a.tmps.size)(hf:M.fresh d=T)(hpos:0<sz)(hC:C.size=cap*sz)(hcap:cap<=maxLen)
  (hlen:len=es.length) (hle:es.length<=cap) (hrows:RepRows (A9 A nm w) sz es C.toList) :
  ∃nm',Rel A B w0 nm' {(M.set d (.v (.sc (.own (d*64))))) with rows:=Vi.put M.rows (d*64) (sz,es)} (a.put (G d) (.slice (G ⟨w.heap.size,0,L⟩) len cap)).tmps (w.alloc (.cells C t)):=by
 let inst:Ac:=fun n=>if n=2*(d*64)+1 then G w.heap.size else L
 have hi:∀n b,C6 d n->inst n=G b->w.heap.size<=b/\b<(w.alloc (.cells C t)).heap.size:=by
  intro n b _ hb;simp only[inst] at hb
  split at hb
  .cases hb; exact⟨zM _,d0⟩
  .cases hb
 have hinj:∀n m b,C6 d n->C6 d m->inst n=G b->inst m=G b->n=m:=by
  intro n m b _ _ h1 h2;simp only[inst] at h1 h2
  split at h1<;>split at h2<;>simp_all
 have R1:=R.grow hf (Wv w _) inst (Vi.put M.rows (d*64) (sz,es)) hi hinj (fun id h=>tW id h)
 have hnm:AN d inst nm (2*(d*64)+1)=G w.heap.size:=by
  unfold AN;rw[if_pos (.inr a9)];simp[inst]
 have hmono:∀b C',A9 A nm w b C'->A9 A (AN d inst nm) (w.alloc (.cells C t)) b C':=CW fun b hb2 hn=>⟨fun i=>by
  unfold AN;split
  .rename_i hg; intro e; have:=hi i b hg e; omega
  .exact hn i,heap_alloc_old _ _ _ hb2⟩
 have hv:VRel (cx A (AN d inst nm) {M with rows:=Vi.put M.rows (d*64) (sz,es)} (w.alloc (.cells C t))) (.v (.sc (.own (d*64)))) (.slice (G ⟨w.heap.size,0,L⟩) len cap):=
  Bs (.own (Bm _ _ _) hnm ⟨hpos,hle,hcap,C,t,heap_alloc_new _ _,hC,hrows.mono hmono⟩ hlen)
 exact⟨_,R1.put hd hv⟩
def A7a{A:B9}{nm:Ac}{w:World}{b:W}{C:N Value}(h:A9 A nm w b C):B7 w b C:=by
 obtain⟨_,c,t,fr,_,h1,h2⟩:=h;exact⟨c,t,fr,h1,h2⟩
def Vv{X:Cx}{b sz cap:W}{es:N (N D)}(hh:∀b C,X.h b C->B7 X.w b C)(H:OwnB X.h X.w b sz cap es) :
  ∃C:N Value,B7 X.w b C/\RepRows (B7 X.w) sz es C:=by
 obtain⟨_,_,_,C,t,h4,_,h6⟩:=H;exact⟨C.toList,⟨C,t,_,h4,J⟩,h6.mono hh⟩
def A6g{X:Cx}(hh:∀b C,X.h b C->B7 X.w b C){c:AC}{v:Value}{d:D}(H:CRel X c v)(hd:toD0 X.rs c=G d):Rep (B7 X.w) d v:=by
 cases c with
 | dat d'=>
  simp only[toD0,zA] at hd
  subst hd;exact H.inv_dat.mono hh
 | own id=>
  simp only[toD0] at hd
  split at hd
  .rename_i sz es hf
   cases hd;rcases H.inv_own hf with ⟨rfl,_,a0,rfl⟩|⟨b,cap,_,own,rfl⟩
   .exact .nil
   .obtain⟨C,hC,hr⟩:=Vv hh own;exact .sl hC own.pos (by simpa using hr) J own.room own.small
  .cases hd
 | osub id lo hi=>
  simp only[toD0] at hd
  split at hd
  .rename_i sz es hf
   cases hd;rcases H.inv_osub hf with ⟨rfl,rfl,rfl,_,a0,rfl⟩|⟨b,cap,cap',off,_,own,h1,h2,⟨h3,_⟩,h4,h5,rfl⟩
   .simpa using .nil
   .obtain⟨C,hC,hr⟩:=Vv hh own;by_cases hlt:lo<hi
    .rw[h3 hlt];have hr2:=(hr.dropRows lo).takeRows (hi - lo);exact .sl hC own.pos hr2 d3 h4 h5
    .rw[show hi - lo=0 by omega];simpa using .nil
  .cases hd
 | nil=>
  simp only[toD0,zA] at hd
  subst hd;cases H;exact .nil
 | _=>simp[toD0] at hd
def Kz{X:Cx}(hh:∀b C,X.h b C->B7 X.w b C)(ho:∀b C,X.o b C->B7 X.w b C){c:AC}{v:Value}{d:D}(H:CRel X c v)(hd:toD1 X.rs c=G d):Rep (B7 X.w) d v:=by
 unfold toD1 at hd
 split at hd
 .cases hd;cases H with | old _ H=>exact H.mono ho
 .cases hd;cases H with | mix H=>exact H.mono fun b C h=>h.elim (ho b C) (hh b C)
 .exact A6g hh H hd
def VW{X:Cx}(hh:∀b C,X.h b C->B7 X.w b C)(ho:∀b C,X.o b C->B7 X.w b C):∀{cs:N AC} {vs:N Value} {ds:N D},CPre X cs vs->toD0s X.rs cs=G ds->Reps (B7 X.w) ds vs/\ds.length=cs.length
 | [],vs,ds,_,hd=>by simp[toD0s] at hd; subst hd; exact⟨.nil,rfl⟩
 | c::cs,_,ds,.cons a b,hd=>by
  simp only[toD0s] at hd
  split at hd
  .rename_i d ds' h1 h2
   cases hd;obtain⟨h3,h4⟩:=VW hh ho b h2;exact⟨.cons (Kz hh ho a h1) h3,by simp[h4]⟩
  .cases hd
def fC{X:Cx}{c:AC}{v:Value}{d:D}(H:CRel X c v)(hd:Fo c=G d):Rep X.h d v:=by
 cases c with
 | dat d'=>
  simp only[Fo,zA] at hd
  subst hd;exact H.inv_dat
 | nil=>
  simp only[Fo,zA] at hd
  subst hd;cases H;exact .nil
 | _=>simp[Fo] at hd
def ML{X:Cx}:∀{cs:N AC} {vs:N Value} {ds:N D},CRels X cs vs->D7 cs=G ds->Reps X.h ds vs/\ds.length=cs.length
 | [],vs,ds,_,hd=>by simp[D7] at hd; subst hd; exact⟨.nil,rfl⟩
 | c::cs,_,ds,.cons a b,hd=>by
  simp only[D7] at hd
  split at hd
  .rename_i d ds' h1 h2
   cases hd;obtain⟨h3,h4⟩:=ML b h2;exact⟨.cons (fC a h1) h3,by simp[h4]⟩
  .cases hd
def Reps.append{h:A6}:∀{ds vs ds' vs'},Reps h ds vs->ds.length=vs.length->Reps h ds' vs'->Reps h (ds++ds') (vs++vs')
 | [],vs,_,_,_,hl,H=>by
  obtain rfl:vs= []:=zG.1 (by simpa using hl.symm);simpa using H
 | _,_,_,_,.cons a b,hl,H=>by simp at hl; exact .cons a (b.append hl H)
def Reps.take{h:A6}:∀(n:W) {ds vs},Reps h ds vs->Reps h (ds.take n) (vs.take n)
 | 0,_,_,_=>by simpa using .nil
 | n+1,_,_,.nil=>by simpa using .nil
 | n+1,_,_,.cons a b=>by simpa using .cons a (b.take n)
def Reps.cut{h:A6}:∀{ds vs n},Reps h ds vs->ds.length<=n->Reps h ds (vs.take n)
 | _,_,_,.nil,_=> .nil
 | _,_,0,.cons _ _,hn=>by simp at hn
 | _,_,n+1,.cons a b,hn=>by simp at hn; simpa using .cons a (b.cut hn)
def Reps.more{h:A6}:∀{ds vs} (us:N Value),Reps h ds vs->Reps h ds (vs++us)
 | _,_,_,.nil=> .nil
 | _,_,us,.cons a b=> .cons a (b.more us)
def RepRows.len{h:A6}{sz:W}:∀{es:N (N D)} {vs:N Value},RepRows h sz es vs->es.length*sz<=vs.length
 | _,_,.nil=>by simp
 | _,_,.cons a b c=>by
  have h1:=c.len;have h2:=b.le;simp only[zW,zX,zH,yC] at h1 ⊢
  omega
def RepRows.set{h:A6}{sz:W}:∀{es:N (N D)} {vs:N Value} {i:W} {d:N D} {us:N Value},RepRows h sz es vs->i<es.length->d.length=sz->us.length=sz->Reps h d us->
  RepRows h sz (es.set i d) (vs.take (i*sz)++us++vs.drop (i*sz+sz))
 | _,_,_,_,_,.nil,hi,_,_,_=>by simp at hi
 | _,vs,0,d,us,.cons a b c,_,hd,hu,hr=>by
  simp only[Nat.zero_mul,List.take_zero,yG,List.set_cons_zero,Nat.zero_add];refine .cons hd (hr.more _) ?_;rw[<- hu,List.drop_left,hu];exact c
 | _,vs,i+1,d,us,.cons a b c,hi,hd,hu,hr=>by
  have h2:=c.len;have h3:=b.le;simp only[List.set_cons_succ];have ih:=c.set (i:=i) (by simpa using hi) hd hu hr;have hsz:sz<=vs.length:=by omega
  have e:vs.take ((i+1)*sz)=vs.take sz++(vs.drop sz).take (i*sz):=by
   rw[show(i+1)*sz=sz+i*sz by rw[zH]; omega,List.take_add]
  refine .cons a ?_ ?_
  .rw[e,zE,zE];exact(b.cut a9).more _
  .rw[e,zE,zE];have hl:(vs.take sz).length=sz:=by simp; omega
   rw[zO a9,List.drop_of_length_le a9,yG];rw[zD] at ih
   rw[show(i+1)*sz+sz=sz+(i*sz+sz) by rw[zH]; omega];simpa[zE] using ih
def RepRows.append{h:A6}{sz:W}:∀{es es':N (N D)} {vs us:N Value},RepRows h sz es vs->vs.length=es.length*sz->RepRows h sz es' us->RepRows h sz (es++es') (vs++us)
 | [],_,vs,_,_,hl,H=>by
  obtain rfl:vs= []:=zG.1 (by simpa using hl);simpa using H
 | d::es,es',vs,us,.cons a b c,hl,H=>by
  simp only[zX,zH,yC] at hl
  refine .cons a (b.more _) ?_;rw[zO a9];exact c.append d3 H
def RepRows.cut{h:A6}{sz:W}:∀{es:N (N D)} {vs:N Value} {n:W},RepRows h sz es vs->es.length*sz<=n->RepRows h sz es (vs.take n)
 | _,_,_,.nil,_=> .nil
 | _,_,n,.cons a b c,hn=>by
  simp only[zX,zH,yC] at hn
  refine .cons a (b.cut a9) ?_;rw[List.drop_take];exact c.cut a9
def RepRows.more{h:A6}{sz:W}:∀{es:N (N D)} {vs:N Value} (us:N Value),RepRows h sz es vs->RepRows h sz es (vs++us)
 | _,_,_,.nil=> .nil
 | _,vs,us,.cons a b c=>by
  have h1:=b.le;refine .cons a (b.more _) ?_;rw[zO a9];exact c.more us
def RepRows.replicate{h:A6}{sz:W}{d:N D}{us:N Value}(hd:d.length=sz)(hu:us.length=sz)(hr:Reps h d us):∀n:W,RepRows h sz (zC n d) (zC n us).flatten
 | 0=> .nil
 | n+1=>by
  simp only[List.replicate_succ,List.flatten_cons];refine .cons hd (hr.more _) ?_;rw[<- hu,List.drop_left,hu];exact RepRows.replicate hd hu hr n
end
end
section
def RepRows.splice{h:A6}{sz:W}{es:N (N D)}{vs us:N Value}{i:W}{d:N D}(H:RepRows h sz es vs)(hi:i<es.length)(hd:d.length=sz)(hu:us.length=sz)(hr:Reps h d us) :
  RepRows h sz (es.set i d) (vs.take (i*sz)++us++vs.drop (i*sz+us.length)):=by
 rw[hu];exact H.set hi hd hu hr
inductive PartsRow (X:Cx):N (W × AV)->N (W × Value)->Prop
 | nil:PartsRow X [] []
 | cons {i av v r s}:VRel X av v->PartsRow X r s->PartsRow X ((i,av)::r) ((i,v)::s)
def tS{X:Cx}{sz:W}:∀{aps:N (W × AV)} {ps:N (W × Value)} {es es':N (N D)} {cells:Array Value},
  PartsRow X aps ps->RepRows X.h sz es cells.toList->cells.size=es.length*sz->Gm sz es aps=G es'->
  ∃cells',Instr.fill (fun i=>G (i*sz,sz)) cells ps=G cells'/\RepRows X.h sz es' cells'.toList/\cells'.size=cells.size/\es'.length=es.length:=by
 intro aps
 induction aps with
 | nil=>
  intro ps es es' cells hp hc hs hr;cases hp;simp only[Gm,zA] at hr
  subst hr;exact⟨cells,J,hc,J,J⟩
 | cons p aps ih=>
  intro ps es es' cells hp hc hs hr;cases hp with
  | @cons i av v _ s hv hps=>
   cases av with
   | undef=>simp[Gm] at hr
   | no=>simp[Gm] at hr
   | tup l=>simp[Gm] at hr
   | ev c=>simp[Gm] at hr
   | v x=>
    simp only[Gm] at hr
    split at hr
    .rename_i ds hds
     split at hr
     .rename_i hcond
      have hvx:V1Rel X x v:=by cases hv with | v H=>exact H
      have hcx:=hvx.cells;obtain⟨h1,h2⟩:=ML hcx hds;have hvs:v.cells.size=sz:=by have:=hcx.length; simp at this; omega
      have hmul:(i+1)*sz<=es.length*sz:=zL _ a9;have hle:i*sz+v.cells.size<=cells.size:=by rw[hs,hvs]; rw[zH] at hmul; omega
      have hsp:=Zb (i*sz) v.cells.toList cells (by simpa using hle)
      obtain⟨cells',k1,k2,k3,k4⟩:=ih (cells:=((v.cells.toList.zipIdx 0).foldl (fun cs (x:Value × W)=>cs.setIfInBounds (i*sz+x.2) x.1) cells)) (es:=es.set i ds) hps (by
       rw[hsp];exact hc.splice hcond.2 hcond.1 (by simpa using hvs) h1) (by
       rw[(Great.foldl_set (i*sz) v.cells.toList 0 cells).1];simpa using hs) hr
      refine⟨cells',?_,k2,by rw[k3,(Great.foldl_set (i*sz) v.cells.toList 0 cells).1],by rw[k4]; simp⟩;simp only[Instr.fill];rw[if_neg (by simp[hvs]; omega)];rw[<- k1];congr 1
      rw[<- Array.foldl_toList];simp[Array.toList_zipIdx]
     .cases hr
    .cases hr
def Vg(z:Array Value)(n sz:W)(hz:z.size=sz)(hp:0<sz):((Array.range (n*sz)).map (z[· % z.size]!)).toList=(zC n z.toList).flatten:=by
 subst hz;apply List.ext_getElem?
 intro k;rw[Array.getElem?_toList];by_cases hk:k<n*z.size
 .have h1:k / z.size<n:=(Nat.div_lt_iff_lt_mul hp).2 hk;have hm:k % z.size<z.size:=Nat.mod_lt _ hp
  have e:(zC n z.toList).flatten[k]?=z.toList[k % z.size]?:=by
   clear hk
   induction n generalizing k with
   | zero=>simp at h1
   | succ n ih=>
    simp only[List.replicate_succ,List.flatten_cons];by_cases hlt:k<z.size
    .rw[zK (by simpa using hlt),Nat.mod_eq_of_lt hlt]
    .rw[zJ d3];have e1:k - z.toList.length=k - z.size:=by simp
     have h3:(k - z.size) / z.size<n:=by
      have:k / z.size=(k - z.size) / z.size+1:=by rw[Nat.div_eq k z.size,if_pos ⟨hp,a9⟩]
      omega
     rw[e1,ih _ h3 (Nat.mod_lt _ hp)];rw[Nat.mod_eq_sub_mod (show k>=z.size by omega)]
  rw[e];simp[hk,hm]
 .have e:(zC n z.toList).flatten.length=n*z.size:=by simp
  rw[List.getElem?_eq_none a9];simp; omega
section
variable {P : Program} {A : Ar} {B : W} {w0 : Base} {w : World} {nm : Ac} {M : St} {a : Act}
def dA(R:Rel A B w0 nm M a.tmps w):∀{ps:N (W × Operand)} {qs:N (W × Opd)},MF ps=G qs->
  PartsRow (cx A nm M w) (qs.map fun p=>(p.1,M.val p.2)) (ps.map fun p=>(p.1,a.eval p.2))
 | [],qs,hq=>by simp[MF] at hq; subst hq; exact .nil
 | (i,x)::r,qs,hq=>by
  simp only[MF] at hq
  split at hq
  .rename_i y ys h1 h2
   cases hq;exact .cons (Ax R h1) (dA R h2)
  .cases hq
def WK{X:Cx}{z:Value}{zs:N D}{sz:W}(hz:(EI z.cells.toList).bind D7=G zs)(hsz:z.cells.size=sz):zs.length=sz/\Reps X.h zs z.cells.toList:=by
 simp only[Option.bind_eq_some_iff] at hz
 obtain⟨cs,h1,h2⟩:=hz;have h3:=N6 (X:=X) h1;obtain⟨h4,h5⟩:=ML h3 h2;exact⟨by have:=h3.length; simp at this; omega,h4⟩
def A0s(R:Rel A B w0 nm M a.tmps w){d:W}{o:Oper}{ao:AOp}{m:Mk}{M':St}(hd:d<a.tmps.size)(hod:o.dst=G d)(hc:Ad P d o=G ao)(hm:M.made ao=G m)(hs:M.make m=G M') :
  ∃v w' nm',(execOp a.eval o).run P w= .ok (.value v) w'/\Rel A B w0 nm' M' (a.put o.dst v).tmps w':=by
 obtain⟨dst,op,ty,pos,after,guard⟩:=o;simp only at hod
 subst hod
 have fin:∀{s:Sem Value} {v:Value} {w':World},s.run P w= .ok v w'->(do pure (Next.value (<- s)):Sem Next).run P w= .ok (.value v) w':=by
  intro s v w' hs;simp[hs]
 cases op
 case alloc e=>
  simp only[Ad] at hc
  split at hc
  .rename_i i z hz
   simp only[I] at hc
   obtain⟨cs,hcs,rfl⟩:=hc;simp only[St.made,zA] at hm
   subst hm;simp only[St.make] at hs
   split at hs
   .rename_i hf
    cases hs;simp only[zI,zP,Bool.not_eq_true'] at hf
    obtain⟨hi,hz2⟩:=QK hz;obtain⟨nm',R'⟩:=R.newBox (t:=e) (C:=z.cells) hd hf.1 (N6 hcs) hf.2;refine⟨_,_,nm',fin ?_,R'⟩;simp[Instr.alloc,zeroValue,typeInfo,hi,hz2,newVar,newRow]
   .cases hs
  .cases hc
 case box e x=>
  simp only[Ad,I] at hc
  obtain⟨y,hy,rfl⟩:=hc;simp only[St.made] at hm
  split at hm
  .rename_i y' hv
   simp only[zA] at hm
   subst hm;simp only[St.make] at hs
   split at hs
   .rename_i hf
    cases hs;simp only[zI,zP,Bool.not_eq_true'] at hf
    have hx:=Ax R hy;rw[hv] at hx
    have hvx:V1Rel (cx A nm M w) y' (a.eval x):=by cases hx with | v H=>exact H
    obtain⟨nm',R'⟩:=R.newBox (t:=e) (C:=(a.eval x).cells) hd hf.1 hvx.cells hf.2;refine⟨_,_,nm',fin ?_,R'⟩;simp[Instr.box,newVar,newRow]
   .cases hs
  .cases hm
 case buildSlice t len ps=>
  simp only[Ad] at hc
  split at hc
  .rename_i i z hz
   obtain⟨e,hu,hi,hz2⟩:=L3 hz;split at hc
   .rename_i hcond
    split at hc
    .rename_i zs qs hzs hqs
     cases hc;simp only[St.made] at hm
     split at hm
     .rename_i es hes
      split at hm
      .rename_i hzl
       simp only[zA] at hm
       subst hm;simp only[St.make] at hs
       split at hs
       .rename_i hf
        cases hs;obtain⟨z1,z2⟩:=WK (X:=cx A nm M w) hzs hcond.1
        have hbase:RepRows (A9 A nm w) i.size (zC len zs) ((Array.range (len*i.size)).map (z.cells[· % z.cells.size]!)).toList:=by
         rw[Vg z.cells len i.size hcond.1 hcond.2.1];exact .replicate z1 (by simpa using hcond.1) z2 len
        obtain⟨cells',k1,k2,k3,k4⟩:=tS (cells:=(Array.range (len*i.size)).map (z.cells[· % z.cells.size]!)) (dA R hqs) hbase d0 hes;have hlen:es.length=len:=by rw[k4]; simp
        have hsz:cells'.size=len*i.size:=by rw[k3]; simp
        have hmx:len<=maxLen:=by
         have h1:len*1<=len*i.size:=Nat.mul_le_mul_left _ hcond.2.1;have h2:=hcond.2.2;unfold maxLen;omega
        obtain⟨nm',R'⟩:=R.newRow (t:=e) (C:=cells') (cap:=len) (len:=len) hd hf hcond.2.1 hsz hmx hlen.symm a9 k2;refine⟨_,_,nm',fin ?_,R'⟩;by_cases h0:len*i.size=0
        .have hl0:len=0:=by
          rcases Nat.mul_eq_zero.1 h0 with h|h
          .exact h
          .have:=hcond.2.1; omega
         subst hl0;simp[Instr.buildSlice,run_underlying hu,sizeOf,typeInfo,hi,newRow];have k1':Instr.fill (fun i_1=>G (i_1*i.size,i.size)) #[] (yI (fun p=>(p.1,a.eval p.2)) ps.toList)=G cells':=by simpa[Array.range_zero'] using k1
         simp[Array.range_zero',k1']
        .exact run_buildSlice w t e len _ cells' i z hu hi hz2 (by have:=hcond.2.2; omega) h0 (by simpa using k1)
       .cases hs
      .cases hm
     .cases hm
    .cases hc
   .cases hc
  .cases hc
 case makeSlice t l c=>
  simp only[Ad] at hc
  split at hc
  .rename_i i z hz
   obtain⟨e,hu,hi,hz2⟩:=L3 hz;split at hc
   .rename_i hcond
    split at hc
    .rename_i zs l' c' hzs hl hcc
     cases hc;simp only[St.made] at hm
     split at hm
     .rename_i li ci hli hci
      split at hm
      .rename_i hb
       simp only[zA] at hm
       subst hm;simp only[St.make] at hs
       split at hs
       .rename_i hf
        cases hs;obtain⟨kl,el⟩:=KM (Ax R hl) hli;obtain⟨kc,ec⟩:=KM (Ax R hcc) hci;obtain⟨b1,b2,b3,b4,b5⟩:=hb;obtain⟨z1,z2⟩:=WK (X:=cx A nm M w) hzs hcond.1;have hflat:=Vg z.cells ci.toNat i.size hcond.1 hcond.2.1
        have hrows:RepRows (A9 A nm w) i.size (zC li.toNat zs) (madeCells z.cells (ci.toNat*i.size)).toList:=by
         unfold madeCells;rw[hflat]
         have h1:zC ci.toNat z.cells.toList=zC li.toNat z.cells.toList++zC (ci.toNat - li.toNat) z.cells.toList:=by
          rw[List.replicate_append_replicate];congr 1
          omega
         rw[h1,List.flatten_append];exact(RepRows.replicate z1 (by simpa using hcond.1) z2 li.toNat).more _
        obtain⟨nm',R'⟩:=R.newRow (t:=e) (C:=madeCells z.cells (ci.toNat*i.size)) (cap:=ci.toNat) (len:=li.toNat) (es:=zC li.toNat zs) hd hf hcond.2.1 (size_madeCells _ _) (by unfold maxLen; omega) d0 d3 hrows;refine⟨_,_,nm',fin ?_,R'⟩;rw[el,ec];exact run_make w t e i z hu hi hz2 kl kc li ci b1 b2 (by rw[Int.mul_comm]; omega) a9
       .cases hs
      .cases hm
     .cases hm
    .cases hc
   .cases hc
  .cases hc
 all_goals
  exfalso
  first
   | (simp[Ad] at hc; done)
   | (simp only[Ad,I] at hc; obtain⟨_,_,rfl⟩:=hc; simp[St.made] at hm; done)
   | skip
 case pick=>
  simp only[Ad] at hc
  split at hc
  .cases hc; simp[St.made] at hm
  .cases hc
 case build=>
  simp only[Ad] at hc
  split at hc
  .split at hc
   .split at hc
    .cases hc; simp[St.made] at hm
    .cases hc
   .cases hc
  .split at hc
   .split at hc
    .cases hc; simp[St.made] at hm
    .cases hc
   .cases hc
  .cases hc
 case load=>
  simp only[Ad] at hc
  split at hc
  .split at hc
   .cases hc; simp[St.made] at hm
   .cases hc
  .cases hc
 case binOp=>
  simp only[Ad] at hc
  split at hc
  .split at hc<;>first
    | (cases hc; simp[St.made] at hm; done)
    | (simp only[I] at hc; obtain⟨_,_,rfl⟩:=hc; simp[St.made] at hm)
  .cases hc
 case convert=>
  simp only[Ad] at hc
  split at hc
  .cases hc; simp[St.made] at hm
  .split at hc
   .cases hc; simp[St.made] at hm
   .cases hc
  .cases hc
 case slice=>
  simp only[Ad] at hc
  split at hc
  .split at hc
   .cases hc
   .split at hc
    .split at hc
     .cases hc; simp[St.made] at hm
     .cases hc
    .simp only[I] at hc
     obtain⟨_,_,rfl⟩:=hc;simp[St.made] at hm
    .cases hc
  .cases hc
 case makeInterface=>
  simp only[Ad] at hc
  split at hc
  .cases hc
  .cases hc; simp[St.made] at hm
  .cases hc
 case typeAssert=>
  simp only[Ad] at hc
  split at hc
  .cases hc
  .split at hc
   .cases hc; simp[St.made] at hm
   .cases hc
  .cases hc
 case fieldAddr=>
  simp only[Ad] at hc
  split at hc
  .split at hc
   .split at hc
    .split at hc
     .cases hc
     .cases hc; simp[St.made] at hm
    .cases hc
   .cases hc
  .cases hc
 case field=>
  simp only[Ad] at hc
  split at hc
  .split at hc
   .split at hc
    .split at hc
     .cases hc; simp[St.made] at hm
     .cases hc
    .cases hc
   .cases hc
  .cases hc
 case indexAddr=>
  simp only[Ad] at hc
  split at hc
  .cases hc; simp[St.made] at hm
  .split at hc
   .split at hc
    .split at hc
     .split at hc
      .cases hc; simp[St.made] at hm
      .cases hc
     .cases hc; simp[St.made] at hm
    .cases hc
   .cases hc
  .cases hc
 case index=>
  simp only[Ad] at hc
  split at hc
  .cases hc; simp[St.made] at hm
  .split at hc
   .split at hc
    .cases hc; simp[St.made] at hm
    .cases hc
   .cases hc
  .cases hc
 case makeFunc fn first caps=>
  cases fn with
  | func f=>
   simp only[Ad] at hc
   split at hc
   .simp only[I] at hc
    obtain⟨_,_,rfl⟩:=hc;simp[St.made] at hm
   .cases hc
  | _=>simp[Ad] at hc
 case call c=>
  obtain⟨callee,args,argTypes⟩:=c;cases callee with
  | value f=>
   cases f with
   | func f=>
    simp only[Ad] at hc
    split at hc
    .split at hc
     .simp only[I] at hc
      obtain⟨ys,_,rfl⟩:=hc;simp[St.made] at hm
     .cases hc
    .cases hc
   | tmp t=>
    simp only[Ad,I] at hc
    obtain⟨ys,_,rfl⟩:=hc;simp[St.made] at hm
   | _=>simp[Ad] at hc
  | invoke r m=>simp[Ad] at hc
  | builtin bi=>
   cases bi<;>try (simp[Ad] at hc; done)
   all_goals
    simp only[Ad] at hc
    split at hc
    .split at hc
     all_goals first
      | (cases hc; done)
      | (cases hc; simp[St.made] at hm; done)
      | (split at hc<;>first | (cases hc; done) | (cases hc; simp[St.made] at hm; done))
    .cases hc
def A37{X:Cx}{cs ds:N AC}{C:Array Value}{vs:N Value}{off:W}(hC:CRels X cs C.toList)(hd:CRels X ds vs) :
  CRels X (BS cs off ds) (C.toList.take (off+0)++vs++C.toList.drop (off+0+vs.length)):=by
 have h1:=hd.length;unfold BS;rw[h1];exact((hC.take off).append hd).append (hC.drop (off+vs.length))
def CRels.one:∀{X:Cx} {cs vs},CRels X cs vs->∀v∈vs,v.oneCell'=T
 | _,_,_,.nil,_,hv=>by cases hv
 | _,_,_,.cons a b,v,hv=>by
  cases hv with
  | head=>exact a.one
  | tail _ hm=>exact b.one v hm
end
end
section
def Reps.one{h:A6}:∀{ds:N D} {vs:N Value},Reps h ds vs->∀v∈vs.take ds.length,v.oneCell'=T
 | _,_,.nil,v,hv=>by simp at hv
 | _,_,.cons a b,v,hv=>by
  simp at hv
  rcases hv with rfl|hv
  .exact a.one
  .exact b.one v hv
def RepRows.one{h:A6}{sz:W}:∀{es:N (N D)} {vs:N Value},RepRows h sz es vs->vs.length=es.length*sz->∀v∈vs,v.oneCell'=T
 | [],vs,_,hl,v,hv=>by
  obtain rfl:vs= []:=zG.1 (by simpa using hl);cases hv
 | d::es,vs,.cons a b c,hl,v,hv=>by
  simp only[zX,zH,yC] at hl
  rw[<- List.take_append_drop sz vs,yF] at hv
  rcases hv with hv|hv
  .exact b.one v (by rw[a]; exact hv)
  .exact c.one d3 v hv
def BoxRel.move{X Y:Cx}{id:W}{cs:N AC}(H:BoxRel X id cs)(h1:∀b,X.nm (2*id)=G b->Y.nm (2*id)=G b/\Y.w.heap[b]?=X.w.heap[b]?)(h2:∀c v,c∈cs->CRel X c v->CRel Y c v):BoxRel Y id cs:=by
 obtain⟨b,C,t,k1,k2,k3⟩:=H;obtain⟨k4,k5⟩:=h1 b k1;exact⟨b,C,t,k4,k5.trans k2,k3.to h2⟩
def CRel.turn{X Y:Cx}{c:AC}{v:Value}{id sz:W}{es es':N (N D)}(H:CRel X c v)(hc:c.has id=T)(hx:A1 X.rs id=G (sz,es))(hy:A1 Y.rs id=G (sz,es'))(hl:es'.length=es.length)
  (hn:Y.nm (2*id+1)=X.nm (2*id+1)) (ho:∀b cap,X.nm (2*id+1)=G b->OwnB X.h X.w b sz cap es->OwnB Y.h Y.w b sz cap es'):CRel Y c v:=by
 cases c with
 | own i=>
  simp only[AC.has,beq_iff_eq] at hc
  subst hc;rcases H.inv_own hx with ⟨rfl,k1,a0,rfl⟩|⟨b,cap,k1,k2,rfl⟩
  .have:es'= []:=zG.1 (by simpa using hl);subst this;exact .ownNil hy (hn.trans k1)
  .exact .own hy (hn.trans k1) (ho b cap k1 k2) hl.symm
 | osub i lo hi=>
  simp only[AC.has,beq_iff_eq] at hc
  subst hc;rcases H.inv_osub hx with ⟨rfl,rfl,rfl,k1,a0,rfl⟩|⟨b,cap,cap',off,k1,k2,k3,k4,k5,k6,k7,rfl⟩
  .have:es'= []:=zG.1 (by simpa using hl);subst this;exact .osubNil hy (hn.trans k1)
  .exact .osub hy (hn.trans k1) (ho b cap k1 k2) k3 a9 k5 J k6 k7
 | pe i idx off=>
  simp only[AC.has,beq_iff_eq] at hc
  subst hc;obtain⟨b,cap,k1,k2,k3,rfl⟩:=H.inv_pe hx;exact .pe hy (hn.trans k1) (ho b cap k1 k2) a9 J
 | _=>simp[AC.has] at hc
section
variable {P : Program} {A : Ar} {B : W} {w0 : Base} {w : World} {nm : Ac} {M : St} {a : Act}
def nY{w0:Base}{k:W}(hv:w0.vv k)(h:w0.M k):False:=w0.no k hv h
def TK{g:W}(h:BelowX B w0 w)(hg:B<=g\/w0.M g){C C0:Array Value}{t:TypeId}{fr:W × W}(h0:w.heap[g]?=G (.cells C0 t fr))(hs:C.size=C0.size):BelowX B w0 (w.setRow g C):=
 ⟨h.os,h.tape,h.output,by simp[h.size],fun k hk hm hv=>by
  rw[setRow_other w g k C (by
   rintro rfl
   rcases hg with hg|hg
   .omega
   .exact hm hg)]
  exact h.block k hk hm hv,fun k hm C1 t1 CC h1=>by
  obtain⟨C',k1,k2⟩:=h.room k hm C1 t1 CC h1;by_cases e:k=g
  .subst e;rw[k1] at h0
   cases h0;exact⟨C,setRow_heap w k _ C _ _ k1,hs.trans k2⟩
  .exact⟨C',(setRow_other w g k C e).trans k1,k2⟩,h.vlt,fun k hv C1 t1 CC h1=>by
  obtain⟨C',k1,k2⟩:=h.shape k hv C1 t1 CC h1
  have e:k≠g:=by
   rintro rfl
   rcases hg with hg|hg
   .have:=h.vlt k hv; omega
   .exact nY hv hg
  exact⟨C',(setRow_other w g k C e).trans k1,k2⟩⟩
def QD{g i:W}{C:Array Value}(hi:nm i=G g):∀b C',A9 A nm w b C'->A9 A nm (w.setRow g C) b C':=
 CW fun b _ hn=>⟨hn,setRow_other w g b C (fun e=>hn i (e▸hi))⟩
def VH{t:TypeId}{inf:TypeInfo}{ad:Addr}{v:Value}(hi:P.info? t=G inf)(hsz:v.cells.size=inf.size):(storeVar t ad v).run P w=(storeCells ad v.cells.toList).run P w:=by
 simp[storeVar,sizeOf,typeInfo,hi,hsz]
def A5f(R:Rel A B w0 nm M a.tmps w){id off n:W}{cs:N AC}{y:V1}{va vx:Value}{t:TypeId}{inf:TypeInfo}(hi:P.info? t=G inf)(hn:inf.size=n)(ha:VRel (cx A nm M w) (.v (.sc (.pb id off))) va)(hx:VRel (cx A nm M w) (.v y) vx)
  (hf:A1 M.bx id=G cs) (hl:y.cells.length=n) (hle:off+n<=cs.length) :
  ∃w',(Instr.storeAt t va vx).run P w= .ok () w'/\Rel A B w0 nm {M with bx:=put M.bx id (BS cs off y.cells)} a.tmps w':=by
 have hp:=ha.inv_sc;cases hp with
 | @pb _ _ b hb=>
 obtain⟨b',C,t',h1,h2,h3⟩:=R.bxs id cs hf;have e:b'=b:=zN (h1.symm.trans hb);subst e;have hy:V1Rel (cx A nm M w) y vx:=by cases hx with | v H=>exact H
 have hyc:=hy.cells;have hlc:=h3.length;have hlv:=hyc.length;have hsz:vx.cells.size=n:=by simp at hlv; omega
 have hst:=run_storeCells_at P b' off t' vx.cells.toList 0 C w h2 (by simp at hlc ⊢; omega) hyc.one;refine⟨w.setRow b' (C.toList.take (off+0)++vx.cells.toList++C.toList.drop (off+0+vx.cells.toList.length)).toArray,?_,?_⟩
 .have h5:=VH (P:=P) (w:=w) (ad:=⟨b',off,L⟩) hi (hsz.trans hn.symm);simp only[Instr.storeAt,Instr.sureAddr,Sem.run_bind,Sem.run_pure,Result.andThen_ok];rw[h5];exact hst
 .have hB:=(R.names _ b' h1).1
  have hcell:∀c v,CRel (cx A nm M w) c v->CRel (cx A nm {M with bx:=put M.bx id (BS cs off y.cells)} (w.setRow b' (C.toList.take (off+0)++vx.cells.toList++C.toList.drop (off+0+vx.cells.toList.length)).toArray)) c v:=by
   intro c v hr;refine hr.move (QD h1) (fun i _=> .inr ⟨J,J,fun b hb2=> ?_⟩) (fun i _ b hb2=>hb2);exact setRow_other w b' b _ (fun e=>by subst e; have:=R.inj _ _ _ hb2 h1; omega)
  refine⟨TK R.below hB h2 (by simp at hlc ⊢; omega),by simp[R.size],R.all,R.good,fun i b hb2=>by simpa using R.names i b hb2,R.inj,R.pin,fun k=>(R.env k).to fun c v _=>hcell c v,fun i c hc=> ?_⟩;by_cases hii:i=id
  .subst hii;rw[show A1 (put M.bx i (BS cs off y.cells)) i=G (BS cs off y.cells) from Bm _ _ _] at hc
   cases hc;refine⟨b',_,t',h1,setRow_heap w b' C _ t' _ h2,?_⟩;have:=A37 (off:=off) h3 hyc;exact(by simpa using this:CRels (cx A nm M w) _ _).to fun c v _=>hcell c v
  .rw[show A1 (put M.bx id (BS cs off y.cells)) i=A1 M.bx i from Bn _ _ hii] at hc
   refine(R.bxs i c hc).move (fun b hb2=>⟨hb2,setRow_other w b' b _ (fun e=> ?_)⟩) fun c v _=>hcell c v
   subst e;have:=R.inj _ _ _ hb2 h1;omega
def Reps.lenOf{h:A6}:∀{ds:N D} {vs:N Value},Reps h ds vs->ds.length<=vs.length:=fun H=>H.le
def dY(R:Rel A B w0 nm M a.tmps w){id b sz:W}{es es':N (N D)}{C:Array Value}{t':TypeId}{C':N Value}(hb:nm (2*id+1)=G b)(hf:A1 M.rows id=G (sz,es))(h2:w.heap[b]?=G (.cells C t' (0,0)))
  (hC:C'.length=C.size) (hrow2:RepRows (A9 A nm w) sz es' C') (hl:es'.length=es.length):Rel A B w0 nm {M with rows:=put M.rows id (sz,es')} a.tmps (w.setRow b C'.toArray):=by
 have hB:=(R.names _ b hb).1
 have hcell:∀c v,CRel (cx A nm M w) c v->CRel (cx A nm {M with rows:=put M.rows id (sz,es')} (w.setRow b C'.toArray)) c v:=by
  intro c v hr;by_cases hc:c.has id=T
  .refine hr.turn hc hf (Bm _ _ _) hl J fun b2 cap2 hb2 own2=> ?_
   have e:b2=b:=zN (hb2.symm.trans hb);subst e;obtain⟨q1,q2,q3,C2,t2,q4,q5,q6⟩:=own2;have e2:Obj.cells C2 t2 (0,0)=Obj.cells C t' (0,0):=zN (q4.symm.trans h2);cases e2;refine⟨q1,by rw[hl]; exact q2,q3,_,t',setRow_heap w b2 C _ t' _ h2,?_,?_⟩
   .rw[<- q5];simpa using hC
   .exact hrow2.mono (QD (nm:=nm) hb)
  .refine hr.move (QD hb) (fun j hj=> .inr ⟨?_,J,fun b2 hb2=> ?_⟩) (fun j _ b2 hb2=>hb2)
   .refine Bn _ _ fun e=> ?_
    subst e;exact hc hj
   .refine setRow_other w b b2 _ (fun e=> ?_);subst e;have:=R.inj _ _ _ hb2 hb;have e3:j=id:=by omega
    subst e3;exact hc hj
 refine⟨TK R.below hB h2 (by simpa using hC),by simp[R.size],R.all,R.good,fun j b2 hb2=>by simpa using R.names j b2 hb2,R.inj,R.pin,fun k=>(R.env k).to fun c v _=>hcell c v,fun j c hc=> ?_⟩;refine(R.bxs j c hc).move (fun b2 hb2=>⟨hb2,setRow_other w b b2 _ (fun e=> ?_)⟩) fun c v _=>hcell c v
 subst e;have:=R.inj _ _ _ hb2 hb;omega
def A5h(R:Rel A B w0 nm M a.tmps w){id i off n sz:W}{es:N (N D)}{d ds:N D}{y:V1}{va vx:Value}{t:TypeId}{inf:TypeInfo}(hi:P.info? t=G inf)(hn:inf.size=n)
  (ha:VRel (cx A nm M w) (.v (.sc (.pe id i off))) va) (hx:VRel (cx A nm M w) (.v y) vx) (hf:A1 M.rows id=G (sz,es)) (hd:es[i]?=G d) (hds:y.toDs=G ds) (hl:ds.length=n) (hle:off+n<=d.length) :
  ∃w',(Instr.storeAt t va vx).run P w= .ok () w'/\Rel A B w0 nm {M with rows:=put M.rows id (sz,es.set i (GK d off ds))} a.tmps w':=by
 obtain⟨b,cap,hb,own,hlt,rfl⟩:=ha.inv_sc.inv_pe hf;obtain⟨hpos,hroom,hsmall,C,t',h2,hcs,hrows⟩:=own;have hy:V1Rel (cx A nm M w) y vx:=by cases hx with | v H=>exact H
 have hyc:=hy.cells;obtain⟨hrep,hlen⟩:=ML hyc hds;have hlv:=hyc.length;have hsz:vx.cells.size=n:=by simp at hlv; omega
 obtain⟨hdl,hdr⟩:=hrows.row hd;have hmul:(i+1)*sz<=cap*sz:=zL _ a9;rw[zH,yC] at hmul
 have hst:=run_storeCells_at P b (i*sz+off) t' vx.cells.toList 0 C w h2 d3 hyc.one;simp only[zR] at hst
 refine⟨w.setRow b (C.toList.take (i*sz+off)++vx.cells.toList++C.toList.drop (i*sz+off+vx.cells.toList.length)).toArray,?_,?_⟩
 .have h5:=VH (P:=P) (w:=w) (ad:=⟨b,i*sz+off,L⟩) hi (hsz.trans hn.symm);simp only[Instr.storeAt,Instr.sureAddr,Sem.run_bind,Sem.run_pure,Result.andThen_ok];rw[h5];exact hst
 .have hB:=(R.names _ b hb).1
  have hrow2:RepRows (A9 A nm w) sz (es.set i (GK d off ds)) (C.toList.take (i*sz+off)++vx.cells.toList++C.toList.drop (i*sz+off+vx.cells.toList.length)):=by
   have hul:(((C.toList.drop (i*sz)).take sz).take off++vx.cells.toList++((C.toList.drop (i*sz)).take sz).drop (off+ds.length)).length=sz:=by
    simp;omega
   have hdr2:=hdr.cut (Nat.le_of_eq hdl);have hd2l:((C.toList.drop (i*sz)).take sz).length=sz:=by simp; omega
   have hu:Reps (A9 A nm w) (GK d off ds) (((C.toList.drop (i*sz)).take sz).take off++vx.cells.toList++((C.toList.drop (i*sz)).take sz).drop (off+ds.length)):=by
    unfold GK;refine((Reps.take off hdr2).append ?_ hrep).append ?_ (hdr2.drop _)
    .simp; omega
    .simp; omega
   have hsd:(GK d off ds).length=sz:=by unfold GK; simp; omega
   have:=hrows.set (i:=i) hlt hsd hul hu
   have e:C.toList.take (i*sz)++(((C.toList.drop (i*sz)).take sz).take off++vx.cells.toList++((C.toList.drop (i*sz)).take sz).drop (off+ds.length))++C.toList.drop (i*sz+sz) =
     C.toList.take (i*sz+off)++vx.cells.toList++C.toList.drop (i*sz+off+vx.cells.toList.length):=by
    have e1:((C.toList.drop (i*sz)).take sz).take off=(C.toList.drop (i*sz)).take off:=by rw[List.take_take,Nat.min_eq_left a9]
    have e2:((C.toList.drop (i*sz)).take sz).drop (off+ds.length)++C.toList.drop (i*sz+sz)=C.toList.drop (i*sz+off+vx.cells.toList.length):=by
     have e3:vx.cells.toList.length=ds.length:=by simp; omega
     rw[e3,List.drop_take,zD]
     have e4:C.toList.drop (i*sz+sz)=(C.toList.drop (i*sz+(off+ds.length))).drop (sz - (off+ds.length)):=by
      rw[zD];congr 1
      omega
     rw[e4,List.take_append_drop];congr 1
     omega
    rw[e1,zE,zE,e2,<- zE,<- zE,<- List.take_add]
   rwa [e] at this
  exact dY R hb hf h2 d3 hrow2 d0
def dN{α:Type}:∀{l:N (W × α)} {n:W} {v:α},A1 l n=G v->put l n v=l
 | [],_,_,h=>by simp[A1] at h
 | (k,u)::r,n,v,h=>by
  simp only[A1] at h;simp only[put];by_cases hk:k=n
  .subst hk;simp at h;subst h;simp
  .have h':(k==n)=E:=by simpa using hk
   simp only[h',cond_false] at h ⊢
   rw[dN h]
def oo(R:Rel A B w0 nm M a.tmps w){t ty e:TypeId}{i:TypeInfo}{z:Value}{zs:N D}{ax:AV}{vx:Value}{M':St}(ht:P.underlying t=G (.slice e))(hi:P.info? e=G i)(hz:i.zero=G z)(hzs:z.cells.size=i.size)(hpos:0<i.size)
  (hzr:zs.length=i.size/\Reps (A9 A nm w) zs z.cells.toList) (hx:VRel (cx A nm M w) ax vx) (hs:M.clrV i.size zs ax=G M'):∃v w',(Builtin.clear_ #[t] ty #[vx]).run P w= .ok v w'/\Rel A B w0 nm M' a.tmps w':=by
 unfold St.clrV at hs
 split at hs
 .rename_i id lo hi'
  split at hs
  .rename_i z' es hf
   split at hs
   .rename_i hcond
    obtain⟨rfl,hzl,hle,rfl⟩:=hcond;cases hs
    have same:es.take lo++zC (es.length - lo) zs=es->Rel A B w0 nm {M with rows:=put M.rows id (i.size,es.take lo++zC (es.length - lo) zs)} a.tmps w:=fun h=>by
     rw[h,dN hf];exact R
    rcases hx.inv_sc.inv_osub hf with ⟨rfl,rfl,_,_,a0,rfl⟩|⟨b,cap,cap',off,hb,own,h1,h2,⟨h3,_⟩,h4,h5,rfl⟩
    .refine⟨.tuple #[],w,?_,same J⟩;cases a0<;>simp[Builtin.clear_,run_underlying ht]
    .by_cases hlo:lo=es.length
     .refine⟨.tuple #[],w,?_,same (by subst hlo; simp)⟩;simp[Builtin.clear_,run_underlying ht,hlo]
     .have hlt:lo<es.length:=by omega
      obtain⟨q1,hroom,q3,C,t',q4,hcs,hrows⟩:=own;have hoff:=h3 hlt;subst hoff;have hmul:es.length*i.size<=cap*i.size:=zL _ hroom;have hsp:es.length*i.size=lo*i.size+(es.length - lo)*i.size:=by rw[<- zH]; congr 1; omega
      have hfl:(Builtin.zeroCells z.cells (es.length - lo)).toList=(zC (es.length - lo) z.cells.toList).flatten:=by
       unfold Builtin.zeroCells;rw[hzs];have:=Vg z.cells (es.length - lo) i.size hzs hpos;rw[hzs] at this
       exact this
      have hfll:(Builtin.zeroCells z.cells (es.length - lo)).toList.length=(es.length - lo)*i.size:=by rw[hfl]; simp[hzs]
      have hzrr:=RepRows.replicate hzl (by simpa using hzs) hzr.2 (es.length - lo);rw[<- hfl] at hzrr
      have hone:=hzrr.one (by rw[hfll]; simp);have hst:=run_storeCells_at P b (lo*i.size) t' (Builtin.zeroCells z.cells (es.length - lo)).toList 0 C w q4 (by rw[hfll]; omega) hone;simp only[zR] at hst
      refine⟨.tuple #[],w.setRow b (C.toList.take (lo*i.size)++(Builtin.zeroCells z.cells (es.length - lo)).toList++C.toList.drop (lo*i.size+(Builtin.zeroCells z.cells (es.length - lo)).toList.length)).toArray,?_,?_⟩
      .obtain⟨m,hm⟩:∃m,es.length - lo=m+1:=⟨es.length - lo - 1,a9⟩;rw[hm] at hst ⊢
       simp[Builtin.clear_,run_underlying ht,zeroValue,typeInfo,hi,hz,hst]
      .refine dY R hb hf q4 (by simp only[List.length_append,List.length_take,zW,hfll,Array.length_toList]; omega) ?_ d3;have hta:RepRows (A9 A nm w) i.size (es.take lo) (C.toList.take (lo*i.size)):=(hrows.takeRows lo).cut (by simp; exact zL _ (Nat.min_le_left _ _));refine((hta.append ?_ hzrr).more _);simp only[List.length_take,Array.length_toList,Nat.min_eq_left hle];omega
   .cases hs
  .cases hs
 .cases hs
def RepS.flat1{h h':A6}{c d:D}{u u' v:Value}(H:RepS h c u)(hs:ShV u u')(hl:Mu c d=T)(hd:Rep h' d v):ShV u' v:=by
 cases c<;>cases d<;>simp[Mu] at hl
 .subst hl;cases H with | int a b=>
  cases hd with | int p q=>
  cases hs with
  | same=>exact .int p q
  | int _ _=>exact .int p q
 .cases H;cases hd;cases hs<;>exact .bool
 .cases H with | str a=>
  cases hd with | str p=>
  cases hs with
  | same=>exact .str p
  | str _=>exact .str p
def ShL.put:∀{l:N Value} {i:W} {u v:Value},l[i]?=G u->ShV u v->ShL l (l.take i++ [v]++l.drop (i+1))
 | [],_,_,_,h,_=>by simp at h
 | x::l,0,u,v,h,hs=>by
  simp at h;subst h;simpa using .cons hs (ShL.refl l)
 | x::l,i+1,u,v,h,hs=>by
  simp at h;have:=ShL.put h hs;simp only[zE,List.cons_append,yG] at this
  simp;exact .cons .same this
def dn{a b c:N Value}:ShL a b->ShL b c->ShL a c
 | .nil,.nil=> .nil
 | .cons h hs,.cons k ks=> .cons (by
  cases h with
  | same=>exact k
  | int h1 h2=>cases k with
   | same=>exact .int h1 h2
   | int k1 k2=>exact .int k1 k2
  | bool=>cases k with
   | same=>exact .bool
   | bool=>exact .bool
  | str h1=>cases k with
   | same=>exact .str h1
   | str k1=>exact .str k1) (dn hs ks)
def A5i(R:Rel A B w0 nm M a.tmps w){c d:D}{cs:N D}{va vx:Value}{t:TypeId}{inf:TypeInfo}(hi:P.info? t=G inf)(hn:inf.size=1)(ha:VRel (cx A nm M w) (.v (.sc (.vol (.pd (c::cs))))) va)(hx:VRel (cx A nm M w) (.v (.sc (.dat d))) vx)(hl:Mu c d=T) :
  ∃w',(Instr.storeAt t va vx).run P w= .ok () w'/\Rel A B w0 nm M a.tmps w':=by
 have hp:=ha.inv_sc;cases hp with | vol hp hsh=>
 cases hp with | pd hC hreps=>
 cases hsh;rename_i b C0 off
 obtain⟨C,t',fr,hC2,hshl,rfl,hvv⟩:=R.volAt hC
 obtain⟨u,us,hu,hrep⟩:∃u us,C0.drop off=u::us/\RepS A.v c u:=by
  generalize C0.drop off=l at hreps
  cases hreps with | cons a b=>exact⟨_,_,rfl,a⟩
 have hu0:C0[off]?=G u:=by
  have:(C0.drop off)[0]?=G u:=by rw[hu]; rfl
  simpa using this
 obtain⟨u',hu',hs'⟩:=hshl.get hu0;have hy:V1Rel (cx A nm M w) (.sc (.dat d)) vx:=by cases hx with | v H=>exact H
 have hyc:CRels (cx A nm M w) [.dat d] vx.cells.toList:=hy.cells
 obtain⟨v',hv',hd⟩:∃v',vx.cells.toList= [v']/\Rep (A9 A nm w) d v':=by
  generalize vx.cells.toList=l at hyc
  cases hyc with | cons p q=>
  cases q;exact⟨_,J,p.inv_dat⟩
 have hsz:vx.cells.size=1:=by
  have:=congrArg List.length hv';simpa using this
 have hoff:off<C.toList.length:=(zF.1 hu').1;have hst:=run_storeCells_at P b off t' vx.cells.toList 0 C w hC2 (by rw[hv']; simp at hoff ⊢; omega) hyc.one;have hsv:ShV u' v':=hrep.flat1 hs' hl hd;simp only[zR,hv',List.length_singleton] at hst
 refine⟨w.setRow b (C.toList.take off++ [v']++C.toList.drop (off+1)).toArray,?_,?_⟩
 .have h5:=VH (P:=P) (w:=w) (ad:=⟨b,off,L⟩) hi (hsz.trans hn.symm);simp only[Instr.storeAt,Instr.sureAddr,Sem.run_bind,Sem.run_pure,Result.andThen_ok];rw[h5,hv'];exact hst
 .have hne:∀i g,nm i=G g->g≠b:=fun i g hg e=>by
   subst e;rcases(R.names i g hg).1 with h1|h1
   .have:=R.below.vlt g hvv; omega
   .exact w0.no g hvv h1
  have hview:∀b' C',A9 A nm w b' C'->A9 A nm (w.setRow b (C.toList.take off++ [v']++C.toList.drop (off+1)).toArray) b' C':=by
   rintro b' C' ⟨h1,c1,t1,CC,hA,h2,h3⟩
   exact⟨h1,c1,t1,CC,hA,(setRow_other w b b' _ (fun e=>R.all.vout b CC hvv (e▸hA))).trans h2,h3⟩
  have hcell:∀c v,CRel (cx A nm M w) c v->CRel (cx A nm M (w.setRow b (C.toList.take off++ [v']++C.toList.drop (off+1)).toArray)) c v:=fun c v hr=>
   hr.move hview (fun i _=> .inr ⟨rfl,rfl,fun g hg=>setRow_other w b g _ (hne _ _ hg)⟩) (fun i _ b hb2=>hb2)
  refine⟨⟨R.below.os,R.below.tape,R.below.output,by simp[R.below.size],fun k hk hm hv=> ?_,fun k hm C1 t1 CC h1=> ?_,R.below.vlt,fun k hv C1 t1 CC h1=> ?_⟩,by simp[R.size],R.all,R.good,fun i g hg=>by simpa using R.names i g hg,R.inj,R.pin,fun k=>(R.env k).to fun c v _=>hcell c v,fun i cs hcs=> ?_⟩
  .rw[setRow_other w b k _ (fun e=>hv (e▸hvv))];exact R.below.block k hk hm hv
  .obtain⟨C',k1,k2⟩:=R.below.room k hm C1 t1 CC h1;exact⟨C',(setRow_other w b k _ (fun e=>w0.no b hvv (e▸hm))).trans k1,k2⟩
  .obtain⟨C',k1,k2⟩:=R.below.shape k hv C1 t1 CC h1;by_cases e:k=b
   .subst e;rw[k1] at hC2
    cases hC2;exact⟨_,setRow_heap w k _ _ _ _ k1,dn k2 (by simpa using ShL.put hu' hsv)⟩
   .exact⟨C',(setRow_other w b k _ e).trans k1,k2⟩
  .exact(R.bxs i cs hcs).move (fun g hg=>⟨hg,setRow_other w b g _ (hne _ _ hg)⟩) fun c v _=>hcell c v
def Yd{av:AV}{v:Value}{es:N (N D)}{sz:W}(hv:VRel (cx A nm M w) av v)(hs:appSrc M.rows av=G es)(hall:es.all (fun r=>r.length==sz)=T)(hpos:0<sz) :
  ∃p c news,v= .slice p es.length c/\news.length=es.length*sz/\RepRows (A9 A nm w) sz es news/\(∀w':World,w'.heap=w.heap->(Builtin.firstCells sz es.length v).run P w'= .ok news.toArray w'):=by
 have empty:es= []->∀p c,v= .slice p 0 c->∃p c news,v= .slice p es.length c/\news.length=es.length*sz/\RepRows (A9 A nm w) sz es news/\(∀w':World,w'.heap=w.heap->(Builtin.firstCells sz es.length v).run P w'= .ok news.toArray w'):=by
  intro he p c hv;subst he hv;refine⟨p,c,[],J,d0,.nil,fun w' _=> ?_⟩;cases p<;>simp[Builtin.firstCells,loadCells,loadCellsFrom]
 have full:∀(b off c lo:W) (C:Array Value) (t:TypeId) (fr:W × W),es≠ []->v= .slice (G ⟨b,off,L⟩) es.length c->w.heap[b]?=G (.cells C t fr)->RepRows (A9 A nm w) sz es (C.toList.drop off)->
   ∃p c news,v= .slice p es.length c/\news.length=es.length*sz/\RepRows (A9 A nm w) sz es news/\(∀w':World,w'.heap=w.heap->(Builtin.firstCells sz es.length v).run P w'= .ok news.toArray w'):=by
  intro b off c lo C t fr hne hv hC hr;have hlen:=hr.len;have hpe:0<es.length:=yA.2 hne;have hp:0<es.length*sz:=Nat.mul_pos hpe hpos;simp only[zW,Array.length_toList] at hlen
  refine⟨_,_,(C.toList.drop off).take (es.length*sz),hv,d3,hr.cut (zM _),fun w' hw=> ?_⟩;subst hv;simp only[Builtin.firstCells];exact SN (by rw[hw]; exact hC) a9
 have hsz:∀{sz':W} {vs:N Value} {h:A6},es≠ []->RepRows h sz' es vs->sz'=sz:=by
  intro sz' vs h hne hr;cases es with
  | nil=>exact absurd rfl hne
  | cons d ds=>
   simp at hall
   cases hr with | cons k _ _=>omega
 unfold appSrc at hs
 split at hs
 .rename_i c
  split at hs
  .rename_i es' hd
   cases hs;have hc:=hv.inv_sc;cases c with
   | dat d=>
    simp only[toD0,zA] at hd
    subst hd;have hr:=hc.inv_dat;cases hr with
    | nil=>exact empty rfl _ _ rfl
    | @sl _ b C sz' off cap _ hC hp hrows hlen hcap hmax=>
     subst hlen;obtain⟨_,C',t,fr,_,hC',rfl⟩:=hC;by_cases hne:es= []
     .subst hne; exact empty rfl _ _ rfl
     .have e:=hsz hne hrows;subst e;exact full b off cap 0 C' t fr hne J hC' hrows
   | own id=>
    simp only[toD0] at hd
    split at hd
    .rename_i sz' es2 hf
     cases hd;rcases hc.inv_own hf with ⟨rfl,_,a0,rfl⟩|⟨b,cap,hb,own,rfl⟩
     .exact empty J _ _ J
     .obtain⟨_,_,_,C,t,h1,h2,h3⟩:=own;by_cases hne:es= []
      .subst hne; exact empty rfl _ _ rfl
      .have e:=hsz hne h3;subst e;exact full b 0 cap 0 C t _ hne J h1 (by rw[yB]; exact h3)
    .cases hd
   | osub id lo hi=>
    simp only[toD0] at hd
    split at hd
    .rename_i sz' es2 hf
     cases hd;rcases hc.inv_osub hf with ⟨rfl,rfl,rfl,_,a0,rfl⟩|⟨b,cap,cap',off,hb,own,h1,h2,⟨h3,_⟩,h4,h5,rfl⟩
     .exact empty d0 a0 0 J
     .obtain⟨_,_,_,C,t,k1,k2,k3⟩:=own;have hl:((es2.drop lo).take (hi - lo)).length=hi - lo:=by simp; omega
      by_cases hlt:lo<hi
      .have hne:(es2.drop lo).take (hi - lo)≠ []:=fun e=>by rw[e] at hl; simp at hl; omega
       have hr:=(k3.dropRows lo).takeRows (hi - lo);have e:=hsz hne hr;subst e;exact full b (lo*sz') cap' 0 C t _ hne (by rw[hl,h3 hlt]) k1 hr
      .have e0:hi - lo=0:=by omega
       exact empty (by rw[e0]; simp) (G ⟨b,off,L⟩) cap' (by rw[e0])
    .cases hd
   | nil=>
    simp only[toD0,zA,D.sl.injEq] at hd
    subst hd;cases hc;exact empty J _ _ J
   | _=>simp[toD0] at hd
  .cases hs
 .cases hs
section
variable {t t' ty e e' : TypeId} {i : TypeInfo} {z x : Value}
def A3y(ht:P.underlying t=G (.slice e))(ht':P.underlying t'=G (.slice e'))(hi:P.info? e=G i){g n cap m c:W}{p:O Addr}{cur:Array Value}{t0:TypeId}{news:N Value}
  (hg:w.heap[g]?=G (.cells cur t0 (0,0))) (hx:x= .slice p m c) (hf:(Builtin.firstCells i.size m x).run P w= .ok news.toArray w) (h1:∀u∈news,u.oneCell'=T) (hroom:n+m<=cap) (hfit:n*i.size+news.length<=cur.size) :
  (Builtin.append_ #[t,t'] ty #[.slice (G ⟨g,0,L⟩) n cap,x]).run P w =
   .ok (.slice (G ⟨g,0,L⟩) (n+m) cap) (w.setRow g (cur.toList.take (n*i.size)++news++cur.toList.drop (n*i.size+news.length)).toArray):=by
 subst hx;have hst:=run_storeCells_at P g (n*i.size) t0 news 0 cur w hg (by simpa using hfit) h1;simp only[zR] at hst
 simp[Builtin.append_,run_underlying ht,run_underlying ht',sizeOf,typeInfo,hi,Builtin.lenOf,hroom,hf,Addr.add_lit,hst]
def dh(ht:P.underlying t=G (.slice e))(ht':P.underlying t'=G (.slice e'))(hi:P.info? e=G i){m c:W}{p base:O Addr}
  (hx:x= .slice p m c) (hf:(Builtin.firstCells i.size m x).run P w= .ok #[] w) (hm:m=0) :
  (Builtin.append_ #[t,t'] ty #[.slice base 0 0,x]).run P w= .ok (.slice base 0 0) w:=by
 subst hx hm;cases base<;>simp[Builtin.append_,run_underlying ht,run_underlying ht',sizeOf,typeInfo,hi,Builtin.lenOf,hf,storeCells]
def dg(ht:P.underlying t=G (.slice e))(ht':P.underlying t'=G (.slice e'))(hi:P.info? e=G i)(hz:i.zero=G z){base:O Addr}{n cap m c:W}{p:O Addr}{olds news:N Value}
  (hx:x= .slice p m c) (ho:(Builtin.firstCells i.size n (.slice base n cap)).run P w.drew= .ok olds.toArray w.drew) (hf:(Builtin.firstCells i.size m x).run P w.drew= .ok news.toArray w.drew)
  (hg:cap<n+m) (h63:((n+m:W):Q)<=9223372036854775807) (hfit:(n+m)*i.bytes<=140737488355328) :
  (Builtin.append_ #[t,t'] ty #[.slice base n cap,x]).run P w =
   .ok (.slice (G ⟨w.heap.size,0,L⟩) (n+m) (grownCap w (n+m) cap e))
    (w.drew.alloc (.cells (olds.toArray++news.toArray++Builtin.zeroCells z.cells (grownCap w (n+m) cap e - (n+m))) e)):=by
 subst hx;have hn:¬(n+m<=cap):=by omega
 have h63':¬(9223372036854775807<((n:Q)+(m:Q))):=by omega
 have h48':¬(281474976710656<Builtin.nextslicecap (n+m) cap*i.bytes):=by have:=growslice_fits hg hfit; omega
 simp[Builtin.append_,run_underlying ht,run_underlying ht',sizeOf,typeInfo,zeroValue,hi,hz,Builtin.lenOf,hn,h63',h48',Question.forced,hf,ho,newRow,grownCap];congr 2
 apply Array.ext'
 simp
end
def St.get_map{f:AC->AC}{k:W}:(M.map f).get k=(M.get k).map f:=by
 unfold St.get St.map;simp only
 have:∀l:N (W × AV),A1 (l.map fun p=>(p.1,p.2.map f)) k=(A1 l k).map (AV.map f):=by
  intro l
  induction l with
  | nil=>rfl
  | cons p r ih=>
   by_cases h:p.1=k
   .simp[A1,h]
   .have h':(p.1==k)=E:=by simpa using h
    simp[A1,h',ih]
 rw[this];cases A1 M.env k<;>rfl
def HL{f:AC->AC}{k:W}:A1 (M.map f).bx k=(A1 M.bx k).map (yI f):=by
 unfold St.map;simp only
 have:∀l:N (W × N AC),A1 (l.map fun p=>(p.1,p.2.map f)) k=(A1 l k).map (yI f):=by
  intro l
  induction l with
  | nil=>rfl
  | cons p r ih=>
   by_cases h:p.1=k
   .simp[A1,h]
   .have h':(p.1==k)=E:=by simpa using h
    simp[A1,h',ih]
 exact this _
def Cg{i j:W}(h:¬i=j):(i==j)=E:=by simpa using h
def SG(c:AC)(id:W):(c.has id=T/\c.kill id= .undef)\/(c.has id=E/\c.kill id=c):=by
 cases c with
 | own i=>by_cases h:i=id<;>simp[AC.has,AC.kill,h,Cg]
 | osub i _ _=>by_cases h:i=id<;>simp[AC.has,AC.kill,h,Cg]
 | pe i _ _=>by_cases h:i=id<;>simp[AC.has,AC.kill,h,Cg]
 | _=>exact .inr ⟨rfl,rfl⟩
def Rel.afterApp(R:Rel A B w0 nm M a.tmps w){nm':Ac}{w':World}{id d sz:W}{es2:N (N D)}{v:Value}(hd:d<a.tmps.size)
  (hbel:BelowX B w0 w') (hsz:B<=w'.heap.size) (hnames:∀i b,nm' i=G b->(B<=b\/w0.M b)/\b<w'.heap.size) (hinj:∀i j b,nm' i=G b->nm' j=G b->i=j) (hpin:∀i,AG<=i->nm' i=nm i)
  (hsame:∀i,i≠2*id+1->nm' i=nm i/\∀b,nm i=G b->w'.heap[b]?=w.heap[b]?) (hview:∀b C,A9 A nm w b C->A9 A nm' w' b C)
  (hv:CRel ⟨nm',Vi.put M.rows id (sz,es2),A9 A nm' w',w',A.o,A.v,A.new⟩ (.own id) v) :
  Rel A B w0 nm' {((M.map (AC.kill id)).set d (.v (.sc (.own id)))) with rows:=Vi.put M.rows id (sz,es2)} (a.put (G d) v).tmps w':=by
 have R1:Rel A B w0 nm' {(M.map (AC.kill id)) with rows:=Vi.put M.rows id (sz,es2)} a.tmps w':=by
  refine R.carry (f:=AC.kill id) hbel hsz hnames hinj hpin (fun k=>St.get_map) (fun k=>HL) (fun k cs hk b hb=> ?_) (fun c v hc hr=> ?_)
  .obtain⟨h1,h2⟩:=hsame (2*k) a9;exact⟨h1.trans hb,h2 b hb⟩
  .rcases SG c id with ⟨_,hk⟩|⟨hn,hk⟩
   .rw[hk]; exact .undef hr.one
   .rw[hk];refine hr.move hview (fun j hj=> .inr ?_) (fun j _ b hb=> ?_)
    .have hne:j≠id:=fun e=>by subst e; rw[hn] at hj; cases hj
     obtain⟨h1,h2⟩:=hsame (2*j+1) a9;exact⟨Bn _ _ hne,h1,h2⟩
    .exact(hsame (2*j) a9).1.trans hb
 exact R1.put hd (Bs hv)
def nG(R:Rel A B w0 nm M a.tmps w){t t' ty e e':TypeId}{i:TypeInfo}{z:Value}{d:W}{ax ay:AV}{vx vy:Value}{M':St}(ht:P.underlying t=G (.slice e))(ht':P.underlying t'=G (.slice e'))
  (hi:P.info? e=G i) (hz:i.zero=G z) (hzs:z.cells.size=i.size) (hpos:0<i.size) (hd:d<a.tmps.size)
  (hx:VRel (cx A nm M w) ax vx) (hy:VRel (cx A nm M w) ay vy) (hs:M.appV d i.size i.bytes ax ay=G M') :
  ∃v w' nm',(Builtin.append_ #[t,t'] ty #[vx,vy]).run P w= .ok v w'/\Rel A B w0 nm' M' (a.put (G d) v).tmps w':=by
 unfold St.appV at hs
 split at hs
 .rename_i id
  split at hs
  rotate_left
  .cases hs
  rename_i hid
  split at hs
  .rename_i sz' es es' hf hes
   split at hs
   .rename_i hc
    obtain⟨rfl,hall,hb47,h62⟩:=hc;cases hs;obtain⟨p,c,news,rfl,hnl,hnr,hload⟩:=Yd (P:=P) hy hes hall hpos;have hone:=hnr.one hnl;have h63:((es.length+es'.length:W):Q)<=9223372036854775807:=by omega
    have grow:∀(base:O Addr) (cap:W) (olds:N Value),vx= .slice base es.length cap->(Builtin.firstCells i.size es.length (.slice base es.length cap)).run P w.drew= .ok olds.toArray w.drew->
      olds.length=es.length*i.size->RepRows (A9 A nm w) i.size es olds->cap<es.length+es'.length->
      ∃v w' nm',(Builtin.append_ #[t,t'] ty #[vx,.slice p es'.length c]).run P w= .ok v w'/\
       Rel A B w0 nm' {((M.map (AC.kill id)).set d (.v (.sc (.own id)))) with rows:=put M.rows id (i.size,es++es')} (a.put (G d) v).tmps w':=by
     intro base cap olds hvx ho hol hor hlt;subst hvx;have hrun:=dg (P:=P) (w:=w) (ty:=ty) ht ht' hi hz (base:=base) (n:=es.length) (cap:=cap) (x:= .slice p es'.length c) rfl ho (hload w.drew rfl) hlt h63 hb47;have hge:=grownCap_ge w (es.length+es'.length) cap e;have hcm:grownCap w (es.length+es'.length) cap e<=maxLen:=grownCap_le_maxLen w (es.length+es'.length) cap e (by unfold maxLen; omega);generalize hgc:grownCap w (es.length+es'.length) cap e=gc at hrun hge hcm
     let nm':Ac:=fun n=>if n=2*id+1 then G w.heap.size else nm n
     refine⟨_,_,nm',hrun,?_⟩;have hbel:BelowX B w0 (w.drew.alloc (.cells (olds.toArray++news.toArray++Builtin.zeroCells z.cells (gc - (es.length+es'.length))) e)):=R.below.trans R.there (((RowKit.Below.refl w.heap.size w).drew).alloc (zM _) _) R.size
     have hview:∀b C,A9 A nm w b C->A9 A nm' (w.drew.alloc (.cells (olds.toArray++news.toArray++Builtin.zeroCells z.cells (gc - (es.length+es'.length))) e)) b C:=CW fun b hb hn=>⟨fun j=>by
      simp only[nm'];split
      .intro e2; cases e2; omega
      .exact hn j,heap_alloc_old w.drew _ b hb⟩
     refine R.afterApp hd hbel (by simp; have:=R.size; omega) (fun j b hjb=> ?_) (fun j k b hj hk=> ?_) (fun j hpj=>by simp only[nm']; rw[if_neg]; unfold AG at hpj; omega) (fun j hj=> ?_) hview ?_
     .simp only[nm'] at hjb
      split at hjb
      .cases hjb; have:=R.size; exact⟨.inl this,d0⟩
      .obtain⟨k1,k2⟩:=R.names j b hjb; exact⟨k1,d3⟩
     .simp only[nm'] at hj hk
      split at hj<;>split at hk
      .omega
      .cases hj; have:=R.names k _ hk; omega
      .cases hk; have:=R.names j _ hj; omega
      .exact R.inj j k b hj hk
     .refine⟨by simp only[nm']; rw[if_neg hj],fun b hb=>heap_alloc_old w.drew _ b (R.names _ b hb).2⟩
     .refine .own (Bm _ _ _) (by simp[nm']) ⟨hpos,d3,hcm,_,e,heap_alloc_new w.drew _,?_,?_⟩ d0
      .simp only[Array.size_append,List.size_toArray,size_zeroCells,hzs,hol,hnl,<- zH];congr 1
       omega
      .simp only[Array.toList_append];exact(((hor.append hol hnr).mono hview).more _)
    rcases hx.inv_sc.inv_own hf with ⟨rfl,hn,a0,rfl⟩|⟨b,cap,hb,own,rfl⟩
    .by_cases he:es'= []
     .subst he;have hl0:=hload w rfl;have hn0:news= []:=zG.1 (by simpa using hnl);subst hn0;refine⟨_,w,nm,dh (base:=a0) ht ht' hi J hl0 J,?_⟩;exact R.afterApp hd R.below R.size R.names R.inj (fun _ _=>rfl) (fun j _=>⟨J,fun _ _=>rfl⟩) (fun _ _ h=>h) (.ownNil (Bm _ _ _) hn)
     .have hp0:0<es'.length:=yA.2 he;exact grow a0 0 [] rfl (by cases a0<;>simp[Builtin.firstCells,loadCells,loadCellsFrom]) d0 .nil (by simpa using hp0)
    .obtain⟨_,hroom,hsmall,C,t0,h1,h2,h3⟩:=own;have h1':w.heap[b]?=G (.cells C t0 (0,0)):=h1;by_cases hr:es.length+es'.length<=cap
     .have hmul:(es.length+es'.length)*i.size<=cap*i.size:=zL _ hr;rw[zH] at hmul
      have hrun:=A3y (P:=P) (w:=w) (ty:=ty) ht ht' hi h1' (x:= .slice p es'.length c) rfl (hload w rfl) hone hr a9;refine⟨_,_,nm,hrun,?_⟩;have hB:=(R.names _ b hb).1;refine R.afterApp hd (TK R.below hB h1' d3) (by simp[R.size]) (fun j b2 hj=>by simpa using R.names j b2 hj) R.inj (fun _ _=>rfl) (fun j hj=>⟨J,fun b2 hb2=>setRow_other w b b2 _ fun e2=> ?_⟩) (QD hb) ?_
      .subst e2;exact hj (R.inj _ _ _ hb2 hb)
      .refine .own (Bm _ _ _) hb ⟨hpos,d3,hsmall,_,t0,setRow_heap w b C _ t0 _ h1',?_,?_⟩ d0
       .rw[<- h2];simp;omega
       .have hcut:RepRows (A9 A nm w) i.size es (C.toList.take (es.length*i.size)):=h3.cut (zM _);have h6:=(hcut.append d3 hnr).more (C.toList.drop (es.length*i.size+news.length));exact h6.mono (QD (nm:=nm) hb)
     .have hlen:es.length*i.size<=C.size:=by rw[h2]; exact zL _ hroom
      refine grow (G ⟨b,0,L⟩) cap (C.toList.take (es.length*i.size)) J ?_ d3 (h3.cut (zM _)) a9;simp only[Builtin.firstCells];have:=SN (P:=P) (w:=w.drew) (b:=b) (off:=0) (n:=es.length*i.size) (C:=C) h1' a9;simpa using this
   .cases hs
  .cases hs
 .cases hs
end
end
section
def HK{α:Type}:∀(l:N (W × α)) (ks:N W) (k:W),A1 (erase l ks) k=if ks.contains k then L else A1 l k
 | [],ks,k=>by simp[erase,A1]
 | (i,v)::r,ks,k=>by
  have ih:=HK r ks k;unfold erase at ih ⊢
  by_cases hk:ks.contains i
  .rw[zT (by simpa using hk)];rw[ih];by_cases hik:i=k
   .subst hik; rw[if_pos hk,if_pos hk]
   .have h':=Cg hik;simp[A1,h']
  .rw[zU (by simpa using hk)];by_cases hik:i=k
   .subst hik; simp only[A1,beq_self_eq_true,cond_true]; rw[if_neg hk]
   .have h':=Cg hik;simp only[A1,h',cond_false];exact ih
def Pq{α:Type}{p:W->V}:∀{l:N (W × α)} {id:W} {x:α},A1 (l.filter fun q=>p q.1) id=G x->p id=T/\A1 l id=G x
 | [],id,x,h=>by simp[A1] at h
 | (k,v)::r,id,x,h=>by
  by_cases hp:p k=T
  .rw[zU (by exact hp)] at h;by_cases hk:k=id
   .subst hk;simp[A1] at h;exact⟨hp,by simp[A1,h]⟩
   .have h':=Cg hk;simp only[A1,h',cond_false] at h ⊢
    exact Pq h
  .rw[zT (by exact hp)] at h;obtain⟨h1,h2⟩:=Pq h;have hk:k≠id:=fun e=>hp (e▸h1)
   have h':=Cg hk;simp only[A1,h',cond_false];exact⟨h1,h2⟩
def Ue{α:Type}{p:W->V}:∀(l:N (W × α)) (id:W),A1 (l.filter fun q=>p q.1) id=if p id then A1 l id else L
 | [],id=>by simp[A1]
 | (k,v)::r,id=>by
  have ih:=Ue (p:=p) r id;by_cases hp:p k=T
  .rw[zU (by exact hp)];by_cases hk:k=id
   .subst hk; simp[A1,hp]
   .have h':=Cg hk;simp only[A1,h',cond_false];exact ih
  .rw[zT (by exact hp),ih];by_cases hk:k=id
   .subst hk; simp[hp]
   .have h':=Cg hk;simp only[A1,h',cond_false]
section
variable {A : Ar} {B : W} {w0 : Base} {w : World} {nm : Ac} {M : St} {tmps : Array Value}
def Rel.dropped(R:Rel A B w0 nm M tmps w)(ks:N W):Rel A B w0 nm (M.drop ks) tmps w:=by
 refine⟨R.below,R.size,R.all,R.good,R.names,R.inj,R.pin,fun k=> ?_,R.bxs⟩
 have e:(M.drop ks).get k=if ks.contains k then .undef else M.get k:=by
  unfold St.get St.drop;simp only[HK];split<;>rfl
 rw[e];split
 .exact .undef
 .exact R.env k
def Rel.reput(R:Rel A B w0 nm M tmps w){d:W}{av:AV}(h:VRel (cx A nm M w) av (tmps.getD d undef)):Rel A B w0 nm (M.set d av) tmps w:=by
 refine⟨R.below,R.size,R.all,R.good,R.names,R.inj,R.pin,fun k=> ?_,R.bxs⟩;by_cases hk:k=d
 .subst hk; rw[St.get_set_same]; exact h
 .rw[St.get_set_ne _ _ hk]; exact R.env k
def Rel.nilRow(R:Rel A B w0 nm M tmps w){id sz:W}(h:M.has id=E)(hid:id / 99999999999=0) :
  Rel A B w0 (fun n=>if n=2*id+1 then L else nm n) {M with rows:=Vi.put M.rows id (sz,[])} tmps w/\
  CRel (cx A (fun n=>if n=2*id+1 then L else nm n) {M with rows:=Vi.put M.rows id (sz,[])} w) (.own id) (.slice L 0 0):=by
 refine⟨R.carry (f:=fun c=>c) R.below R.size (fun i b hb=> ?_) (fun i j b hi hj=> ?_) (fun i hp=>by rw[if_neg]; unfold AG at hp; omega) (fun k=>by rw[AV.mapId]; rfl) (fun id=>by simp) (fun k cs _ b hb=>⟨?_,J⟩) (fun c v hc hr=> ?_),?_⟩
 .split at hb
  .cases hb
  .exact R.names i b hb
 .split at hi
  .cases hi
  .split at hj
   .cases hj
   .exact R.inj i j b hi hj
 .rw[if_neg a9]; exact hb
 .have hn:=St.has_uses h hc;refine hr.move (CW fun b _ hn2=>⟨fun i=> ?_,J⟩) (fun j hj=> .inr ?_) (fun j _ b hb=> ?_)
  .split
   .simp
   .exact hn2 i
  .have hne:j≠id:=fun e=>by subst e; rw[hn] at hj; cases hj
   refine⟨Bn _ _ hne,?_,fun _ _=>rfl⟩;show(if 2*j+1=2*id+1 then L else nm (2*j+1))=nm (2*j+1)
   rw[if_neg a9]
  .show(if 2*j=2*id+1 then L else nm (2*j))=G b
   rw[if_neg a9];exact hb
 .exact .ownNil (Bm _ _ _) (by show(if 2*id+1=2*id+1 then L else nm (2*id+1))=L; rw[if_pos J])
def A3a(c:AC)(x y:W):c.has x=T\/(c.has x=E/\c.ren x y=c):=by
 cases c with
 | own i=>by_cases h:i=x<;>simp[AC.has,AC.ren,h,Cg]
 | osub i _ _=>by_cases h:i=x<;>simp[AC.has,AC.ren,h,Cg]
 | pe i _ _=>by_cases h:i=x<;>simp[AC.has,AC.ren,h,Cg]
 | _=>exact .inr ⟨rfl,rfl⟩
def CRel.renamed{X Y:Cx}{c:AC}{v:Value}{x y:W}(H:CRel X c v)(hc:c.has x=T)(hr:A1 Y.rs y=A1 X.rs x)(hn:Y.nm (2*y+1)=X.nm (2*x+1))(hh:∀b C,X.h b C->Y.h b C)(hw:Y.w=X.w):CRel Y (c.ren x y) v:=by
 have hm:∀{b sz cap es},OwnB X.h X.w b sz cap es->OwnB Y.h Y.w b sz cap es:=fun h=>h.move hh (by rw[hw])
 have h1:=H.one;cases H with
 | ownNil a b=>simp only[AC.has,beq_iff_eq] at hc; subst hc; simp only[AC.ren,beq_self_eq_true,cond_true]; exact .ownNil (hr.trans a) (hn.trans b)
 | own a b c d=>simp only[AC.has,beq_iff_eq] at hc; subst hc; simp only[AC.ren,beq_self_eq_true,cond_true]; exact .own (hr.trans a) (hn.trans b) (hm c) d
 | ownDead a _=>simp only[AC.has,beq_iff_eq] at hc; subst hc; simp only[AC.ren,beq_self_eq_true,cond_true]; exact .ownDead (hr.trans a) h1
 | osubNil a b=>simp only[AC.has,beq_iff_eq] at hc; subst hc; simp only[AC.ren,beq_self_eq_true,cond_true]; exact .osubNil (hr.trans a) (hn.trans b)
 | osub a b c d e f g i j=>simp only[AC.has,beq_iff_eq] at hc; subst hc; simp only[AC.ren,beq_self_eq_true,cond_true]; exact .osub (hr.trans a) (hn.trans b) (hm c) d e f g i j
 | osubDead a _=>simp only[AC.has,beq_iff_eq] at hc; subst hc; simp only[AC.ren,beq_self_eq_true,cond_true]; exact .osubDead (hr.trans a) h1
 | pe a b c d e=>simp only[AC.has,beq_iff_eq] at hc; subst hc; simp only[AC.ren,beq_self_eq_true,cond_true]; exact .pe (hr.trans a) (hn.trans b) (hm c) d e
 | peDead a _=>simp only[AC.has,beq_iff_eq] at hc; subst hc; simp only[AC.ren,beq_self_eq_true,cond_true]; exact .peDead (hr.trans a) h1
 | _=>simp[AC.has] at hc
def tf(c:AC)(x:W)(es:N (N D)):c= .own x\/(c.has x=T/\c.frz x es= .undef)\/(c.has x=E/\c.frz x es=c):=by
 cases c with
 | own i=>by_cases h:i=x<;>simp[AC.has,AC.frz,h,Cg]
 | osub i _ _=>by_cases h:i=x<;>simp[AC.has,AC.frz,h,Cg]
 | pe i _ _=>by_cases h:i=x<;>simp[AC.has,AC.frz,h,Cg]
 | _=>exact .inr (.inr ⟨rfl,rfl⟩)
def CRels.get{X:Cx}:∀{i:W} {cs:N AC} {vs:N Value} {c:AC},CRels X cs vs->cs[i]?=G c->∃v,vs[i]?=G v/\CRel X c v:=fun H hc=>H.pre.get hc
def CRels.set{X:Cx}:∀{i:W} {cs:N AC} {vs:N Value} {c:AC} {v:Value},CRels X cs vs->vs[i]?=G v->CRel X c v->CRels X (cs.set i c) vs
 | _,_,_,_,_,.nil,hv,_=>by simp at hv
 | 0,_,_,_,_,.cons a b,hv,hc=>by simp at hv; subst hv; exact .cons hc b
 | i+1,_,_,_,_,.cons a b,hv,hc=>by simp at hv; exact .cons a (b.set hv hc)
def AOp.idle:AOp->V
 | .drop _ | .own .. | .ownb .. | .ren .. | .frz _ | .frzb _ | .forget _ | .keep .. | .cut _=>T
 | _=>E
def Rel.forgot(R:Rel A B w0 nm M tmps w)(gs:N W):Rel A B w0 nm {M with bx:=M.bx.filter fun p=> !gs.contains p.1,rows:=M.rows.filter fun p=> !gs.contains (p.1 / 64)} tmps w:=by
 have R1:Rel A B w0 nm {M with rows:=M.rows.filter fun p=> !gs.contains (p.1 / 64)} tmps w:=by
  refine R.carry (f:=fun c=>c) R.below R.size R.names R.inj (fun _ _=>rfl) (fun k=>by rw[AV.mapId]; rfl) (fun id=>by simp) (fun id cs _ b hb=>⟨hb,J⟩) (fun c v _ hrel=> ?_);refine hrel.move (fun b C h=>h) (fun id _=> ?_) (fun id _ b hb=>hb);show A1 (M.rows.filter fun p=> !gs.contains (p.1 / 64)) id=L\/_
  rw[Ue (p:=fun k=> !gs.contains (k / 64))];split
  .exact .inr ⟨by show A1 (M.rows.filter fun p=> !gs.contains (p.1 / 64)) id=_; rw[Ue (p:=fun k=> !gs.contains (k / 64))]; rename_i h; rw[if_pos h]; rfl,J,fun b _=>rfl⟩
  .exact .inl J
 exact⟨R1.below,R1.size,R1.all,R1.good,R1.names,R1.inj,R1.pin,R1.env,fun id cs h=>R1.bxs id cs (Pq (p:=fun k=> !gs.contains k) h).2⟩
def Pr{α:Type}(l:N (W × α))(k:W):∀ks:N W,A1 (Cr l ks) k=if k∈ks then A1 l k else L
 | []=>by simp[Cr,A1]
 | j::ks=>by
  have ih:=Pr l k ks;unfold Cr;split
  .rename_i v hv
   by_cases h:j=k
   .subst h; simp[A1,hv]
   .have h2:(j==k)=E:=by simpa using h
    have h3:¬k=j:=fun e=>h e.symm
    simp only[A1,h2,cond_false,ih,yJ,h3,false_or]
  .rename_i hv
   by_cases h:j=k
   .subst h; simp[ih,hv]
   .have h3:¬k=j:=fun e=>h e.symm
    simp only[ih,yJ,h3,false_or]
def Rel.kept(R:Rel A B w0 nm M tmps w)(ks bs rs:N W):Rel A B w0 nm (M.kept ks bs rs) tmps w:=by
 have R1:Rel A B w0 nm {M with rows:=Cr M.rows rs} tmps w:=by
  refine R.carry (f:=fun c=>c) R.below R.size R.names R.inj (fun _ _=>rfl) (fun k=>by rw[AV.mapId]; rfl) (fun id=>by simp) (fun id cs _ b hb=>⟨hb,J⟩) (fun c v _ hrel=> ?_);refine hrel.move (fun b C h=>h) (fun id _=> ?_) (fun id _ b hb=>hb);show A1 (Cr M.rows rs) id=L\/_
  rw[Pr];split
  .exact .inr ⟨by show A1 (Cr M.rows rs) id=_; rw[Pr]; rename_i h; rw[if_pos h]; rfl,J,fun b _=>rfl⟩
  .exact .inl J
 refine⟨R1.below,R1.size,R1.all,R1.good,R1.names,R1.inj,R1.pin,fun k=> ?_,fun id cs h=>R1.bxs id cs ?_⟩
 .have e:(M.kept ks bs rs).get k=if k∈ks then M.get k else .undef:=by
   unfold St.get St.kept;simp only[Pr];split<;>rfl
  rw[e];split
  .exact R1.env k
  .exact .undef
 .have h2:A1 (Cr M.bx bs) id=G cs:=h;rw[Pr] at h2
  split at h2
  .exact h2
  .cases h2
def So(R:Rel A B w0 nm M tmps w){o:AOp}{M':St}(hi:o.idle=T)(hs:M.step o=G M'):∃nm',Rel A B w0 nm' M' tmps w:=by
 cases o<;>try (simp[AOp.idle] at hi; done)
 case drop ks=>
  simp only[St.step,zA] at hs
  subst hs;exact⟨nm,R.dropped ks⟩
 case keep ks bs rs=>
  simp only[St.step,zA] at hs
  subst hs;exact⟨nm,R.kept ks bs rs⟩
 case forget gs=>
  simp only[St.step,zA] at hs
  subst hs;exact⟨nm,R.forgot gs⟩
 case own d j id sz=>
  simp only[St.step] at hs
  split at hs
  .cases hs
  .rename_i hh
   have F3:M.has id=E/\id / 99999999999=0:=by simpa using hh
   obtain⟨hh',hid⟩:=F3;obtain⟨R1,hrow⟩:=R.nilRow (sz:=sz) hh' hid;have he:=R1.env d;split at hs
   .rename_i hg
    split at hs
    .cases hs;refine⟨_,R1.reput ?_⟩;rw[show({M with rows:=Vi.put M.rows id (sz,[])}:St).get d=M.get d from rfl,hg] at he
     have hc:=he.inv_sc;generalize tmps.getD d undef=v at *
     cases hc;exact Bs hrow
    .cases hs
   .rename_i cs hg
    split at hs
    .rename_i hj
     cases hs;refine⟨_,R1.reput ?_⟩;rw[show({M with rows:=Vi.put M.rows id (sz,[])}:St).get d=M.get d from rfl,hg] at he
     obtain⟨vs,hvs,hcs⟩:=he.inv_ag;obtain⟨v,hv,hc⟩:=hcs.get hj;rw[hvs];refine .v (.ag (hcs.set hv ?_));cases hc;exact hrow
    .cases hs
   .cases hs
 case ownb b j id sz=>
  simp only[St.step] at hs
  split at hs
  .cases hs
  .rename_i hh
   have F3:M.has id=E/\id / 99999999999=0:=by simpa using hh
   obtain⟨hh',hid⟩:=F3;obtain⟨R1,hrow⟩:=R.nilRow (sz:=sz) hh' hid;split at hs
   .rename_i cs hg
    split at hs
    .rename_i hj
     cases hs;obtain⟨blk,C,t,h1,h2,h3⟩:=R1.bxs b cs hg;obtain⟨v,hv,hc⟩:=h3.get hj;refine⟨_,R1.bput ⟨blk,C,t,h1,h2,h3.set hv ?_⟩⟩;cases hc;exact hrow
    .cases hs
   .cases hs
 case cut d=>
  simp only[St.step] at hs
  split at hs
  .rename_i id h hg
   split at hs
   rotate_left
   .cases hs
   rename_i hid
   split at hs
   .rename_i sz es hf
    split at hs
    rotate_left
    .cases hs
    rename_i hle
    cases hs;have he:=R.env d;rw[hg] at he
    have hc:=he.inv_sc;generalize hv:tmps.getD d undef=v at *
    have R1:Rel A B w0 nm {(M.map (AC.kill id)) with rows:=Vi.put M.rows id (sz,es.take h)} tmps w:=by
     refine R.carry (f:=AC.kill id) R.below R.size R.names R.inj (fun _ _=>rfl) (fun k=>St.get_map) (fun k=>HL) (fun k cs _ b hb=>⟨hb,J⟩) (fun c v hc hr=> ?_);rcases SG c id with ⟨_,hk⟩|⟨hn,hk⟩
     .rw[hk]; exact .undef hr.one
     .rw[hk];refine hr.move (fun _ _ h=>h) (fun j hj=> .inr ?_) (fun j _ b hb=>hb);have hne:j≠id:=fun e=>by subst e; rw[hn] at hj; cases hj
      exact⟨Bn _ _ hne,J,fun _ _=>rfl⟩
    refine⟨nm,R1.reput ?_⟩;rw[hv];rcases hc.inv_osub hf with ⟨rfl,_,rfl,h3,a0,rfl⟩|⟨b,cap,cap',off,h1,h2,h3,h4,⟨_,h5⟩,h6,h7,rfl⟩
    .exact Bs (.ownNil (Bm _ _ _) h3)
    .obtain⟨rfl,rfl⟩:=h5 rfl;obtain⟨k1,k2,k3,C,t,k4,k5,k6⟩:=h2;exact Bs (.own (Bm _ _ _) h1 ⟨k1,d3,k3,C,t,k4,k5,k6.takeRows h⟩ d3)
   .cases hs
  .cases hs
 case ren x y=>
  simp only[St.step] at hs
  split at hs
  .cases hs
  .rename_i hh
   have F3:M.has y=E/\x / 99999999999=0/\y / 99999999999=0:=by simpa using hh
   obtain⟨hh',hix,hiy⟩:=F3;split at hs
   .rename_i r hg
    cases hs;let nm':Ac:=fun n=>if n=2*y+1 then nm (2*x+1) else if n=2*x+1 then L else nm n
    refine⟨nm',R.carry (f:=AC.ren x y) R.below R.size (fun i b hb=> ?_) (fun i j b hi hj=> ?_) (fun i hp=>by simp only[nm']; unfold AG at hp; rw[if_neg a9,if_neg a9]) (fun k=>St.get_map) (fun k=>HL) (fun k cs _ b hb=>⟨?_,J⟩) (fun c v hc hr=> ?_)⟩
    .simp only[nm'] at hb
     split at hb
     .exact R.names _ b hb
     .split at hb
      .cases hb
      .exact R.names i b hb
    .simp only[nm'] at hi hj
     split at hi<;>split at hj
     .omega
     .split at hj
      .cases hj
      .have:=R.inj _ _ _ hi hj; omega
     .split at hi
      .cases hi
      .have:=R.inj _ _ _ hi hj; omega
     .split at hi
      .cases hi
      .split at hj
       .cases hj
       .exact R.inj i j b hi hj
    .simp only[nm'];rw[if_neg a9,if_neg a9];exact hb
    .have hview:∀b C,A9 A nm w b C->A9 A nm' w b C:=CW fun b _ hn=>⟨fun i=>by
      simp only[nm'];split
      .exact hn _
      .split
       .simp
       .exact hn i,J⟩
     have hy:=St.has_uses hh' hc;rcases A3a c x y with hx|⟨hx,he⟩
     .refine hr.renamed hx ?_ ?_ hview J
      .show A1 (put (erase M.rows [x]) y r) y=A1 M.rows x
       rw[Bm,hg]
      .show nm' (2*y+1)=nm (2*x+1)
       simp only[nm',if_true]
     .rw[he];refine hr.move hview (fun j hj=> .inr ?_) (fun j _ b hb=> ?_)
      .have hjx:j≠x:=fun e=>by subst e; rw[hx] at hj; cases hj
       have hjy:j≠y:=fun e=>by subst e; rw[hy] at hj; cases hj
       refine⟨?_,?_,fun _ _=>rfl⟩
       .show A1 (put (erase M.rows [x]) y r) j=A1 M.rows j
        rw[Bn _ _ hjy,HK,if_neg (by simpa using hjx)]
       .show nm' (2*j+1)=nm (2*j+1)
        simp only[nm'];rw[if_neg a9,if_neg a9]
      .show nm' (2*j)=G b
       simp only[nm'];rw[if_neg a9,if_neg a9];exact hb
   .cases hs
 case frz id=>
  simp only[St.step] at hs
  split at hs
  .cases hs
  rename_i hid0
  have hid:id / 99999999999=0:=by simpa using hid0
  split at hs
  .rename_i sz es hg
   cases hs;let nm':Ac:=fun n=>if n=2*id+1 then L else nm n
   have hview:∀b C,A9 A nm w b C->A9 A nm' w b C:=CW fun b _ hn=>⟨fun i=>by
    simp only[nm'];split
    .simp
    .exact hn i,J⟩
   refine⟨nm',R.carry (f:=AC.frz id es) R.below R.size (fun i b hb=> ?_) (fun i j b hi hj=> ?_) (fun i hp=>by simp only[nm']; unfold AG at hp; rw[if_neg a9]) (fun k=>St.get_map) (fun k=>HL) (fun k cs _ b hb=>⟨?_,J⟩) (fun c v hc hr=> ?_)⟩
   .simp only[nm'] at hb
    split at hb
    .cases hb
    .exact R.names i b hb
   .simp only[nm'] at hi hj
    split at hi
    .cases hi
    .split at hj
     .cases hj
     .exact R.inj i j b hi hj
   .simp only[nm'];rw[if_neg a9];exact hb
   .rcases tf c id es with rfl|⟨_,he⟩|⟨hx,he⟩
    .simp only[AC.frz,beq_self_eq_true,cond_true];refine .dat ?_;rcases hr.inv_own hg with ⟨rfl,_,a0,rfl⟩|⟨b,cap,hb,own,rfl⟩
     .exact .nil
     .obtain⟨h1,h2,h3,C,t,h4,_,h6⟩:=own
      have hv:A9 A nm' w b C.toList:=⟨fun i=>by
       simp only[nm'];split
       .simp
       .rename_i hne; exact fun e=>hne (R.inj _ _ _ e hb),C,t,_,R.all.all b (R.mine (by unfold AG; omega) hb),h4,rfl⟩
      exact .sl (off:=0) hv h1 (by rw[yB]; exact h6.mono hview) J h2 h3
    .rw[he]; exact .undef hr.one
    .rw[he];refine hr.move hview (fun j hj=> .inr ?_) (fun j _ b hb=> ?_)
     .have hjx:j≠id:=fun e=>by subst e; rw[hx] at hj; cases hj
      refine⟨?_,?_,fun _ _=>rfl⟩
      .show A1 (erase M.rows [id]) j=A1 M.rows j
       rw[HK,if_neg (by simpa using hjx)]
      .show nm' (2*j+1)=nm (2*j+1)
       simp only[nm'];rw[if_neg a9]
     .show nm' (2*j)=G b
      simp only[nm'];rw[if_neg a9];exact hb
  .cases hs;exact⟨nm,R⟩
 case frzb id=>
  simp only[St.step] at hs
  split at hs
  .cases hs
  rename_i hid0
  have hid:id / 99999999999=0:=by simpa using hid0
  split at hs
  .rename_i cs hg
   split at hs
   .rename_i ds hds
    cases hs;let nm':Ac:=fun n=>if n=2*id then L else nm n
    have hview:∀b C,A9 A nm w b C->A9 A nm' w b C:=CW fun b _ hn=>⟨fun i=>by
     simp only[nm'];split
     .simp
     .exact hn i,J⟩
    have R0:Rel A B w0 nm {M with bx:=erase M.bx [id]} tmps w:=⟨R.below,R.size,R.all,R.good,R.names,R.inj,R.pin,R.env,fun k cs2 h=>by
     have h2:A1 (erase M.bx [id]) k=G cs2:=h;rw[HK] at h2
     split at h2
     .cases h2
     .exact R.bxs k cs2 h2⟩
    obtain⟨b0,C0,t0,q1,q2,q3⟩:=R.bxs id cs hg
    have hv0:A9 A nm' w b0 C0.toList:=⟨fun i=>by
     simp only[nm'];split
     .simp
     .rename_i hne; exact fun e=>hne (R.inj _ _ _ e q1),C0,t0,_,R.all.all b0 (R.mine (by unfold AG; omega) q1),q2,rfl⟩
    have hreps:Reps (A9 A nm' w) ds C0.toList:=(ML (X:=cx A nm M w) q3 hds).1.mono hview;refine⟨nm',R0.carry (f:=AC.frzb id ds) R.below R.size (fun i b hb=> ?_) (fun i j b hi hj=> ?_) (fun i hp=>by simp only[nm']; unfold AG at hp; rw[if_neg a9]) (fun k=>St.get_map) (fun k=>HL) (fun k cs2 hk b hb=>⟨?_,J⟩) (fun c v hc hr=> ?_)⟩
    .simp only[nm'] at hb
     split at hb
     .cases hb
     .exact R.names i b hb
    .simp only[nm'] at hi hj
     split at hi
     .cases hi
     .split at hj
      .cases hj
      .exact R.inj i j b hi hj
    .have hk2:A1 (erase M.bx [id]) k=G cs2:=hk;rw[HK] at hk2
     have hkx:k≠id:=fun e=>by subst e; rw[if_pos d0] at hk2; cases hk2
     simp only[nm'];rw[if_neg a9];exact hb
    .have keep:(∀j,c.hasB j=T->j≠id)->CRel (cx A nm' (({M with bx:=erase M.bx [id]}:St).map (AC.frzb id ds)) w) c v:=fun hno=>by
      refine hr.move hview (fun j hj=> .inr ⟨J,?_,fun _ _=>rfl⟩) (fun j hj b hb=> ?_)
      .show nm' (2*j+1)=nm (2*j+1)
       simp only[nm'];rw[if_neg a9]
      .show nm' (2*j)=G b
       simp only[nm'];have:=hno j hj;rw[if_neg a9];exact hb
     cases c with
     | pb i off=>
      by_cases hi:i=id
      .subst hi;simp only[AC.frzb,beq_self_eq_true,cond_true];cases hr with | pb hb=>
       have hb':nm (2*i)=G _:=hb;have e3:=zN (hb'.symm.trans q1);subst e3;exact .dat (.pd hv0 (hreps.drop off))
      .have e:(i==id)=E:=by simpa using hi
       simp only[AC.frzb,e,cond_false];exact keep fun j hj=>by simp only[AC.hasB,beq_iff_eq] at hj; omega
     | clo f ids=>
      cases hc2:ids.contains id with
      | true=>
       simp only[AC.frzb,hc2,cond_true];exact .undef hr.one
      | false=>
       simp only[AC.frzb,hc2,cond_false]
       exact keep fun j hj e=>by
        subst e;simp only[AC.hasB,yE,beq_iff_eq,exists_eq_right] at hj
        simp at hc2
        exact hc2 hj
     | ipb t i=>
      by_cases hi:i=id
      .subst hi;simp only[AC.frzb,beq_self_eq_true,cond_true];exact .undef hr.one
      .have e:(i==id)=E:=by simpa using hi
       simp only[AC.frzb,e,cond_false];exact keep fun j hj=>by simp only[AC.hasB,beq_iff_eq] at hj; omega
     | _=>exact keep fun j hj=>by simp[AC.hasB] at hj
   .cases hs
  .cases hs
end
end
section
def Al(A:B9)(w:World):A6:=fun b C=>∃c t fr,A b fr/\w.heap[b]?=G (.cells c t fr)/\c.toList=C
inductive DVRel (h:A6):DV->Value->Prop
 | sc {d v}:Rep h d v->DVRel h (.sc d) v
 | ag {ds vs}:Reps h ds vs->ds.length=vs.length->DVRel h (.ag ds) (.agg vs.toArray)
inductive DVRels (h:A6):N DV->N Value->Prop
 | nil:DVRels h [] []
 | cons {d v ds vs}:DVRel h d v->DVRels h ds vs->DVRels h (d::ds) (v::vs)
inductive RCRel (h:A6) (w:World):RC->Value->O W->Prop
 | v {d v}:Rep h d v->RCRel h w (.v d) v L
 | nil {sz a}:RCRel h w (.o sz []) (.slice a 0 0) L
 | o {sz es b cap len}:OwnB h w b sz cap es->len=es.length->RCRel h w (.o sz es) (.slice (G ⟨b,0,L⟩) len cap) (G b)
inductive RCRels (h:A6) (w:World):N RC->N Value->N (O W)->Prop
 | nil:RCRels h w [] [] []
 | cons {c v b cs vs bs}:RCRel h w c v b->RCRels h w cs vs bs->RCRels h w (c::cs) (v::vs) (b::bs)
inductive R1Rel (h:A6) (w:World):R1->Value->N (O W)->Prop
 | sc {c v b}:RCRel h w c v b->R1Rel h w (.sc c) v [b]
 | ag {cs vs bs}:RCRels h w cs vs bs->R1Rel h w (.ag cs) (.agg vs.toArray) bs
inductive R1Rels (h:A6) (w:World):N R1->N Value->N (O W)->Prop
 | nil:R1Rels h w [] [] []
 | cons {c v b cs vs bs}:R1Rel h w c v b->R1Rels h w cs vs bs->R1Rels h w (c::cs) (v::vs) (b++bs)
inductive RRel (h:A6) (w:World):N R1->Value->N (O W)->Prop
 | one {r v bs}:R1Rel h w r v bs->RRel h w [r] v bs
 | many {rs vs bs}:rs.length≠1->R1Rels h w rs vs bs->RRel h w rs (.tuple vs.toArray) bs
def FC(P:Program)(f:FuncId)(ds:N DV)(rs:N R1):Prop:=
 ∀(w:World) (A:B9) (vs:N Value),GoodW w->DVRels (Al A w) ds vs->Calls P f vs.toArray w fun e w'=>
  ∃(v:Value) (bs:N (O W)),e= .returned v/\RowKit.Below w.heap.size w w'/\RRel (Al (fun b fr=>G b∉bs/\((w.heap.size<=b/\fr=(0,0))\/A b fr)) w') w' rs v bs/\
   (∀b,G b∈bs->w.heap.size<=b/\b<w'.heap.size)/\(∀(i j b:W),bs[i]?=G (G b)->bs[j]?=G (G b)->i=j)
def FCf(P:Program)(f:FuncId)(ds:N DV)(rs:N R1):Prop:=
 ∀(w:World) (A:B9) (vs:N Value),GoodW w->DVRels (Al A w) ds vs->Calls P f vs.toArray w fun e w'=>
  ∃(v:Value) (bs:N (O W)),e= .returned v/\RowKit.Below w.heap.size w w'/\RRel (Al (fun b fr=>G b∉bs/\((w.heap.size<=b/\fr=(0,0))\/False)) w') w' rs v bs/\
   (∀b,G b∈bs->w.heap.size<=b/\b<w'.heap.size)/\(∀(i j b:W),bs[i]?=G (G b)->bs[j]?=G (G b)->i=j)
def MR(P:Program)(f:FuncId)(ds:N DV)(pd:D):Prop:=
 ∀(w:World) (A:B9) (vs:N Value),GoodW w->DVRels (Al A w) ds vs->Calls P f vs.toArray w fun e w'=>
  ∃v:Value,e= .panicked [{v:=v,recovered:=false }]/\RowKit.Below w.heap.size w w'/\Rep (fun _ _=>False) pd v
def D.flat1:D->V
 | .int .. | .bool _ | .str _=>T
 | _=>E
def D.flat:D->V
 | .int .. | .bool _ | .str _=>T
 | .ifs _ cs=>cs.all D.flat1
 | _=>E
def RC.flat:RC->Prop
 | .v d=>d.flat=T
 | .o _ es=>∀r∈es,∀d∈r,d.flat=T
def CB(rs:N R1):Prop:=∀c∈rs.flatMap R1.cells,c.flat
def Rep.flat1{h h':A6}{d:D}{v:Value}(H:Rep h d v)(hf:d.flat1=T):Rep h' d v:=by
 cases H<;>first
  | exact .bool
  | (cases hf; done)
  | skip
 case int a b=>exact .int a b
 case str a=>exact .str a
def Reps.flat1{h h':A6}:∀{ds:N D} {vs:N Value},Reps h ds vs->ds.all D.flat1=T->Reps h' ds vs
 | _,_,.nil,_=> .nil
 | _,_,.cons a b,H=>by
  simp only[List.all_cons,zI] at H
  exact .cons (a.flat1 H.1) (b.flat1 H.2)
def Rep.flat{h h':A6}{d:D}{v:Value}(H:Rep h d v)(hf:d.flat=T):Rep h' d v:=by
 cases H<;>first
  | exact .bool
  | (cases hf; done)
  | skip
 case int a b=>exact .int a b
 case str a=>exact .str a
 case ifs a b=>exact .ifs (a.flat1 hf) b
def Reps.flat{h h':A6}:∀{ds:N D} {vs:N Value},Reps h ds vs->(∀d∈ds,d.flat=T)->Reps h' ds vs
 | _,_,.nil,_=> .nil
 | _,_,.cons a b,H=> .cons (a.flat (H _ d0)) (b.flat fun d hd=>H d (by simp[hd]))
def RepRows.flat{h h':A6}{sz:W}:∀{es:N (N D)} {vs:N Value},RepRows h sz es vs->(∀r∈es,∀d∈r,d.flat=T)->RepRows h' sz es vs
 | _,_,.nil,_=> .nil
 | _,_,.cons a b c,H=> .cons a (b.flat (H _ d0)) (c.flat fun r hr=>H r (by simp[hr]))
def KA:AV->O DV
 | .v (.sc c)=>(Fo c).map .sc
 | .v (.ag cs)=>(D7 cs).map .ag
 | _=>L
def St.toIVs(M:St):N Opd->O (N DV)
 | []=>G []
 | x::xs=>match KA (M.val x),M.toIVs xs with
  | some d,G ds=>G (d::ds)
  | _,_=>L
section
variable {P : Program} {A : Ar} {B : W} {w0 : Base} {w : World} {nm : Ac} {M : St} {a : Act}
def GO{b:W}{C:N Value}(h:A9 A nm w b C):B7 w b C:=A7a h
def Wp{b:W}{C:N Value}(h:B7 w b C):Al (fun _ _=>True) w b C:=by
 obtain⟨c,t,fr,h1,h2⟩:=h;exact⟨c,t,fr,trivial,h1,h2⟩
def dC(R:Rel A B w0 nm M a.tmps w){id off b:W}{d:D}(hb:nm (2*id)=G b)(hd:M.pdOf id off=G d):Rep (B7 w) d (.pointer (G ⟨b,off,L⟩)):=by
 unfold St.pdOf at hd
 split at hd
 .rename_i cs hf
  simp only[I] at hd
  obtain⟨ds,hds,rfl⟩:=hd;obtain⟨b',C,t,h1,h2,h3⟩:=R.bxs id cs hf;have e:b'=b:=zN (h1.symm.trans hb);subst e;exact .pd (C:=C.toList) ⟨C,t,_,h2,J⟩ (VW (X:=cx A nm M w) (fun _ _ h=>GO h) (fun _ _ h=>R.oldAt h) ((h3.pre).drop off) hds).1
 .cases hd
def Vw(R:Rel A B w0 nm M a.tmps w):∀{ids bs:N W} {ds:N D},ids.mapM (fun i=>nm (2*i))=G bs->M.pdsOf ids=G ds->Reps (B7 w) ds (bs.map fun b=>Value.pointer (G ⟨b,0,L⟩))/\ds.length=bs.length
 | [],bs,ds,hb,hd=>by
  simp at hb
  subst hb;simp[St.pdsOf] at hd
  subst hd;exact⟨.nil,J⟩
 | i::ids,bs,ds,hb,hd=>by
  simp only[yH,Option.bind_eq_bind,Option.pure_def] at hb
  cases hn:nm (2*i) with
  | none=>simp[hn] at hb
  | some b=>
   cases hr:ids.mapM (fun i=>nm (2*i)) with
   | none=>simp[hn,hr] at hb
   | some bs'=>
    simp[hn,hr] at hb
    subst hb;simp only[St.pdsOf] at hd
    split at hd
    .rename_i d ds' h1 h2
     cases hd;obtain⟨h3,h4⟩:=Vw R hr h2;exact⟨.cons (dC R hn h1) h3,by simp[h4]⟩
    .cases hd
def A6h(R:Rel A B w0 nm M a.tmps w){c:AC}{v:Value}{d:D}(H:CRel (cx A nm M w) c v)(hd:M.toD c=G d):Rep (B7 w) d v:=by
 cases c with
 | pb id off=>
  cases H with | pb hb=>exact dC R hb hd
 | pe id idx off=>
  simp only[St.toD] at hd
  split at hd
  .rename_i sz es hf
   simp only[I] at hd
   obtain⟨r,hr,rfl⟩:=hd;obtain⟨b,cap,hb,own,hlt,rfl⟩:=H.inv_pe hf;obtain⟨C,hC,hrows⟩:=Vv (fun _ _ h=>GO h) own;obtain⟨h1,h2⟩:=hrows.row hr;have h3:=h2.drop off;rw[zD] at h3
   exact .pd hC h3
  .cases hd
 | clo f ids=>
  simp only[St.toD,I] at hd
  obtain⟨ds,hds,rfl⟩:=hd;cases H with | clo hb=>
  exact .clo (Vw R hb hds).1 (by simpa using(Vw R hb hds).2)
 | undef=>simp[St.toD,toD1,toD0] at hd
 | dat d'=>exact Kz (X:=cx A nm M w) (fun _ _ h=>GO h) (fun _ _ h=>R.oldAt h) H hd
 | own id=>exact Kz (X:=cx A nm M w) (fun _ _ h=>GO h) (fun _ _ h=>R.oldAt h) H hd
 | osub id lo hi=>exact Kz (X:=cx A nm M w) (fun _ _ h=>GO h) (fun _ _ h=>R.oldAt h) H hd
 | nil=>exact Kz (X:=cx A nm M w) (fun _ _ h=>GO h) (fun _ _ h=>R.oldAt h) H hd
 | old d'=>exact Kz (X:=cx A nm M w) (fun _ _ h=>GO h) (fun _ _ h=>R.oldAt h) H hd
 | vol=>simp[St.toD,toD1,toD0] at hd
 | nw=>simp[St.toD,toD1,toD0] at hd
 | mix d'=>exact Kz (X:=cx A nm M w) (fun _ _ h=>GO h) (fun _ _ h=>R.oldAt h) H hd
 | z=>simp[St.toD,toD1,toD0] at hd
 | ipb=>simp[St.toD,toD1,toD0] at hd
def VY(R:Rel A B w0 nm M a.tmps w){av:AV}{v:Value}{d:DV}(H:VRel (cx A nm M w) av v)(hd:M.toDV av=G d):DVRel (B7 w) d v:=by
 unfold St.toDV at hd
 split at hd
 .simp only[I] at hd
  obtain⟨d',h1,rfl⟩:=hd;exact .sc (A6h R H.inv_sc h1)
 .simp only[I] at hd
  obtain⟨ds,h1,rfl⟩:=hd;obtain⟨vs,rfl,hcs⟩:=H.inv_ag;obtain⟨h2,h3⟩:=VW (X:=cx A nm M w) (fun _ _ h=>GO h) (fun _ _ h=>R.oldAt h) hcs.pre h1;exact .ag h2 (h3.trans hcs.length)
 .cases hd
def MK{X:Cx}{av:AV}{v:Value}{d:DV}(H:VRel X av v)(hd:KA av=G d):DVRel X.h d v:=by
 unfold KA at hd
 split at hd
 .simp only[I] at hd
  obtain⟨d',h1,rfl⟩:=hd;exact .sc (fC H.inv_sc h1)
 .simp only[I] at hd
  obtain⟨ds,h1,rfl⟩:=hd;obtain⟨vs,rfl,hcs⟩:=H.inv_ag;obtain⟨h2,h3⟩:=ML hcs h1;exact .ag h2 (h3.trans hcs.length)
 .cases hd
def DVRel.mono{h h':A6}(hh:∀b C,h b C->h' b C){d:DV}{v:Value}(H:DVRel h d v):DVRel h' d v:=by
 cases H with
 | sc a=>exact .sc (a.mono hh)
 | ag a b=>exact .ag (a.mono hh) b
def DVRels.mono{h h':A6}(hh:∀b C,h b C->h' b C):∀{ds vs},DVRels h ds vs->DVRels h' ds vs
 | _,_,.nil=> .nil
 | _,_,.cons a b=> .cons (a.mono hh) (b.mono hh)
def DVRels.append{h:A6}:∀{ds vs ds' vs'},DVRels h ds vs->DVRels h ds' vs'->DVRels h (ds++ds') (vs++vs')
 | _,_,_,_,.nil,H=>H
 | _,_,_,_,.cons a b,H=> .cons a (b.append H)
def DVRels.of_reps{h:A6}:∀{ds vs},Reps h ds vs->ds.length=vs.length->DVRels h (ds.map .sc) vs
 | [],vs,_,hl=>by
  obtain rfl:vs= []:=zG.1 (by simpa using hl.symm);exact .nil
 | _,_,.cons a b,hl=> .cons (.sc a) (.of_reps b (by simpa using hl))
def T5(R:Rel A B w0 nm M a.tmps w):∀{xs:N Operand} {ys:N Opd} {ds:N DV},C8 xs=G ys->M.toDVs ys=G ds->DVRels (B7 w) ds (xs.map a.eval)
 | [],ys,ds,hy,hd=>by simp[C8] at hy; subst hy; simp[St.toDVs] at hd; subst hd; exact .nil
 | x::xs,ys,ds,hy,hd=>by
  simp only[C8] at hy
  split at hy
  .rename_i y ys' h1 h2
   cases hy;simp only[St.toDVs] at hd
   split at hd
   .rename_i d ds' h3 h4
    cases hd;exact .cons (VY R (Ax R h1) h3) (T5 R h2 h4)
   .cases hd
  .cases hy
def VZ(R:Rel A B w0 nm M a.tmps w):∀{xs:N Operand} {ys:N Opd} {ds:N DV},C8 xs=G ys->M.toIVs ys=G ds->DVRels (A9 A nm w) ds (xs.map a.eval)
 | [],ys,ds,hy,hd=>by simp[C8] at hy; subst hy; simp[St.toIVs] at hd; subst hd; exact .nil
 | x::xs,ys,ds,hy,hd=>by
  simp only[C8] at hy
  split at hy
  .rename_i y ys' h1 h2
   cases hy;simp only[St.toIVs] at hd
   split at hd
   .rename_i d ds' h3 h4
    cases hd;exact .cons (MK (X:=cx A nm M w) (Ax R h1) h3) (VZ R h2 h4)
   .cases hd
  .cases hy
end
inductive XC where
 | d (x:D)
 | r (j:W)
inductive XV where
 | sc (c:XC)
 | ag (cs:N XC)
abbrev Ao:=N (W × N (N D))
inductive Xq (w:World) (bs:N (O W)) (R:Ao):XC->Value->Prop
 | d {x v}:Rep BP x v->Xq w bs R (.d x) v
 | nil {j sz a}:R[j]?=G (sz,[])->bs[j]?=G L->Xq w bs R (.r j) (.slice a 0 0)
 | r {j sz es b cap len}:R[j]?=G (sz,es)->bs[j]?=G (G b)->OwnB BP w b sz cap es->len=es.length->Xq w bs R (.r j) (.slice (G ⟨b,0,L⟩) len cap)
inductive Xp (w:World) (bs:N (O W)) (R:Ao):N XC->N Value->Prop
 | nil:Xp w bs R [] []
 | cons {c v cs vs}:Xq w bs R c v->Xp w bs R cs vs->Xp w bs R (c::cs) (v::vs)
inductive Xr (w:World) (bs:N (O W)) (R:Ao):XV->Value->Prop
 | sc {c v}:Xq w bs R c v->Xr w bs R (.sc c) v
 | ag {cs vs}:Xp w bs R cs vs->Xr w bs R (.ag cs) (.agg vs.toArray)
inductive Xo (w:World) (bs:N (O W)) (R:Ao):N XV->N Value->Prop
 | nil:Xo w bs R [] []
 | cons {x v xs vs}:Xr w bs R x v->Xo w bs R xs vs->Xo w bs R (x::xs) (v::vs)
def Xo.len{w:World}{bs:N (O W)}{R:Ao}:∀{xs vs},Xo w bs R xs vs->xs.length=vs.length
 | _,_,.nil=>rfl
 | _,_,.cons _ b=>by simp[b.len]
def Bg(bs:N (O W)):Ac:=fun i=>if AG<=i/\(i - AG) % 2=1 then(bs[(i - AG) / 2]?).join else L
def HY{bs:N (O W)}{i b:W}(h:Bg bs i=G b):∃j,i=AG+2*j+1/\bs[j]?=G (G b):=by
 unfold Bg at h;split at h
 .rename_i hc
  refine⟨(i - AG) / 2,a9,?_⟩;cases hb:bs[(i - AG) / 2]? with
  | none=>simp[hb] at h
  | some o=>simp[hb] at h; rw[h]
 .cases h
def MB{bs:N (O W)}{j:W}{o:O W}(h:bs[j]?=G o):Bg bs (AG+2*j+1)=o:=by
 unfold Bg;rw[if_pos a9,show(AG+2*j+1 - AG) / 2=j by omega,h];rfl
def FCx(P:Program)(f:FuncId)(xs:N XV)(R0 R1:Ao)(r:D):Prop:=
 ∀(w:World) (vs:N Value) (bs:N (O W)),bs.length=R0.length->(∀(i j b:W),bs[i]?=G (G b)->bs[j]?=G (G b)->i=j)->(∀b,G b∈bs->b<w.heap.size)->
  (∀w2,BelowX w.heap.size (.of w (Bg bs)) w2->GoodW w2)->Xo w bs R0 xs vs->Calls P f vs.toArray w fun e w'=>
   ∃v,e= .returned v/\BelowX w.heap.size (.of w (Bg bs)) w'/\Rep BP r v/\∀(j b:W),bs[j]?=G (G b)->∃sz es cap,R1[j]?=G (sz,es)/\OwnB BP w' b sz cap es
def DZ:Ao->Ao->V
 | [],[]=>T
 | (z,es)::r,(z',es')::r'=>(z==z')&&((es.length==es'.length)&&DZ r r')
 | _,_=>E
def dj:∀{R R':Ao},DZ R R'=T->∀{j z:W} {es:N (N D)},R[j]?=G (z,es)->∃es',R'[j]?=G (z,es')/\es'.length=es.length
 | [],[],_,j,z,es,h=>by simp at h
 | [],_::_,h,_,_,_,_=>by simp[DZ] at h
 | _::_,[],h,_,_,_,_=>by simp[DZ] at h
 | (a,e)::r,(a',e')::r',h,j,z,es,hj=>by
  simp only[DZ,zI,beq_iff_eq] at h;obtain⟨h1,h2,h3⟩:=h;cases j with
  | zero=>
   simp only[List.getElem?_cons_zero,zA,zB] at hj
   obtain⟨rfl,rfl⟩:=hj;exact⟨e',by simp[h1],h2.symm⟩
  | succ j=>
   simp only[zS] at hj ⊢
   exact dj h3 hj
def Fg(id:W):N W->O W
 | []=>L
 | k::r=>bif k==id then G 0 else(Fg id r).map (· + 1)
def SX{id:W}:∀{l:N W} {j:W},Fg id l=G j->l[j]?=G id
 | [],_,h=>by simp[Fg] at h
 | k::r,j,h=>by
  unfold Fg at h;by_cases hk:k=id
  .simp[hk] at h; subst h; simp[hk]
  .have h':(k==id)=E:=by simpa using hk
   simp only[h',cond_false,I] at h;obtain⟨j',h1,rfl⟩:=h;simpa using SX h1
def MP(ids:N W):AC->O XC
 | .own id=>(Fg id ids).map .r
 | .dat d=>bif d.flat then G (.d d) else L
 | _=>L
def QC(ids:N W):N AC->O (N XC)
 | []=>G []
 | c::cs=>match MP ids c,QC ids cs with
  | some x,G xs=>G (x::xs)
  | _,_=>L
def W5(ids:N W):AV->O XV
 | .v (.sc c)=>(MP ids c).map .sc
 | .v (.ag cs)=>(QC ids cs).map .ag
 | _=>L
def St.toXVs(M:St)(ids:N W):N Opd->O (N XV)
 | []=>G []
 | x::xs=>match W5 ids (M.val x),M.toXVs ids xs with
  | some d,G ds=>G (d::ds)
  | _,_=>L
def CF(rs:Rows):N W->O Ao
 | []=>G []
 | id::ids=>match A1 rs id,CF rs ids with
  | some r,G R=>G (r::R)
  | _,_=>L
def Ku{rs:Rows}:∀{ids:N W} {R:Ao},CF rs ids=G R->R.length=ids.length/\∀j:W,R[j]?=ids[j]?.bind (A1 rs)
 | [],R,h=>by simp[CF] at h; subst h; simp
 | id::ids,R,h=>by
  unfold CF at h;split at h
  .rename_i r R' h1 h2
   cases h;obtain⟨k1,k2⟩:=Ku h2;refine⟨by simp[k1],fun j=> ?_⟩;cases j with
   | zero=>simp[h1]
   | succ j=>simpa using k2 j
  .cases h
def CU:Rows->N W->Ao->Rows
 | rs,id::ids,r::R=>CU (put rs id r) ids R
 | rs,_,_=>rs
def SY{id:W}:∀{ids:N W} {R:Ao} {rs:Rows},id∉ids->A1 (CU rs ids R) id=A1 rs id
 | [],R,rs,_=>by cases R<;>rfl
 | _::_,[],_,_=>rfl
 | k::ids,r::R,rs,h=>by
  simp only[yJ,not_or] at h;rw[CU,SY h.2,Bn _ _ h.1]
def VD:∀{ids:N W} {R:Ao} {rs:Rows} {j id:W} {r:W × N (N D)},ids.Nodup->ids[j]?=G id->R[j]?=G r->A1 (CU rs ids R) id=G r
 | [],_,_,j,_,_,_,h,_=>by simp at h
 | _::_,[],_,j,_,_,_,_,h=>by simp at h
 | k::ids,r0::R,rs,j,id,r,hn,h1,h2=>by
  simp only[List.nodup_cons] at hn
  cases j with
  | zero=>
   simp only[List.getElem?_cons_zero,zA] at h1 h2
   subst h1; subst h2;rw[CU,SY hn.1,Bm]
  | succ j=>
   simp only[zS] at h1 h2
   rw[CU];exact VD hn.2 h1 h2
def DJ(R:Ao):Prop:=∀p∈R,∀e∈p.2,∀d∈e,d.flat=T
def St.instX(M:St)(d:W)(ids:N W)(R1:Ao)(r:D):St:={(M.set d (.v (.sc (.dat r)))) with rows:=CU M.rows ids R1}
def St.handedX(M:St)(args:N Opd)(ids:N W)(xs:N XV)(R0 R1:Ao):Prop:=ids.Nodup/\M.toXVs ids args=G xs/\CF M.rows ids=G R0/\DJ R0/\DZ R0 R1=T
def ShV.trans{a b c:Value}(h:ShV a b)(k:ShV b c):ShV a c:=by
 cases h with
 | same=>exact k
 | int h1 h2=>cases k with
  | same=>exact .int h1 h2
  | int k1 k2=>exact .int k1 k2
 | bool=>cases k with
  | same=>exact .bool
  | bool=>exact .bool
 | str h1=>cases k with
  | same=>exact .str h1
  | str k1=>exact .str k1
def ShL.trans:∀{a b c:N Value},ShL a b->ShL b c->ShL a c
 | _,_,_,.nil,.nil=> .nil
 | _,_,_,.cons h hs,.cons k ks=> .cons (h.trans k) (hs.trans ks)
def BelowX.afterY{B:W}{b0 bz:Base}{w w':World}(h:BelowX B b0 w)(hw:bz.w=w)(k:BelowX w.heap.size bz w')(hB:B<=w.heap.size)(hM:∀b,b0.M b->b<w.heap.size)(hn:∀b,bz.M b->B<=b\/b0.M b)(hv:∀b,bz.vv b->(B<=b\/b0.M b)\/b0.vv b):BelowX B b0 w':=by
 subst hw;refine⟨k.os.trans h.os,k.tape.trans h.tape,k.output.trans h.output,zY h.size k.size,fun j hj hm hvv=>(k.block j a9 (fun hmm=> ?_) (fun hmm=> ?_)).trans (h.block j hj hm hvv),fun j hm C t fr hC=> ?_,h.vlt,fun j hvv C t fr hC=> ?_⟩
 .rcases hn j hmm with h1|h1
  .omega
  .exact hm h1
 .rcases hv j hmm with (h1|h1)|h1
  .omega
  .exact hm h1
  .exact hvv h1
 .obtain⟨C1,h1,h2⟩:=h.room j hm C t fr hC;by_cases hx:bz.M j
  .obtain⟨C2,h3,h4⟩:=k.room j hx C1 t fr h1;exact⟨C2,h3,h4.trans h2⟩
  .by_cases hy:bz.vv j
   .obtain⟨C2,h3,h4⟩:=k.shape j hy C1 t fr h1;have:=h4.len;simp only[Array.length_toList] at this
    exact⟨C2,h3,this.trans h2⟩
   .exact⟨C1,(k.block j (hM j hm) hx hy).trans h1,h2⟩
 .obtain⟨C1,h1,h2⟩:=h.shape j hvv C t fr hC
  have hx:¬bz.M j:=fun hx=>by
   rcases hn j hx with h3|h3
   .have:=h.vlt j hvv; omega
   .exact b0.no j hvv h3
  by_cases hy:bz.vv j
  .obtain⟨C2,h3,h4⟩:=k.shape j hy C1 t fr h1;exact⟨C2,h3,h2.trans h4⟩
  .exact⟨C1,(k.block j (DO h1) hx hy).trans h1,h2⟩
def BelowX.afterZ{B:W}{b0 bz:Base}{w w':World}(h:BelowX B b0 w)(hw:bz.w=w)(k:BelowX w.heap.size bz w')(hB:B<=w.heap.size)(hM:∀b,b0.M b->b<w.heap.size)(hn:∀b,bz.M b->B<=b\/b0.M b)(hv:∀b,bz.vv b->B<=b\/b0.vv b):BelowX B b0 w':=h.afterY hw k hB hM hn fun b hb=>(hv b hb).imp .inl id
def BelowX.after{B:W}{b0:Base}{w w':World}{np:Ac}(h:BelowX B b0 w)(k:BelowX w.heap.size (.of w np) w')(hB:B<=w.heap.size)(hM:∀b,b0.M b->b<w.heap.size)(hn:∀i b,np i=G b->B<=b\/b0.M b):BelowX B b0 w':=
 h.afterZ rfl k hB hM (fun b hb=>by
  obtain⟨i,_,e⟩:=Base.of_M hb;exact hn i b e) fun b hb=>hb.elim
end
section
def Bj(rows:Rows):Rows->Rows
 | []=>rows
 | (k,x)::r=>put (Bj rows r) k x
def St.inst(M:St)(d:W)(rs:N R1):St:={(M.set d (BN d rs)) with rows:=Bj M.rows (BI d rs)}
def S3(rows:Rows)(g:W):∀(cs:N RC) (j i sz:W) (es:N (N D)),cs[i]?=G (.o sz es)->A1 (Bj rows (BR g j cs)) (g*64+(j+i))=G (sz,es)
 | [],j,i,sz,es,h=>by simp at h
 | c::cs,j,0,sz,es,h=>by
  simp at h;subst h;simp only[BR,Bj,zR];exact Bm _ _ _
 | c::cs,j,i+1,sz,es,h=>by
  simp at h;have ih:=S3 rows g cs (j+1) i sz es h;rw[show j+1+i=j+(i+1) by omega] at ih
  cases c with
  | v d=>simpa[BR] using ih
  | o sz' es'=>
   simp only[BR,Bj];rw[Bn _ _ a9];exact ih
def S4(rows:Rows)(g:W):∀(cs:N RC) (j id:W),j+cs.length<=64->id / 64≠g->A1 (Bj rows (BR g j cs)) id=A1 rows id
 | [],j,id,_,_=>rfl
 | c::cs,j,id,hl,hg=>by
  simp at hl
  have ih:=S4 rows g cs (j+1) id a9 hg;cases c with
  | v d=>simpa[BR] using ih
  | o sz' es'=>
   simp only[BR,Bj];rw[Bn _ _ a9];exact ih
def Told(X:Cx)(g j:W)(cs:N RC)(bs:N (O W)):Prop:=
 ∀i,(∀sz es,cs[i]?=G (.o sz es)->A1 X.rs (g*64+(j+i))=G (sz,es))/\(∀b,bs[i]?=G b->X.nm (2*(g*64+(j+i))+1)=b)
def Told.tail{X:Cx}{g j:W}{c:RC}{b:O W}{cs:N RC}{bs:N (O W)}(h:Told X g j (c::cs) (b::bs)):Told X g (j+1) cs bs:=by
 intro i;have:=h (i+1);rw[show j+(i+1)=j+1+i by omega] at this
 simpa using this
def be{X:Cx}{g j:W}{c:RC}{v:Value}{b:O W}(h:RCRel X.h X.w c v b)(t1:∀sz es,c= .o sz es->A1 X.rs (g*64+j)=G (sz,es))(t2:X.nm (2*(g*64+j)+1)=b):CRel X (c.inst g j) v:=by
 cases h with
 | v hd=>exact .dat hd
 | nil=>exact .ownNil (t1 _ _ rfl) t2
 | o own hl=>exact .own (t1 _ _ rfl) t2 own hl
def bf{X:Cx}{g:W}:∀{cs:N RC} {vs:N Value} {bs:N (O W)} {j:W},RCRels X.h X.w cs vs bs->Told X g j cs bs->CRels X (Er g j cs) vs
 | _,_,_,_,.nil,_=> .nil
 | _,_,_,j,.cons a b,t=> .cons (be a (fun sz es e=>by have:=(t 0).1 sz es (by simp[e]); simpa using this) (by have:=(t 0).2 _ rfl; simpa using this)) (bf b t.tail)
def RCRels.len{h:A6}{w:World}:∀{cs vs bs},RCRels h w cs vs bs->cs.length=bs.length
 | _,_,_,.nil=>rfl
 | _,_,_,.cons _ b=>by simp[b.len]
def R1Rel.len{h:A6}{w:World}{r:R1}{v:Value}{bs:N (O W)}(H:R1Rel h w r v bs):r.cells.length=bs.length:=by
 cases H with
 | sc _=>rfl
 | ag a=>exact a.len
def R1.width_eq(r:R1):r.width=r.cells.length:=by cases r<;>rfl
def bY{X:Cx}{g j:W}{r:R1}{v:Value}{bs:N (O W)}(H:R1Rel X.h X.w r v bs)(t:Told X g j r.cells bs):V1Rel X (r.inst g j) v:=by
 cases H with
 | sc a=>exact .sc (be a (fun sz es e=>by have:=(t 0).1 sz es (by simp[R1.cells,e]); simpa using this) (by have:=(t 0).2 _ rfl; simpa using this))
 | ag a=>exact .ag (bf a t)
def Told.left{X:Cx}{g j:W}{cs cs':N RC}{bs bs':N (O W)}(h:Told X g j (cs++cs') (bs++bs')):Told X g j cs bs:=by
 intro i;refine⟨fun sz es e=>(h i).1 sz es ?_,fun b e=>(h i).2 b ?_⟩
 .rw[zK (zF.1 e).1]; exact e
 .rw[zK (zF.1 e).1]; exact e
def Told.right{X:Cx}{g j:W}{cs cs':N RC}{bs bs':N (O W)}(h:Told X g j (cs++cs') (bs++bs'))(hl:cs.length=bs.length):Told X g (j+cs.length) cs' bs':=by
 intro i;have:=h (cs.length+i);rw[zJ a9,zJ a9] at this
 rw[show cs.length+i - cs.length=i by omega,show cs.length+i - bs.length=i by omega,show j+(cs.length+i)=j+cs.length+i by omega] at this
 exact this
def bj{X:Cx}{g:W}:∀{rs:N R1} {vs:N Value} {bs:N (O W)} {j:W},R1Rels X.h X.w rs vs bs->Told X g j (rs.flatMap R1.cells) bs->V1Rels X (Dv g j rs) vs
 | _,_,_,_,.nil,_=> .nil
 | _,_,_,j,.cons a b,t=>by
  simp only[zV] at t
  refine .cons (bY a t.left) (bj b ?_);rw[R1.width_eq];exact t.right a.len
def UY{X:Cx}{g:W}{rs:N R1}{v:Value}{bs:N (O W)}(H:RRel X.h X.w rs v bs)(t:Told X g 0 (rs.flatMap R1.cells) bs):VRel X (BN g rs) v:=by
 cases H with
 | one a=>exact .v (bY a (by simpa using t))
 | many hl a=>
  have e:BN g rs= .tup (Dv g 0 rs):=by
   unfold BN;split
   .simp at hl
   .rfl
  rw[e];exact .tup (bj a t)
def RCRel.conv{h h':A6}{w:World}{c:RC}{v:Value}{b:O W}(H:RCRel h w c v b)(hc:(∀b C,h b C->h' b C)\/c.flat):RCRel h' w c v b:=by
 cases H with
 | v hd=>
  rcases hc with hc|hc
  .exact .v (hd.mono hc)
  .exact .v (hd.flat hc)
 | nil=>exact .nil
 | o own hl=>
  rcases hc with hc|hc
  .exact .o (own.move hc J) hl
  .obtain⟨a1,a2,a3,C,t,a4,a5,a6⟩:=own;exact .o ⟨a1,a2,a3,C,t,a4,a5,a6.flat hc⟩ hl
def RCRels.conv{h h':A6}{w:World}:∀{cs vs bs},RCRels h w cs vs bs->(∀c∈cs,(∀b C,h b C->h' b C)\/c.flat)->RCRels h' w cs vs bs
 | _,_,_,.nil,_=> .nil
 | _,_,_,.cons a b,H=> .cons (a.conv (H _ d0)) (b.conv fun c hc=>H c (by simp[hc]))
def R1Rel.conv{h h':A6}{w:World}{r:R1}{v:Value}{bs:N (O W)}(H:R1Rel h w r v bs)(hc:∀c∈r.cells,(∀b C,h b C->h' b C)\/c.flat):R1Rel h' w r v bs:=by
 cases H with
 | sc a=>exact .sc (a.conv (hc _ (by simp[R1.cells])))
 | ag a=>exact .ag (a.conv hc)
def R1Rels.conv{h h':A6}{w:World}:∀{rs vs bs},R1Rels h w rs vs bs->(∀c∈rs.flatMap R1.cells,(∀b C,h b C->h' b C)\/c.flat)->R1Rels h' w rs vs bs
 | _,_,_,.nil,_=> .nil
 | _,_,_,.cons a b,H=> .cons (a.conv fun c hc=>H c (by simp[hc])) (b.conv fun c hc=>H c (by simp only[zV,yF]; exact .inr hc))
def RRel.conv{h h':A6}{w:World}{rs:N R1}{v:Value}{bs:N (O W)}(H:RRel h w rs v bs)(hc:∀c∈rs.flatMap R1.cells,(∀b C,h b C->h' b C)\/c.flat):RRel h' w rs v bs:=by
 cases H with
 | one a=>exact .one (a.conv fun c h1=>hc c (by simpa using h1))
 | many hl a=>exact .many hl (a.conv hc)
def R1Rels.len{h:A6}{w:World}:∀{rs vs bs},R1Rels h w rs vs bs->(rs.flatMap R1.cells).length=bs.length
 | _,_,_,.nil=>rfl
 | _,_,_,.cons a b=>by
  have h1:=a.len;have h2:=b.len;simp only[zV,List.length_append];omega
def RRel.len{h:A6}{w:World}{rs:N R1}{v:Value}{bs:N (O W)}(H:RRel h w rs v bs):(rs.flatMap R1.cells).length=bs.length:=by
 cases H with
 | one a=>simpa using a.len
 | many _ a=>exact a.len
section
variable {P : Program} {A : Ar} {B : W} {w0 : Base} {w : World} {nm : Ac} {M : St} {a : Act}
def Rel.behind(R:Rel A B w0 nm M a.tmps w){d:W}{rs:N R1}{w':World}{v:Value}{bs:N (O W)}(hd:d<a.tmps.size)(hf:M.fresh d=T)(h64:(rs.flatMap R1.cells).length<=64){A':B9}
  (hA:(∀b fr,A' b fr->(∀i,nm i≠G b)/\A b fr)\/CB rs)
  (hb:RowKit.Below w.heap.size w w') (hr:RRel (Al (fun b fr=>G b∉bs/\((w.heap.size<=b/\fr=(0,0))\/A' b fr)) w') w' rs v bs) (hn:∀b,G b∈bs->w.heap.size<=b/\b<w'.heap.size)
  (hdis:∀(i j b:W),bs[i]?=G (G b)->bs[j]?=G (G b)->i=j):∃nm',Rel A B w0 nm' (M.inst d rs) (a.put (G d) v).tmps w':=by
 let inst:Ac:=fun n=>if n % 2=1 then(bs[(n / 2) % 64]?).join else L
 have hinst:∀n b,inst n=G b->n % 2=1/\bs[(n / 2) % 64]?=G (G b):=by
  intro n b h;simp only[inst] at h;split at h
  .rename_i h1
   refine⟨h1,?_⟩;cases hq:bs[(n / 2) % 64]? with
   | none=>rw[hq] at h; cases h
   | some q=>rw[hq] at h; simp at h; rw[h]
  .cases h
 have hl:=hr.len
 have R1:=R.grow hf hb inst (Bj M.rows (BI d rs)) (fun n b _ h=>hn b (zQ (hinst n b h).2)) (fun n m b h1 h2 h3 h4=>by
   obtain⟨k1,k2⟩:=hinst n b h3;obtain⟨k3,k4⟩:=hinst m b h4;have:=hdis _ _ _ k2 k4;unfold C6 at h1 h2
   omega) (fun id hid=>S4 _ _ _ _ _ a9 hid)
 have hview:∀b C,Al (fun b fr=>G b∉bs/\((w.heap.size<=b/\fr=(0,0))\/((∀i,nm i≠G b)/\A b fr))) w' b C->A9 A (AN d inst nm) w' b C:=by
  rintro b C ⟨cc,tt,fr,⟨h1,h2⟩,h3⟩
  refine⟨fun i=> ?_,cc,tt,fr,?_,h3⟩
  .unfold AN;split
   .intro e; exact h1 (zQ (hinst i b e).2)
   .intro e;rcases h2 with h2|h2
    .have:=R.names i b e; omega
    .exact h2.1 i e
  .rcases h2 with h2|h2
   .obtain⟨h2,rfl⟩:=h2;exact R.all.all b (.inl (zY R.size h2))
   .exact h2.2
 have hr2:RRel (A9 A (AN d inst nm) w') w' rs v bs:=by
  refine hr.conv fun c hc=> ?_
  rcases hA with hA|hA
  .left
   rintro b C ⟨cc,tt,fr,⟨h1,h2⟩,h3⟩
   exact hview b C ⟨cc,tt,fr,⟨h1,h2.imp id (hA b fr)⟩,h3⟩
  .exact .inr (hA c hc)
 have hv:VRel (cx A (AN d inst nm) {M with rows:=Bj M.rows (BI d rs)} w') (BN d rs) v:=by
  refine UY hr2 fun i=>⟨fun sz es e=> ?_,fun b e=> ?_⟩
  .exact S3 _ _ _ _ _ _ _ e
  .have hi:i<64:=by have:=(zF.1 e).1; omega
   show AN d inst nm (2*(d*64+(0+i))+1)=b
   unfold AN;rw[if_pos (.inr a9)];simp only[inst];rw[if_pos a9,show(2*(d*64+(0+i))+1) / 2 % 64=i by omega,e];rfl
 exact⟨_,R1.put hd hv⟩
end
section
variable {A : Ar} {B : W} {w0 : Base} {w : World} {nm : Ac} {M : St} {a : Act}
def Z9{h h':A6}{w:World}{b sz cap:W}{es:N (N D)}(H:OwnB h w b sz cap es)(hf:∀e∈es,∀d∈e,d.flat=T):OwnB h' w b sz cap es:=by
 obtain⟨h1,h2,h3,C,t,h4,h5,h6⟩:=H;exact⟨h1,h2,h3,C,t,h4,h5,h6.flat hf⟩
def GE{h:A6}:∀b C,BP b C->h b C:=fun _ _ h=>h.elim
def OwnB.any{h:A6}{w:World}{b sz cap:W}{es:N (N D)}(H:OwnB BP w b sz cap es):OwnB h w b sz cap es:=by
 obtain⟨h1,h2,h3,C,t,h4,h5,h6⟩:=H;exact⟨h1,h2,h3,C,t,h4,h5,h6.mono GE⟩
def AS(nm:Ac)(ids:N W):N (O W):=ids.map fun id=>nm (2*id+1)
def fM{ids:N W}{R0:Ao}{c:AC}{v:Value}{x:XC}(H:CRel (cx A nm M w) c v)(hr:CF M.rows ids=G R0)(hf:DJ R0)(hx:MP ids c=G x):Xq w (AS nm ids) R0 x v:=by
 cases c with
 | dat d=>
  simp only[MP] at hx
  cases hd:d.flat with
  | false=>simp[hd] at hx
  | true=>
   simp only[hd,cond_true,zA] at hx
   subst hx;cases H with | dat H=>
   exact .d (H.flat hd)
 | own id=>
  simp only[MP,I] at hx
  obtain⟨j,hj,rfl⟩:=hx;have hid:=SX hj;obtain⟨hl,hat⟩:=Ku hr;have hb:(AS nm ids)[j]?=G (nm (2*id+1)):=by simp[AS,hid]
  have hR:R0[j]?=A1 M.rows id:=by rw[hat j,hid]; rfl
  cases hfd:A1 M.rows id with
  | none=>
   rw[hfd] at hR
   have:j<ids.length:=(zF.1 hid).1;rw[List.getElem?_eq_none_iff] at hR
   omega
  | some p=>
   obtain⟨sz,es⟩:=p;rw[hfd] at hR
   rcases H.inv_own hfd with ⟨rfl,k1,a0,rfl⟩|⟨b,cap,k1,k2,rfl⟩
   .exact .nil hR (by rw[hb]; exact congrArg G k1)
   .exact .r hR (by rw[hb]; exact congrArg G k1) (Z9 k2 fun e he d hd=>hf _ (zQ hR) e he d hd) J
 | _=>simp[MP] at hx
def fN{ids:N W}{R0:Ao}(hr:CF M.rows ids=G R0)(hf:DJ R0):∀{cs:N AC} {vs:N Value} {xs:N XC},CRels (cx A nm M w) cs vs->QC ids cs=G xs->Xp w (AS nm ids) R0 xs vs
 | [],_,xs,.nil,hx=>by simp[QC] at hx; subst hx; exact .nil
 | c::cs,_,xs,.cons H Hs,hx=>by
  unfold QC at hx
  split at hx
  .rename_i x xs' h1 h2
   cases hx;exact .cons (fM H hr hf h1) (fN hr hf Hs h2)
  .cases hx
def A6v{ids:N W}{R0:Ao}{av:AV}{v:Value}{x:XV}(hr:CF M.rows ids=G R0)(hf:DJ R0)(H:VRel (cx A nm M w) av v)(hx:W5 ids av=G x):Xr w (AS nm ids) R0 x v:=by
 unfold W5 at hx
 split at hx
 .simp only[I] at hx
  obtain⟨c,h1,rfl⟩:=hx;exact .sc (fM H.inv_sc hr hf h1)
 .simp only[I] at hx
  obtain⟨cs,h1,rfl⟩:=hx;obtain⟨vs,rfl,hcs⟩:=H.inv_ag;exact .ag (fN hr hf hcs h1)
 .cases hx
def fO{ids:N W}{R0:Ao}(R:Rel A B w0 nm M a.tmps w)(hr:CF M.rows ids=G R0)(hf:DJ R0):∀{xs:N Operand} {ys:N Opd} {ds:N XV},C8 xs=G ys->M.toXVs ids ys=G ds->Xo w (AS nm ids) R0 ds (xs.map a.eval)
 | [],ys,ds,hy,hd=>by simp[C8] at hy; subst hy; simp[St.toXVs] at hd; subst hd; exact .nil
 | x::xs,ys,ds,hy,hd=>by
  simp only[C8] at hy
  split at hy
  .rename_i y ys' h1 h2
   cases hy;simp only[St.toXVs] at hd
   split at hd
   .rename_i d ds' h3 h4
    cases hd;exact .cons (A6v hr hf (Ax R h1) h3) (fO R hr hf h2 h4)
   .cases hd
  .cases hy
def Rel.behindX(R:Rel A B w0 nm M a.tmps w){d:W}{ids:N W}{R0 R1:Ao}{r:D}{w':World}{v:Value}(hd:d<a.tmps.size)(hnd:ids.Nodup)(hr:CF M.rows ids=G R0)(hl:DZ R0 R1=T)
  (hb:BelowX w.heap.size (.of w (Bg (AS nm ids))) w') (hv:Rep BP r v) (hrow:∀(j b:W),(AS nm ids)[j]?=G (G b)->∃sz es cap,R1[j]?=G (sz,es)/\OwnB BP w' b sz cap es) :
  Rel A B w0 nm (M.instX d ids R1 r) (a.put (G d) v).tmps w':=by
 obtain⟨hlen,hat⟩:=Ku hr
 have hnp:∀i b,Bg (AS nm ids) i=G b->∃(j id:W),ids[j]?=G id/\nm (2*id+1)=G b:=by
  intro i b h;obtain⟨j,_,h2⟩:=HY h;simp only[AS,List.getElem?_map,I] at h2
  obtain⟨id,h3,h4⟩:=h2;exact⟨j,id,h3,h4⟩
 have hM:∀b,Base.M (.of w (Bg (AS nm ids))) b->∃(j id:W),ids[j]?=G id/\nm (2*id+1)=G b:=fun b hmm=>by
  obtain⟨i,_,e⟩:=Base.of_M hmm;exact hnp i b e
 have hbel:BelowX B w0 w':=R.below.after hb R.size R.there fun i b e=>by
  obtain⟨j,id,_,h⟩:=hnp i b e;exact(R.names _ _ h).1
 have hsame:∀b,b<w.heap.size->(∀id∈ids,nm (2*id+1)≠G b)->w'.heap[b]?=w.heap[b]?:=fun b hlt h=>hb.block b hlt (fun hm=>by
  obtain⟨j,id,h1,h2⟩:=hM b hm;exact h id (zQ h1) h2) fun hv=>hv.elim
 have hview:∀b C,A9 A nm w b C->A9 A nm w' b C:=CW fun b hlt hn=>⟨hn,hsame b hlt fun id _=>hn _⟩
 have hcell:∀(M':St) c v,M'.rows=CU M.rows ids R1->CRel (cx A nm M w) c v->CRel (cx A nm M' w') c v:=by
  intro M' c v hrs H;by_cases hc:∃id∈ids,c.has id=T
  .obtain⟨id,hid,hc⟩:=hc;obtain⟨j,hj⟩:=List.getElem?_of_mem hid;have hR:R0[j]?=A1 M.rows id:=by rw[hat j,hj]; rfl
   have hjl:j<R0.length:=by rw[hlen]; exact(zF.1 hj).1
   obtain⟨sz,es⟩:W × N (N D):=R0[j];have hR0:R0[j]?=G R0[j]:=yD hjl;obtain⟨sz,es,hse⟩:∃sz es,R0[j]=(sz,es):=⟨_,_,rfl⟩;rw[hse] at hR0
   obtain⟨es',h1,h2⟩:=dj hl hR0;have hx:A1 (cx A nm M w).rs id=G (sz,es):=hR.symm.trans hR0
   have hy:A1 (cx A nm M' w').rs id=G (sz,es'):=by
    show A1 M'.rows id=_
    rw[hrs];exact VD hnd hj h1
   refine H.turn hc hx hy h2 J fun b cap hn own=> ?_
   have hbl:(AS nm ids)[j]?=G (G b):=by
    have hn':nm (2*id+1)=G b:=hn;simp[AS,hj,hn']
   obtain⟨sz',es'',cap',h3,h4⟩:=hrow j b hbl;rw[h1] at h3
   cases h3;obtain⟨k1,k2,k3,C',t',k4,k5,k6⟩:=h4;obtain⟨q1,q2,q3,C,t,q4,q5,q6⟩:=own;have hm:Base.M (.of w (Bg (AS nm ids))) b:= .inl ⟨AG+2*j+1,a9,MB hbl⟩;obtain⟨C2,e1,e2⟩:=hb.room b hm C t (0,0) q4;rw[k4] at e1
   cases e1;have:cap'*sz=cap*sz:=by rw[<- k5,<- q5,e2]
   have hcap:cap'=cap:=Nat.eq_of_mul_eq_mul_right k1 this;subst hcap;exact⟨k1,k2,k3,C',t',k4,k5,k6.mono GE⟩
  .have hno:∀id,c.has id=T->id∉ids:=fun id h1 h2=>hc ⟨id,h2,h1⟩
   refine H.move hview (fun id hid=> .inr ⟨?_,J,fun b hbn=> ?_⟩) (fun id _ b hb2=>hb2)
   .show A1 M'.rows id=A1 M.rows id
    rw[hrs,SY (hno id hid)]
   .refine hsame b (R.names _ _ hbn).2 fun id' hid' e=>hno id hid ?_
    have:=R.inj _ _ _ hbn e;have e3:id=id':=by omega
    exact e3▸hid'
 have R1':Rel A B w0 nm {M with rows:=CU M.rows ids R1} a.tmps w':=by
  refine⟨hbel,zY R.size hb.size,R.all,R.good,fun i b hi=> ?_,R.inj,R.pin,fun k=>(R.env k).to fun c v _=>hcell _ c v J,fun id cs hcs=> ?_⟩
  .obtain⟨h1,h2⟩:=R.names i b hi;exact⟨h1,Nat.lt_of_lt_of_le h2 hb.size⟩
  .obtain⟨b,C,t,h1,h2,h3⟩:=R.bxs id cs hcs;refine⟨b,C,t,h1,?_,h3.to fun c v _=>hcell _ c v J⟩;refine(hsame b (R.names _ _ h1).2 fun id' _ e=> ?_).trans h2;have:=R.inj _ _ _ h1 e;omega
 exact R1'.put hd (.v (.sc (.dat (hv.mono GE))))
end
end
end Go.Vi
