/-
The value level. No condition.
-/
import Derived.Test.YtpigjggbnclpbaaGreatOVi8
namespace Go.Vi
set_option linter.all false
open Bool renaming and_eq_true → E
open Option renaming some → T
open _root_ renaming Nat → F
def AC.hasB(id:F):AC→Bool
 | .pb i _=>i==id
 | .ipb _ i=>i==id
 | .clo _ ids=>ids.any (· == id)
 | _=>false
theorem OwnB.move{h h':A6}{w w':World}{b sz cap:F}{es:List (List D)}(H:OwnB h w b sz cap es)(hh:∀b C,h b C→h' b C)(hw:w'.heap[b]?=w.heap[b]?):OwnB h' w' b sz cap es:=by
 obtain⟨h1,h2,h3,C,t,h4,h5,h6⟩:=H;exact⟨h1,h2,h3,C,t,hw.trans h4,h5,h6.mono hh⟩
theorem lE{ids:List F}{f g:F→Option F}:∀{bs:List F},ids.mapM f=T bs→(∀i∈ids,∀b,f i=T b→g i=T b)→ids.mapM g=T bs:=by
 induction ids with
 | nil=>intro bs h _; simpa using h
 | cons i ids ih=>
  intro bs h H;simp only[List.mapM_cons,Option.bind_eq_bind,Option.pure_def] at h ⊢
  cases hf:f i with
  | none=>simp[hf] at h
  | some b=>
   cases hr:ids.mapM f with
   | none=>simp[hf,hr] at h
   | some r=>
    simp[hf,hr] at h;subst h;rw[H i (by simp) b hf,ih hr (fun j hj=>H j (by simp[hj]))];rfl
theorem CRel.move{X Y:Cx}{c:AC}{v:Value}(H:CRel X c v)(hh:∀b C,X.h b C→Y.h b C)
  (hrow:∀id,c.has id=true→A1 Y.rs id=none∨(A1 Y.rs id=A1 X.rs id∧Y.nm (2*id+1)=X.nm (2*id+1)∧∀b,X.nm (2*id+1)=T b→Y.w.heap[b]?=X.w.heap[b]?))
  (hbox:∀id,c.hasB id=true→∀b,X.nm (2*id)=T b→Y.nm (2*id)=T b) (hz:Y.o=X.o∧Y.v=X.v∧Y.new=X.new:=by exact⟨rfl,rfl,rfl⟩):CRel Y c v:=by
 have h1:=H.one;cases H with
 | undef h=>exact .undef h
 | dat hd=>exact .dat (hd.mono hh)
 | @ownNil id sz a0 hf hn=>
  rcases hrow id (by simp[AC.has]) with hd|⟨e1,e2,e3⟩
  ·exact .ownDead hd h1
  ·exact .ownNil (e1.trans hf) (e2.trans hn)
 | @own id sz es b cap len hf hn hown hl=>
  rcases hrow id (by simp[AC.has]) with hd|⟨e1,e2,e3⟩
  ·exact .ownDead hd h1
  ·exact .own (e1.trans hf) (e2.trans hn) (hown.move hh (e3 b hn)) hl
 | @ownDead id v hf _=>
  rcases hrow id (by simp[AC.has]) with hd|⟨e1,e2,e3⟩
  ·exact .ownDead hd h1
  ·exact .ownDead (e1.trans hf) h1
 | @osubNil id sz a0 hf hn=>
  rcases hrow id (by simp[AC.has]) with hd|⟨e1,e2,e3⟩
  ·exact .osubDead hd h1
  ·exact .osubNil (e1.trans hf) (e2.trans hn)
 | @osub id sz es lo hi b cap cap' len off hf hn hown a1 a2 a3 a4 a5 a6=>
  rcases hrow id (by simp[AC.has]) with hd|⟨e1,e2,e3⟩
  ·exact .osubDead hd h1
  ·exact .osub (e1.trans hf) (e2.trans hn) (hown.move hh (e3 b hn)) a1 a2 a3 a4 a5 a6
 | @osubDead id lo hi v hf _=>
  rcases hrow id (by simp[AC.has]) with hd|⟨e1,e2,e3⟩
  ·exact .osubDead hd h1
  ·exact .osubDead (e1.trans hf) h1
 | nil=>exact .nil
 | z=>exact .z
 | old hn hd=>exact .old (hz.2.2.trans hn) (hz.1▸hd)
 | nw hn hd=>exact .nw (hz.2.2.trans hn) hd
 | mix hd=>exact .mix (hd.mono fun b C h=>h.imp (fun h=>hz.1▸h) (hh b C))
 | vol hd hs=>exact .vol (hz.2.1▸hd) hs
 | @pb id off b hb=>exact .pb (hbox id (by simp[AC.hasB]) b hb)
 | @ipb t id b hb=>exact .ipb (hbox id (by simp[AC.hasB]) b hb)
 | @pe id sz es idx off b cap o hf hn hown a1 a2=>
  rcases hrow id (by simp[AC.has]) with hd|⟨e1,e2,e3⟩
  ·exact .peDead hd h1
  ·exact .pe (e1.trans hf) (e2.trans hn) (hown.move hh (e3 b hn)) a1 a2
 | @peDead id idx off v hf _=>
  rcases hrow id (by simp[AC.has]) with hd|⟨e1,e2,e3⟩
  ·exact .peDead hd h1
  ·exact .peDead (e1.trans hf) h1
 | @clo f ids bs hb=>exact .clo (lE hb fun i hi b hi2=>hbox i (by simp[AC.hasB]; exact hi) b hi2)
section
variable {X Y : Cx}
theorem CRels.map{f:AC→AC}:∀{cs vs},CRels X cs vs→(∀c v,c∈cs→CRel X c v→CRel Y (f c) v)→CRels Y (cs.map f) vs
 | _,_,.nil,_=> .nil
 | _,_,.cons a b,H=> .cons (H _ _ (by simp) a) (b.map fun c v hc=>H c v (by simp[hc]))
theorem V1Rel.map{f:AC→AC}{x:V1}{v:Value}(h:V1Rel X x v)(H:∀c v,c∈x.cells→CRel X c v→CRel Y (f c) v):V1Rel Y (x.map f) v:=by
 cases h with
 | sc h=>exact .sc (H _ _ (by simp[V1.cells]) h)
 | ag h=>exact .ag (h.map H)
theorem V1Rels.map{f:AC→AC}:∀{l vs},V1Rels X l vs→(∀c v,c∈l.flatMap V1.cells→CRel X c v→CRel Y (f c) v)→V1Rels Y (l.map (V1.map f)) vs
 | _,_,.nil,_=> .nil
 | _,_,.cons a b,H=> .cons (a.map fun c v hc=>H c v (by simp[hc])) (b.map fun c v hc=>H c v (by simp only[List.flatMap_cons,List.mem_append]; exact .inr hc))
theorem VRel.map{f:AC→AC}{x:AV}{v:Value}(h:VRel X x v)(H:∀c v,c∈x.cells→CRel X c v→CRel Y (f c) v):VRel Y (x.map f) v:=by
 cases h with
 | undef=>exact .undef
 | no=>exact .no
 | v h=>exact .v (h.map H)
 | tup h=>exact .tup (h.map H)
 | ev h=>exact .ev (H _ _ (by simp[AV.cells]) h)
theorem V1.map_id(x:V1):x.map id=x:=by cases x<;>simp[V1.map]
theorem AV.map_id(x:AV):x.map id=x:=by
 cases x with
 | undef=>rfl
 | no=>rfl
 | v x=>simp[AV.map,V1.map_id]
 | tup l=>simp[AV.map,show V1.map id=id from funext V1.map_id]
 | ev c=>rfl
theorem VRel.to{x:AV}{v:Value}(h:VRel X x v)(H:∀c v,c∈x.cells→CRel X c v→CRel Y c v):VRel Y x v:=by
 have:=h.map (f:=id) H;rwa [AV.map_id] at this
theorem CRels.to{cs vs}(h:CRels X cs vs)(H:∀c v,c∈cs→CRel X c v→CRel Y c v):CRels Y cs vs:=by
 have:=h.map (f:=id) H;rwa [List.map_id] at this
end
def St.Uses(σ:St)(c:AC):Prop:=(∃k,c∈(σ.get k).cells)∨∃id cs,A1 σ.bx id=T cs∧c∈cs
theorem Io{α:Type}:∀{l:List (F × α)} {n:F} {v:α},A1 l n=T v→(n,v)∈l
 | [],n,v,h=>by simp[A1] at h
 | (k,u)::r,n,v,h=>by
  by_cases hk:k=n
  ·subst hk; simp[A1] at h; subst h; simp
  ·have h':(k==n)=false:=by simpa using hk
   simp[A1,h'] at h;exact List.mem_cons_of_mem _ (Io h)
theorem St.get_mem{σ:St}{k:F}{c:AC}(h:c∈(σ.get k).cells):∃p∈σ.env,c∈p.2.cells:=by
 unfold St.get at h;cases hf:A1 σ.env k with
 | none=>simp[hf,AV.cells] at h
 | some av=>simp[hf] at h; exact⟨_,Io hf,h⟩
theorem Q7{c:AC}{id:F}(h:c.has id=true):c.uses (id / 64)=true:=by
 cases c<;>simp[AC.has] at h<;>simp[AC.uses,h]
theorem py{c:AC}{id:F}(h:c.hasB id=true):c.uses id=true:=by
 cases c<;>simp[AC.hasB] at h<;>simp[AC.uses,h]
theorem St.fresh_uses{σ:St}{g:F}(hf:σ.fresh g=true){c:AC}(hc:σ.Uses c):c.uses g=false:=by
 simp only[St.fresh,E,List.all_eq_true] at hf
 rcases hc with ⟨k,hk⟩|⟨id,cs,hcs,hm⟩
 ·obtain⟨p,hp,hcp⟩:=St.get_mem hk;have:=hf.2.1 p hp c hcp;simpa using this
 ·have:=hf.2.2 _ (Io hcs);have:=this.2 c hm;simpa using this
theorem St.fresh_bx{σ:St}{g:F}(hf:σ.fresh g=true){id:F}{cs:List AC}(hc:A1 σ.bx id=T cs):id≠g:=by
 simp only[St.fresh,E,List.all_eq_true] at hf
 have:=(hf.2.2 _ (Io hc)).1;simpa using this
theorem St.fresh_few{σ:St}{g:F}(hf:σ.fresh g=true):g<1073741824:=by
 simp only[St.fresh,E] at hf
 exact of_decide_eq_true hf.1
theorem St.has_uses{σ:St}{id:F}(hf:σ.has id=false){c:AC}(hc:σ.Uses c):c.has id=false:=by
 simp only[St.has,Bool.or_eq_false_iff,List.any_eq_false] at hf
 rcases hc with ⟨k,hk⟩|⟨b,cs,hcs,hm⟩
 ·obtain⟨p,hp,hcp⟩:=St.get_mem hk;have:=hf.1 p hp;simp only[List.any_eq_true,not_exists,not_and] at this
  simpa using this c hcp
 ·have:=hf.2 _ (Io hcs);simp only[List.any_eq_true,not_exists,not_and] at this
  simpa using this c hm
section
variable {A : Ar} {B : F} {w0 : Base} {w : World} {nm : Ad} {σ : St} {tmps : Array Value}
theorem Rel.carry(R:Rel A B w0 nm σ tmps w){nm':Ad}{σ':St}{w':World}(f:AC→AC)
  (hbel:BelowX B w0 w') (hsz:B≤w'.heap.size) (hnames:∀i b,nm' i=T b→(B≤b∨w0.M b)∧b<w'.heap.size) (hinj:∀i j b,nm' i=T b→nm' j=T b→i=j) (hpin:∀i,Av≤i→nm' i=nm i)
  (henv:∀k,σ'.get k=(σ.get k).map f) (hbx:∀id,A1 σ'.bx id=(A1 σ.bx id).map (List.map f))
  (hkeep:∀id cs,A1 σ.bx id=T cs→∀b,nm (2*id)=T b→nm' (2*id)=T b∧w'.heap[b]?=w.heap[b]?)
  (H:∀c v,σ.Uses c→CRel (cx A nm σ w) c v→CRel (cx A nm' σ' w') (f c) v):Rel A B w0 nm' σ' tmps w':=by
 refine⟨hbel,hsz,R.all,R.good,hnames,hinj,fun i hi=>(hpin i hi).trans (R.pin i hi),fun k=> ?_,fun id cs hcs=> ?_⟩
 ·rw[henv k];exact(R.env k).map fun c v hc hr=>H c v (.inl ⟨k,hc⟩) hr
 ·rw[hbx id] at hcs
  simp only[Option.map_eq_some_iff] at hcs
  obtain⟨cs0,h0,rfl⟩:=hcs;obtain⟨b,C,t,h1,h2,h3⟩:=R.bxs id cs0 h0;obtain⟨k1,k2⟩:=hkeep id cs0 h0 b h1;exact⟨b,C,t,k1,k2.trans h2,h3.map fun c v hc hr=>H c v (.inr ⟨id,cs0,h0,hc⟩) hr⟩
theorem AV.mapId:AV.map (fun c=>c)=fun v=>v:=by
 funext v
 exact AV.map_id v
theorem Rel.put(R:Rel A B w0 nm σ tmps w){d:F}{av:AV}{v:Value}(hd:d<tmps.size)(h:VRel (cx A nm σ w) av v):Rel A B w0 nm (σ.set d av) (tmps.setIfInBounds d v) w:=by
 refine⟨R.below,R.size,R.all,R.good,R.names,R.inj,R.pin,fun k=> ?_,R.bxs⟩;by_cases hk:k=d
 ·subst hk;rw[St.get_set_same];have:(tmps.setIfInBounds k v).getD k undef=v:=by simp[hd]
  rw[this];exact h
 ·rw[St.get_set_ne _ _ hk]
  have:(tmps.setIfInBounds d v).getD k undef=tmps.getD k undef:=by
   simp[Array.getElem?_setIfInBounds_ne (Ne.symm hk)]
  rw[this];exact R.env k
theorem Rel.bput(R:Rel A B w0 nm σ tmps w){id:F}{cs:List AC}(h:BoxRel (cx A nm σ w) id cs):Rel A B w0 nm {σ with bx:=Vi.put σ.bx id cs} tmps w:=by
 refine⟨R.below,R.size,R.all,R.good,R.names,R.inj,R.pin,R.env,fun i c hc=> ?_⟩;by_cases hi:i=id
 ·subst hi;rw[show A1 ({σ with bx:=Vi.put σ.bx i cs}:St).bx i=T cs from B9 _ _ _] at hc
  cases hc;exact h
 ·rw[show A1 ({σ with bx:=Vi.put σ.bx id cs}:St).bx i=A1 σ.bx i from Bb _ _ hi] at hc
  exact R.bxs i c hc
def BF(g n:F):Prop:=n=2*g∨(n % 2=1∧n / 2 / 64=g)
instance (g n:F):Decidable (BF g n):=by unfold BF; infer_instance
def AF(g:F)(inst nm:Ad):Ad:=fun n=>if BF g n then inst n else nm n
theorem Cf{nm nm':Ad}{w w':World}(hh:∀b,b<w.heap.size→(∀i,nm i≠T b)→(∀i,nm' i≠T b)∧w'.heap[b]?=w.heap[b]?):∀b C,Ab A nm w b C→Ab A nm' w' b C:=by
 rintro b C ⟨h1,c,t,fr,hA,h2,h3⟩
 have hb:b<w.heap.size:=(Array.getElem?_eq_some_iff.1 h2).1;obtain⟨k1,k2⟩:=hh b hb h1;exact⟨k1,c,t,fr,hA,k2.trans h2,h3⟩
theorem Rel.growCell(R:Rel A B w0 nm σ tmps w){g:F}{w':World}(hb:RowKit.Below w.heap.size w w')(inst:Ad)(rows':Rows)
  (hi:∀n b,BF g n→inst n=T b→w.heap.size≤b∧b<w'.heap.size)
  (hr:∀id,id / 64≠g→A1 rows' id=A1 σ.rows id) {c:AC} {v:Value} (hu:c.uses g=false) (hrel:CRel (cx A nm σ w) c v) {σ':St} (hs:σ'.rows=rows'):CRel (cx A (AF g inst nm) σ' w') c v:=by
 refine hrel.move (Cf fun b hb2 hn=>⟨fun i=> ?_,hb.block b hb2⟩) (fun id hid=> .inr ?_) (fun id hid b hnb=> ?_)
 ·unfold AF;split
  ·rename_i hg; intro e; have:=hi i b hg e; omega
  ·exact hn i
 ·have hg:id / 64≠g:=fun e=>by have:=Q7 hid; rw[e,hu] at this; cases this
  refine⟨by rw[show(cx A (AF g inst nm) σ' w').rs=rows' from hs]; exact hr id hg,?_,fun b hb2=>hb.block b (R.names _ b hb2).2⟩;show AF g inst nm (2*id+1)=nm (2*id+1)
  unfold AF;rw[if_neg (by unfold BF; omega)]
 ·have hg:id≠g:=fun e=>by have:=py hid; rw[e,hu] at this; cases this
  show AF g inst nm (2*id)=T b
  unfold AF;rw[if_neg (by unfold BF; omega)];exact hnb
theorem Rel.grow(R:Rel A B w0 nm σ tmps w){g:F}(hf:σ.fresh g=true){w':World}(hb:RowKit.Below w.heap.size w w')(inst:Ad)(rows':Rows)
  (hi:∀n b,BF g n→inst n=T b→w.heap.size≤b∧b<w'.heap.size) (hinj:∀n m b,BF g n→BF g m→inst n=T b→inst m=T b→n=m)
  (hr:∀id,id / 64≠g→A1 rows' id=A1 σ.rows id):Rel A B w0 (AF g inst nm) {σ with rows:=rows'} tmps w':=by
 have hbl:BelowX B w0 w':=R.below.trans R.there hb R.size;have hsz:=hb.size;have hfew:=St.fresh_few hf;refine R.carry (f:=fun c=>c) hbl (Nat.le_trans R.size hsz) (fun i b hib=> ?_) (fun i j b hib hjb=> ?_) (fun i hpi=> ?_) (fun k=>by rw[AV.mapId]; rfl) (fun id=>by simp) (fun id cs hcs b hnb=> ?_) (fun c v hc hrel=> ?_)
 ·unfold AF at hib
  split at hib
  ·rename_i hg; have:=hi i b hg hib; have:=R.size; exact⟨.inl (by omega),by omega⟩
  ·obtain⟨h1,h2⟩:=R.names i b hib; exact⟨h1,by omega⟩
 ·unfold AF at hib hjb
  split at hib<;>split at hjb
  ·rename_i h1 h2; exact hinj i j b h1 h2 hib hjb
  ·rename_i h1 h2; have:=hi i b h1 hib; have:=R.names j b hjb; omega
  ·rename_i h1 h2; have:=hi j b h2 hjb; have:=R.names i b hib; omega
  ·exact R.inj i j b hib hjb
 ·unfold AF;rw[if_neg];unfold BF;unfold Av at hpi
  omega
 ·have hne:=St.fresh_bx hf hcs;refine⟨?_,hb.block b (R.names _ b hnb).2⟩;unfold AF;rw[if_neg (by unfold BF; omega)];exact hnb
 ·exact R.growCell hb inst rows' hi hr (St.fresh_uses hf hc) hrel rfl
end
end Go.Vi
