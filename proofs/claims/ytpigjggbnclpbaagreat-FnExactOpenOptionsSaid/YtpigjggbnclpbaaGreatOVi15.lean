/-
The value level. No condition.
-/
import Derived.Test.YtpigjggbnclpbaaGreatOVi14
namespace Go.Vi
set_option linter.all false
open List renaming getElem?_eq_some_iff → L, mem_of_getElem? → O, getElem?_append_right → Q, flatMap_cons → U, getElem?_append_left → V
open Option renaming map_eq_some_iff → N, some → T
open _root_ renaming List → F, Option → E, Nat → G
def B7(rows:Rows):Rows→Rows
 | []=>rows
 | (k,x)::r=>put (B7 rows r) k x
def St.inst(σ:St)(d:G)(rs:F R1):St:={(σ.set d (Bt d rs)) with rows:=B7 σ.rows (Bq d rs)}
theorem MW(rows:Rows)(g:G):∀(cs:F RC) (j i sz:G) (es:F (F D)),cs[i]?=T (.o sz es)→A1 (B7 rows (Bw g j cs)) (g*64+(j+i))=T (sz,es)
 | [],j,i,sz,es,h=>by simp at h
 | c::cs,j,0,sz,es,h=>by
  simp at h;subst h;simp only[Bw,B7,Nat.add_zero];exact B9 _ _ _
 | c::cs,j,i+1,sz,es,h=>by
  simp at h;have ih:=MW rows g cs (j+1) i sz es h;rw[show j+1+i=j+(i+1) by omega] at ih
  cases c with
  | v d=>simpa[Bw] using ih
  | o sz' es'=>
   simp only[Bw,B7];rw[Bb _ _ (by omega)];exact ih
theorem MX(rows:Rows)(g:G):∀(cs:F RC) (j id:G),j+cs.length≤64→id / 64≠g→A1 (B7 rows (Bw g j cs)) id=A1 rows id
 | [],j,id,_,_=>rfl
 | c::cs,j,id,hl,hg=>by
  simp at hl
  have ih:=MX rows g cs (j+1) id (by omega) hg;cases c with
  | v d=>simpa[Bw] using ih
  | o sz' es'=>
   simp only[Bw,B7];rw[Bb _ _ (by omega)];exact ih
def Told(X:Cx)(g j:G)(cs:F RC)(bs:F (E G)):Prop:=
 ∀i,(∀sz es,cs[i]?=T (.o sz es)→A1 X.rs (g*64+(j+i))=T (sz,es))∧(∀b,bs[i]?=T b→X.nm (2*(g*64+(j+i))+1)=b)
theorem Told.tail{X:Cx}{g j:G}{c:RC}{b:E G}{cs:F RC}{bs:F (E G)}(h:Told X g j (c::cs) (b::bs)):Told X g (j+1) cs bs:=by
 intro i;have:=h (i+1);rw[show j+(i+1)=j+1+i by omega] at this
 simpa using this
theorem Ts{X:Cx}{g j:G}{c:RC}{v:Value}{b:E G}(h:RCRel X.h X.w c v b)(t1:∀sz es,c= .o sz es→A1 X.rs (g*64+j)=T (sz,es))(t2:X.nm (2*(g*64+j)+1)=b):CRel X (c.inst g j) v:=by
 cases h with
 | v hd=>exact .dat hd
 | nil=>exact .ownNil (t1 _ _ rfl) t2
 | o own hl=>exact .own (t1 _ _ rfl) t2 own hl
theorem Tt{X:Cx}{g:G}:∀{cs:F RC} {vs:F Value} {bs:F (E G)} {j:G},RCRels X.h X.w cs vs bs→Told X g j cs bs→CRels X (Da g j cs) vs
 | _,_,_,_,.nil,_=> .nil
 | _,_,_,j,.cons a b,t=> .cons (Ts a (fun sz es e=>by have:=(t 0).1 sz es (by simp[e]); simpa using this) (by have:=(t 0).2 _ rfl; simpa using this)) (Tt b t.tail)
theorem RCRels.len{h:A6}{w:World}:∀{cs vs bs},RCRels h w cs vs bs→cs.length=bs.length
 | _,_,_,.nil=>rfl
 | _,_,_,.cons _ b=>by simp[b.len]
theorem R1Rel.len{h:A6}{w:World}{r:R1}{v:Value}{bs:F (E G)}(H:R1Rel h w r v bs):r.cells.length=bs.length:=by
 cases H with
 | sc _=>rfl
 | ag a=>exact a.len
theorem R1.width_eq(r:R1):r.width=r.cells.length:=by cases r<;>rfl
theorem Tm{X:Cx}{g j:G}{r:R1}{v:Value}{bs:F (E G)}(H:R1Rel X.h X.w r v bs)(t:Told X g j r.cells bs):V1Rel X (r.inst g j) v:=by
 cases H with
 | sc a=>exact .sc (Ts a (fun sz es e=>by have:=(t 0).1 sz es (by simp[R1.cells,e]); simpa using this) (by have:=(t 0).2 _ rfl; simpa using this))
 | ag a=>exact .ag (Tt a t)
theorem Told.left{X:Cx}{g j:G}{cs cs':F RC}{bs bs':F (E G)}(h:Told X g j (cs++cs') (bs++bs')):Told X g j cs bs:=by
 intro i;refine⟨fun sz es e=>(h i).1 sz es ?_,fun b e=>(h i).2 b ?_⟩
 ·rw[V (L.1 e).1]; exact e
 ·rw[V (L.1 e).1]; exact e
theorem Told.right{X:Cx}{g j:G}{cs cs':F RC}{bs bs':F (E G)}(h:Told X g j (cs++cs') (bs++bs'))(hl:cs.length=bs.length):Told X g (j+cs.length) cs' bs':=by
 intro i;have:=h (cs.length+i);rw[Q (by omega),Q (by omega)] at this
 rw[show cs.length+i - cs.length=i by omega,show cs.length+i - bs.length=i by omega,show j+(cs.length+i)=j+cs.length+i by omega] at this
 exact this
theorem Tw{X:Cx}{g:G}:∀{rs:F R1} {vs:F Value} {bs:F (E G)} {j:G},R1Rels X.h X.w rs vs bs→Told X g j (rs.flatMap R1.cells) bs→V1Rels X (CE g j rs) vs
 | _,_,_,_,.nil,_=> .nil
 | _,_,_,j,.cons a b,t=>by
  simp only[U] at t
  refine .cons (Tm a t.left) (Tw b ?_);rw[R1.width_eq];exact t.right a.len
theorem Pd{X:Cx}{g:G}{rs:F R1}{v:Value}{bs:F (E G)}(H:RRel X.h X.w rs v bs)(t:Told X g 0 (rs.flatMap R1.cells) bs):VRel X (Bt g rs) v:=by
 cases H with
 | one a=>exact .v (Tm a (by simpa using t))
 | many hl a=>
  have e:Bt g rs= .tup (CE g 0 rs):=by
   unfold Bt;split
   ·simp at hl
   ·rfl
  rw[e];exact .tup (Tw a t)
theorem RCRel.conv{h h':A6}{w:World}{c:RC}{v:Value}{b:E G}(H:RCRel h w c v b)(hc:(∀b C,h b C→h' b C)∨c.flat):RCRel h' w c v b:=by
 cases H with
 | v hd=>
  rcases hc with hc|hc
  ·exact .v (hd.mono hc)
  ·exact .v (hd.flat hc)
 | nil=>exact .nil
 | o own hl=>
  rcases hc with hc|hc
  ·exact .o (own.move hc rfl) hl
  ·obtain⟨a1,a2,a3,C,t,a4,a5,a6⟩:=own;exact .o ⟨a1,a2,a3,C,t,a4,a5,a6.flat hc⟩ hl
theorem RCRels.conv{h h':A6}{w:World}:∀{cs vs bs},RCRels h w cs vs bs→(∀c∈cs,(∀b C,h b C→h' b C)∨c.flat)→RCRels h' w cs vs bs
 | _,_,_,.nil,_=> .nil
 | _,_,_,.cons a b,H=> .cons (a.conv (H _ (by simp))) (b.conv fun c hc=>H c (by simp[hc]))
theorem R1Rel.conv{h h':A6}{w:World}{r:R1}{v:Value}{bs:F (E G)}(H:R1Rel h w r v bs)(hc:∀c∈r.cells,(∀b C,h b C→h' b C)∨c.flat):R1Rel h' w r v bs:=by
 cases H with
 | sc a=>exact .sc (a.conv (hc _ (by simp[R1.cells])))
 | ag a=>exact .ag (a.conv hc)
theorem R1Rels.conv{h h':A6}{w:World}:∀{rs vs bs},R1Rels h w rs vs bs→(∀c∈rs.flatMap R1.cells,(∀b C,h b C→h' b C)∨c.flat)→R1Rels h' w rs vs bs
 | _,_,_,.nil,_=> .nil
 | _,_,_,.cons a b,H=> .cons (a.conv fun c hc=>H c (by simp[hc])) (b.conv fun c hc=>H c (by simp only[U,List.mem_append]; exact .inr hc))
theorem RRel.conv{h h':A6}{w:World}{rs:F R1}{v:Value}{bs:F (E G)}(H:RRel h w rs v bs)(hc:∀c∈rs.flatMap R1.cells,(∀b C,h b C→h' b C)∨c.flat):RRel h' w rs v bs:=by
 cases H with
 | one a=>exact .one (a.conv fun c h1=>hc c (by simpa using h1))
 | many hl a=>exact .many hl (a.conv hc)
theorem R1Rels.len{h:A6}{w:World}:∀{rs vs bs},R1Rels h w rs vs bs→(rs.flatMap R1.cells).length=bs.length
 | _,_,_,.nil=>rfl
 | _,_,_,.cons a b=>by
  have h1:=a.len;have h2:=b.len;simp only[U,List.length_append];omega
theorem RRel.len{h:A6}{w:World}{rs:F R1}{v:Value}{bs:F (E G)}(H:RRel h w rs v bs):(rs.flatMap R1.cells).length=bs.length:=by
 cases H with
 | one a=>simpa using a.len
 | many _ a=>exact a.len
section
variable {P : Program} {A : Ar} {B : G} {w0 : Base} {w : World} {nm : Ad} {σ : St} {a : Act}
theorem Rel.behind(R:Rel A B w0 nm σ a.tmps w){d:G}{rs:F R1}{w':World}{v:Value}{bs:F (E G)}(hd:d<a.tmps.size)(hf:σ.fresh d=true)(h64:(rs.flatMap R1.cells).length≤64){A':AY}
  (hA:(∀b fr,A' b fr→(∀i,nm i≠T b)∧A b fr)∨C7 rs)
  (hb:RowKit.Below w.heap.size w w') (hr:RRel (Af (fun b fr=>T b∉bs∧((w.heap.size≤b∧fr=(0,0))∨A' b fr)) w') w' rs v bs) (hn:∀b,T b∈bs→w.heap.size≤b∧b<w'.heap.size)
  (hdis:∀(i j b:G),bs[i]?=T (T b)→bs[j]?=T (T b)→i=j):∃nm',Rel A B w0 nm' (σ.inst d rs) (a.put (T d) v).tmps w':=by
 let inst:Ad:=fun n=>if n % 2=1 then(bs[(n / 2) % 64]?).join else none
 have hinst:∀n b,inst n=T b→n % 2=1∧bs[(n / 2) % 64]?=T (T b):=by
  intro n b h;simp only[inst] at h;split at h
  ·rename_i h1
   refine⟨h1,?_⟩;cases hq:bs[(n / 2) % 64]? with
   | none=>rw[hq] at h; cases h
   | some q=>rw[hq] at h; simp at h; rw[h]
  ·cases h
 have hl:=hr.len
 have R1:=R.grow hf hb inst (B7 σ.rows (Bq d rs)) (fun n b _ h=>hn b (O (hinst n b h).2)) (fun n m b h1 h2 h3 h4=>by
   obtain⟨k1,k2⟩:=hinst n b h3;obtain⟨k3,k4⟩:=hinst m b h4;have:=hdis _ _ _ k2 k4;unfold BF at h1 h2
   omega) (fun id hid=>MX _ _ _ _ _ (by omega) hid)
 have hview:∀b C,Af (fun b fr=>T b∉bs∧((w.heap.size≤b∧fr=(0,0))∨((∀i,nm i≠T b)∧A b fr))) w' b C→Ab A (AF d inst nm) w' b C:=by
  rintro b C ⟨cc,tt,fr,⟨h1,h2⟩,h3⟩
  refine⟨fun i=> ?_,cc,tt,fr,?_,h3⟩
  ·unfold AF;split
   ·intro e; exact h1 (O (hinst i b e).2)
   ·intro e;rcases h2 with h2|h2
    ·have:=R.names i b e; omega
    ·exact h2.1 i e
  ·rcases h2 with h2|h2
   ·obtain⟨h2,rfl⟩:=h2;exact R.all.all b (.inl (Nat.le_trans R.size h2))
   ·exact h2.2
 have hr2:RRel (Ab A (AF d inst nm) w') w' rs v bs:=by
  refine hr.conv fun c hc=> ?_
  rcases hA with hA|hA
  ·left
   rintro b C ⟨cc,tt,fr,⟨h1,h2⟩,h3⟩
   exact hview b C ⟨cc,tt,fr,⟨h1,h2.imp id (hA b fr)⟩,h3⟩
  ·exact .inr (hA c hc)
 have hv:VRel (cx A (AF d inst nm) {σ with rows:=B7 σ.rows (Bq d rs)} w') (Bt d rs) v:=by
  refine Pd hr2 fun i=>⟨fun sz es e=> ?_,fun b e=> ?_⟩
  ·exact MW _ _ _ _ _ _ _ e
  ·have hi:i<64:=by have:=(L.1 e).1; omega
   show AF d inst nm (2*(d*64+(0+i))+1)=b
   unfold AF;rw[if_pos (.inr (by omega))];simp only[inst];rw[if_pos (by omega),show(2*(d*64+(0+i))+1) / 2 % 64=i by omega,e];rfl
 exact⟨_,R1.put hd hv⟩
end
section
variable {A : Ar} {B : G} {w0 : Base} {w : World} {nm : Ad} {σ : St} {a : Act}
theorem RM{h h':A6}{w:World}{b sz cap:G}{es:F (F D)}(H:OwnB h w b sz cap es)(hf:∀e∈es,∀d∈e,d.flat=true):OwnB h' w b sz cap es:=by
 obtain⟨h1,h2,h3,C,t,h4,h5,h6⟩:=H;exact⟨h1,h2,h3,C,t,h4,h5,h6.flat hf⟩
theorem Ep{h:A6}:∀b C,Bu b C→h b C:=fun _ _ h=>h.elim
theorem OwnB.any{h:A6}{w:World}{b sz cap:G}{es:F (F D)}(H:OwnB Bu w b sz cap es):OwnB h w b sz cap es:=by
 obtain⟨h1,h2,h3,C,t,h4,h5,h6⟩:=H;exact⟨h1,h2,h3,C,t,h4,h5,h6.mono Ep⟩
def AH(nm:Ad)(ids:F G):F (E G):=ids.map fun id=>nm (2*id+1)
theorem Vs{ids:F G}{R0:Ai}{c:AC}{v:Value}{x:XC}(H:CRel (cx A nm σ w) c v)(hr:BZ σ.rows ids=T R0)(hf:CM R0)(hx:J2 ids c=T x):Xm w (AH nm ids) R0 x v:=by
 cases c with
 | dat d=>
  simp only[J2] at hx
  cases hd:d.flat with
  | false=>simp[hd] at hx
  | true=>
   simp only[hd,cond_true,Option.some.injEq] at hx
   subst hx;cases H with | dat H=>
   exact .d (H.flat hd)
 | own id=>
  simp only[J2,N] at hx
  obtain⟨j,hj,rfl⟩:=hx;have hid:=NE hj;obtain⟨hl,hat⟩:=He hr;have hb:(AH nm ids)[j]?=T (nm (2*id+1)):=by simp[AH,hid]
  have hR:R0[j]?=A1 σ.rows id:=by rw[hat j,hid]; rfl
  cases hfd:A1 σ.rows id with
  | none=>
   rw[hfd] at hR
   have:j<ids.length:=(L.1 hid).1;rw[List.getElem?_eq_none_iff] at hR
   omega
  | some p=>
   obtain⟨sz,es⟩:=p;rw[hfd] at hR
   rcases H.inv_own hfd with ⟨rfl,k1,a0,rfl⟩|⟨b,cap,k1,k2,rfl⟩
   ·exact .nil hR (by rw[hb]; exact congrArg T k1)
   ·exact .r hR (by rw[hb]; exact congrArg T k1) (RM k2 fun e he d hd=>hf _ (O hR) e he d hd) rfl
 | _=>simp[J2] at hx
theorem Vt{ids:F G}{R0:Ai}(hr:BZ σ.rows ids=T R0)(hf:CM R0):∀{cs:F AC} {vs:F Value} {xs:F XC},CRels (cx A nm σ w) cs vs→LJ ids cs=T xs→Xl w (AH nm ids) R0 xs vs
 | [],_,xs,.nil,hx=>by simp[LJ] at hx; subst hx; exact .nil
 | c::cs,_,xs,.cons H Hs,hx=>by
  unfold LJ at hx
  split at hx
  ·rename_i x xs' h1 h2
   cases hx;exact .cons (Vs H hr hf h1) (Vt hr hf Hs h2)
  ·cases hx
theorem pm{ids:F G}{R0:Ai}{av:AV}{v:Value}{x:XV}(hr:BZ σ.rows ids=T R0)(hf:CM R0)(H:VRel (cx A nm σ w) av v)(hx:Q3 ids av=T x):Xn w (AH nm ids) R0 x v:=by
 unfold Q3 at hx
 split at hx
 ·simp only[N] at hx
  obtain⟨c,h1,rfl⟩:=hx;exact .sc (Vs H.inv_sc hr hf h1)
 ·simp only[N] at hx
  obtain⟨cs,h1,rfl⟩:=hx;obtain⟨vs,rfl,hcs⟩:=H.inv_ag;exact .ag (Vt hr hf hcs h1)
 ·cases hx
theorem Vu{ids:F G}{R0:Ai}(R:Rel A B w0 nm σ a.tmps w)(hr:BZ σ.rows ids=T R0)(hf:CM R0):∀{xs:F Operand} {ys:F Opd} {ds:F XV},BG xs=T ys→σ.toXVs ids ys=T ds→Xk w (AH nm ids) R0 ds (xs.map a.eval)
 | [],ys,ds,hy,hd=>by simp[BG] at hy; subst hy; simp[St.toXVs] at hd; subst hd; exact .nil
 | x::xs,ys,ds,hy,hd=>by
  simp only[BG] at hy
  split at hy
  ·rename_i y ys' h1 h2
   cases hy;simp only[St.toXVs] at hd
   split at hd
   ·rename_i d ds' h3 h4
    cases hd;exact .cons (pm hr hf (Al R h1) h3) (Vu R hr hf h2 h4)
   ·cases hd
  ·cases hy
theorem Rel.behindX(R:Rel A B w0 nm σ a.tmps w){d:G}{ids:F G}{R0 R1:Ai}{r:D}{w':World}{v:Value}(hd:d<a.tmps.size)(hnd:ids.Nodup)(hr:BZ σ.rows ids=T R0)(hl:CX R0 R1=true)
  (hb:BelowX w.heap.size (.of w (B5 (AH nm ids))) w') (hv:Rep Bu r v) (hrow:∀(j b:G),(AH nm ids)[j]?=T (T b)→∃sz es cap,R1[j]?=T (sz,es)∧OwnB Bu w' b sz cap es) :
  Rel A B w0 nm (σ.instX d ids R1 r) (a.put (T d) v).tmps w':=by
 obtain⟨hlen,hat⟩:=He hr
 have hnp:∀i b,B5 (AH nm ids) i=T b→∃(j id:G),ids[j]?=T id∧nm (2*id+1)=T b:=by
  intro i b h;obtain⟨j,_,h2⟩:=Fw h;simp only[AH,List.getElem?_map,N] at h2
  obtain⟨id,h3,h4⟩:=h2;exact⟨j,id,h3,h4⟩
 have hM:∀b,Base.M (.of w (B5 (AH nm ids))) b→∃(j id:G),ids[j]?=T id∧nm (2*id+1)=T b:=fun b hmm=>by
  obtain⟨i,_,e⟩:=Base.of_M hmm;exact hnp i b e
 have hbel:BelowX B w0 w':=R.below.after hb R.size R.there fun i b e=>by
  obtain⟨j,id,_,h⟩:=hnp i b e;exact(R.names _ _ h).1
 have hsame:∀b,b<w.heap.size→(∀id∈ids,nm (2*id+1)≠T b)→w'.heap[b]?=w.heap[b]?:=fun b hlt h=>hb.block b hlt (fun hm=>by
  obtain⟨j,id,h1,h2⟩:=hM b hm;exact h id (O h1) h2) fun hv=>hv.elim
 have hview:∀b C,Ab A nm w b C→Ab A nm w' b C:=Cf fun b hlt hn=>⟨hn,hsame b hlt fun id _=>hn _⟩
 have hcell:∀(σ':St) c v,σ'.rows=Cc σ.rows ids R1→CRel (cx A nm σ w) c v→CRel (cx A nm σ' w') c v:=by
  intro σ' c v hrs H;by_cases hc:∃id∈ids,c.has id=true
  ·obtain⟨id,hid,hc⟩:=hc;obtain⟨j,hj⟩:=List.getElem?_of_mem hid;have hR:R0[j]?=A1 σ.rows id:=by rw[hat j,hj]; rfl
   have hjl:j<R0.length:=by rw[hlen]; exact(L.1 hj).1
   obtain⟨sz,es⟩:G × F (F D):=R0[j];have hR0:R0[j]?=T R0[j]:=List.getElem?_eq_getElem hjl;obtain⟨sz,es,hse⟩:∃sz es,R0[j]=(sz,es):=⟨_,_,rfl⟩;rw[hse] at hR0
   obtain⟨es',h1,h2⟩:=Uz hl hR0;have hx:A1 (cx A nm σ w).rs id=T (sz,es):=hR.symm.trans hR0
   have hy:A1 (cx A nm σ' w').rs id=T (sz,es'):=by
    show A1 σ'.rows id=_
    rw[hrs];exact PM hnd hj h1
   refine H.turn hc hx hy h2 rfl fun b cap hn own=> ?_
   have hbl:(AH nm ids)[j]?=T (T b):=by
    have hn':nm (2*id+1)=T b:=hn;simp[AH,hj,hn']
   obtain⟨sz',es'',cap',h3,h4⟩:=hrow j b hbl;rw[h1] at h3
   cases h3;obtain⟨k1,k2,k3,C',t',k4,k5,k6⟩:=h4;obtain⟨q1,q2,q3,C,t,q4,q5,q6⟩:=own;have hm:Base.M (.of w (B5 (AH nm ids))) b:= .inl ⟨Av+2*j+1,by omega,IL hbl⟩;obtain⟨C2,e1,e2⟩:=hb.room b hm C t (0,0) q4;rw[k4] at e1
   cases e1;have:cap'*sz=cap*sz:=by rw[← k5,← q5,e2]
   have hcap:cap'=cap:=Nat.eq_of_mul_eq_mul_right k1 this;subst hcap;exact⟨k1,k2,k3,C',t',k4,k5,k6.mono Ep⟩
  ·have hno:∀id,c.has id=true→id∉ids:=fun id h1 h2=>hc ⟨id,h2,h1⟩
   refine H.move hview (fun id hid=> .inr ⟨?_,rfl,fun b hbn=> ?_⟩) (fun id _ b hb2=>hb2)
   ·show A1 σ'.rows id=A1 σ.rows id
    rw[hrs,NF (hno id hid)]
   ·refine hsame b (R.names _ _ hbn).2 fun id' hid' e=>hno id hid ?_
    have:=R.inj _ _ _ hbn e;have e3:id=id':=by omega
    exact e3▸hid'
 have R1':Rel A B w0 nm {σ with rows:=Cc σ.rows ids R1} a.tmps w':=by
  refine⟨hbel,Nat.le_trans R.size hb.size,R.all,R.good,fun i b hi=> ?_,R.inj,R.pin,fun k=>(R.env k).to fun c v _=>hcell _ c v rfl,fun id cs hcs=> ?_⟩
  ·obtain⟨h1,h2⟩:=R.names i b hi;exact⟨h1,Nat.lt_of_lt_of_le h2 hb.size⟩
  ·obtain⟨b,C,t,h1,h2,h3⟩:=R.bxs id cs hcs;refine⟨b,C,t,h1,?_,h3.to fun c v _=>hcell _ c v rfl⟩;refine(hsame b (R.names _ _ h1).2 fun id' _ e=> ?_).trans h2;have:=R.inj _ _ _ h1 e;omega
 exact R1'.put hd (.v (.sc (.dat (hv.mono Ep))))
end
end Go.Vi
