/-
The value level. No condition.
-/
import Derived.Test.YtpigjggbnclpbaaGreatOVi19
namespace Go.Vi
set_option linter.all false
open List renaming all_eq_true → O, flatMap_cons → U, all_nil → W, mem_append → Z
open Bool renaming and_true → Q, and_eq_true → V, true → T
open Option renaming some → F
open _root_ renaming List → G, Nat → L
structure Eff where
 d:L
 v:AV
 bx:G (L × G AC)
 rows:Rows
def CV(bx:G (L × G AC)):G (L × G AC)→G (L × G AC)
 | []=>bx
 | (k,x)::r=>put (CV bx r) k x
def St.add(σ:St)(e:Eff):St:={env:=put σ.env e.d e.v,bx:=CV σ.bx e.bx,rows:=B7 σ.rows e.rows}
def Mk.eff:Mk→Eff
 | .box d cs=>⟨d,.v (.sc (.pb d 0)),[(d,cs)],[]⟩
 | .row d sz es=>⟨d,.v (.sc (.own (d*64))),[],[(d*64,sz,es)]⟩
def Eff.avoids(e:Eff)(n:L):Bool:=e.v.cells.all (fun c=> !c.uses n)&&e.bx.all fun p=>p.1 !=n&&p.2.all fun c=> !c.uses n
structure Eff.Grouped (e:Eff):Prop where
 bx:∀p∈e.bx,p.1=e.d
 one:e.bx= []∨∃cs,e.bx= [(e.d,cs)]
 rows:∀p∈e.rows,p.1 / 64=e.d
theorem Py{α:Type}:∀{l:G (L × α)} {n:L} {v:α} {p:L × α},p∈put l n v→p∈l∨p=(n,v)
 | [],n,v,p,h=>by simp[put] at h; exact .inr h
 | (k,u)::r,n,v,p,h=>by
  by_cases hk:k=n
  ·subst hk;simp[put] at h;rcases h with h|h
   ·exact .inr h
   ·exact .inl (by simp[h])
  ·have h':(k==n)=false:=by simpa using hk
   simp[put,h'] at h;rcases h with h|h
   ·exact .inl (by simp[h])
   ·rcases Py h with h|h
    ·exact .inl (by simp[h])
    ·exact .inr h
theorem TN:∀{l m:G (L × G AC)} {p:L × G AC},p∈CV l m→p∈l∨p∈m
 | l,[],p,h=> .inl h
 | l,(k,x)::r,p,h=>by
  simp only[CV] at h;rcases Py h with h|h
  ·rcases TN h with h|h
   ·exact .inl h
   ·exact .inr (by simp[h])
  ·exact .inr (by simp[h])
theorem RF:∀{rows l:Rows} {id:L},(∀p∈l,p.1≠id)→A1 (B7 rows l) id=A1 rows id
 | rows,[],id,_=>rfl
 | rows,(k,x)::r,id,h=>by
  simp only[B7];rw[Bb _ _ (fun e=>h (k,x) (by simp) e.symm)];exact RF fun p hp=>h p (by simp[hp])
theorem RE:∀{rows rows' l:Rows} {id:L},A1 rows id=A1 rows' id→A1 (B7 rows l) id=A1 (B7 rows' l) id
 | rows,rows',[],id,h=>h
 | rows,rows',(k,x)::r,id,h=>by
  simp only[B7];by_cases hk:id=k
  ·subst hk; rw[B9,B9]
  ·rw[Bb _ _ hk,Bb _ _ hk]; exact RE h
theorem RH:∀{bx l:G (L × G AC)} {id:L},(∀p∈l,p.1≠id)→A1 (CV bx l) id=A1 bx id
 | bx,[],id,_=>rfl
 | bx,(k,x)::r,id,h=>by
  simp only[CV];rw[Bb _ _ (fun e=>h (k,x) (by simp) e.symm)];exact RH fun p hp=>h p (by simp[hp])
theorem RG:∀{bx bx' l:G (L × G AC)} {id:L},A1 bx id=A1 bx' id→A1 (CV bx l) id=A1 (CV bx' l) id
 | bx,bx',[],id,h=>h
 | bx,bx',(k,x)::r,id,h=>by
  simp only[CV];by_cases hk:id=k
  ·subst hk; rw[B9,B9]
  ·rw[Bb _ _ hk,Bb _ _ hk]; exact RG h
structure Same (σ σ':St):Prop where
 get:∀k,σ'.get k=σ.get k
 bx:∀id,A1 σ'.bx id=A1 σ.bx id
 rows:∀id,A1 σ'.rows id=A1 σ.rows id
section
variable {A : Ar} {B : L} {w0 : Base} {w : World} {nm : Ad} {σ σ' : St} {tmps : Array Value}
theorem CRel.same{X Y:Cx}{c:AC}{v:Value}(H:CRel X c v)(hn:Y.nm=X.nm)(hr:∀id,A1 Y.rs id=A1 X.rs id)(hh:∀b C,X.h b C→Y.h b C)(hw:Y.w.heap=X.w.heap)(hz:Y.o=X.o∧Y.v=X.v∧Y.new=X.new:=by exact⟨rfl,rfl,rfl⟩):CRel Y c v:=by
 refine H.move hh (fun id _=> .inr ⟨hr id,by rw[hn],fun b _=>by rw[hw]⟩) (fun id _ b hb=>by rw[hn]; exact hb) hz
theorem Rel.same(R:Rel A B w0 nm σ tmps w)(H:Same σ σ'):Rel A B w0 nm σ' tmps w:=by
 refine R.carry (f:=fun c=>c) R.below R.size R.names R.inj (fun _ _=>rfl) (fun k=>by rw[AV.mapId,H.get k]) (fun id=>by rw[H.bx id]; simp) (fun id cs _ b hb=>⟨hb,rfl⟩) (fun c v _ hrel=> ?_);exact hrel.same rfl H.rows (fun b C h=>h) rfl
theorem Rel.drawn(R:Rel A B w0 nm σ tmps w)(n:L):Rel A B w0 nm σ tmps {w with drawn:=n}:=by
 have hb:RowKit.Below w.heap.size w {w with drawn:=n}:=⟨rfl,rfl,rfl,Nat.le_refl _,fun _ _=>rfl⟩;refine R.carry (f:=fun c=>c) (R.below.trans R.there (hb.mono (Nat.le_refl _)) R.size) R.size R.names R.inj (fun _ _=>rfl) (fun k=>by rw[AV.mapId]) (fun id=>by simp) (fun id cs _ b hb=>⟨hb,rfl⟩) (fun c v _ hrel=> ?_);exact hrel.same rfl (fun _=>rfl) (fun b C h=>h) rfl
end
structure Mt (σ0:St) (E:L→Eff) (M:L→Prop) (σ:St):Prop where
 hit:∀i,M i→σ.get (E i).d=(E i).v
 miss:∀k,(∀i,M i→(E i).d≠k)→σ.get k=σ0.get k
 bhit:∀i id,M i→(E i).bx≠ []→(E i).d=id→A1 σ.bx id=A1 (CV σ0.bx (E i).bx) id
 bmiss:∀id,(∀i,M i→(E i).bx≠ []→(E i).d≠id)→A1 σ.bx id=A1 σ0.bx id
 rhit:∀i id,M i→(E i).rows≠ []→(E i).d=id / 64→A1 σ.rows id=A1 (B7 σ0.rows (E i).rows) id
 rmiss:∀id,(∀i,M i→(E i).rows≠ []→(E i).d≠id / 64)→A1 σ.rows id=A1 σ0.rows id
 frs:∀g,σ0.fresh g=T→(∀i,M i→(E i).avoids g=T)→σ.fresh g=T
section
variable {σ0 σ σ' : St} {E E' : L → Eff} {M M' : L → Prop}
theorem Mt.none(hM:∀i,¬M i):Mt σ0 E M σ0:=
 ⟨fun i h=>absurd h (hM i),fun _ _=>rfl,fun i _ h=>absurd h (hM i),fun _ _=>rfl,fun i _ h=>absurd h (hM i),fun _ _=>rfl,fun _ h _=>h⟩
theorem Mt.congr(H:Mt σ0 E M σ)(hM:∀i,M i↔M' i)(hE:∀i,M i→E' i=E i):Mt σ0 E' M' σ:=by
 refine⟨fun i h=> ?_,fun k h=> ?_,fun i id h=> ?_,fun id h=> ?_,fun i id h=> ?_,fun id h=> ?_,fun g h0 h=> ?_⟩
 ·rw[hE i ((hM i).2 h)]; exact H.hit i ((hM i).2 h)
 ·exact H.miss k fun i hi=>by rw[← hE i hi]; exact h i ((hM i).1 hi)
 ·rw[hE i ((hM i).2 h)]; exact H.bhit i id ((hM i).2 h)
 ·exact H.bmiss id fun i hi=>by rw[← hE i hi]; exact h i ((hM i).1 hi)
 ·rw[hE i ((hM i).2 h)]; exact H.rhit i id ((hM i).2 h)
 ·exact H.rmiss id fun i hi=>by rw[← hE i hi]; exact h i ((hM i).1 hi)
 ·exact H.frs g h0 fun i hi=>by rw[← hE i hi]; exact h i ((hM i).1 hi)
theorem Mt.same(H:Mt σ0 E M σ)(H':Mt σ0 E M σ'):Same σ σ':=by
 refine⟨fun k=> ?_,fun id=> ?_,fun id=> ?_⟩
 ·by_cases h:∃i,M i∧(E i).d=k
  ·obtain⟨i,hi,rfl⟩:=h;rw[H.hit i hi,H'.hit i hi]
  ·have h':∀i,M i→(E i).d≠k:=fun i hi e=>h ⟨i,hi,e⟩
   rw[H.miss k h',H'.miss k h']
 ·by_cases h:∃i,M i∧(E i).bx≠ []∧(E i).d=id
  ·obtain⟨i,hi,hb,e⟩:=h;rw[H.bhit i id hi hb e,H'.bhit i id hi hb e]
  ·have h':∀i,M i→(E i).bx≠ []→(E i).d≠id:=fun i hi hb e=>h ⟨i,hi,hb,e⟩
   rw[H.bmiss id h',H'.bmiss id h']
 ·by_cases h:∃i,M i∧(E i).rows≠ []∧(E i).d=id / 64
  ·obtain⟨i,hi,hb,e⟩:=h;rw[H.rhit i id hi hb e,H'.rhit i id hi hb e]
  ·have h':∀i,M i→(E i).rows≠ []→(E i).d≠id / 64:=fun i hi hb e=>h ⟨i,hi,hb,e⟩
   rw[H.rmiss id h',H'.rmiss id h']
theorem Mt.add(H:Mt σ0 E M σ){i:L}(hd:∀j,M j→(E j).d≠(E i).d)(hg:(E i).Grouped):Mt σ0 E (fun j=>M j∨j=i) (σ.add (E i)):=by
 have get_same:(σ.add (E i)).get (E i).d=(E i).v:=by simp[St.add,St.get,B9]
 have get_ne:∀k,k≠(E i).d→(σ.add (E i)).get k=σ.get k:=fun k hk=>by simp[St.add,St.get,Bb _ _ hk]
 have bx_ne:∀id,(E i).bx= []∨(E i).d≠id→A1 (σ.add (E i)).bx id=A1 σ.bx id:=by
  intro id h;rcases h with h|h
  ·simp[St.add,h,CV]
  ·exact RH fun p hp=>by rw[hg.bx p hp]; exact h
 have rows_ne:∀id,(E i).rows= []∨(E i).d≠id / 64→A1 (σ.add (E i)).rows id=A1 σ.rows id:=by
  intro id h;rcases h with h|h
  ·simp[St.add,h,B7]
  ·exact RF fun p hp e=>h (by rw[← hg.rows p hp,e])
 refine⟨fun j h=> ?_,fun k h=> ?_,fun j id h hb e=> ?_,fun id h=> ?_,fun j id h hb e=> ?_,fun id h=> ?_,fun g h0 h=> ?_⟩
 ·rcases h with h|rfl
  ·rw[get_ne _ (hd j h)]; exact H.hit j h
  ·exact get_same
 ·rw[get_ne k (fun e=>h i (.inr rfl) e.symm)];exact H.miss k fun j hj=>h j (.inl hj)
 ·rcases h with h|rfl
  ·rw[bx_ne id (.inr fun e'=>hd j h (e.trans e'.symm))]; exact H.bhit j id h hb e
  ·show A1 (CV σ.bx (E j).bx) id=_
   refine RG (H.bmiss id fun l hl hlb e'=>hd l hl (e'.trans e.symm))
 ·rw[bx_ne id (by
   by_cases hb:(E i).bx= []
   ·exact .inl hb
   ·exact .inr (h i (.inr rfl) hb))]
  exact H.bmiss id fun j hj=>h j (.inl hj)
 ·rcases h with h|rfl
  ·rw[rows_ne id (.inr fun e'=>hd j h (e.trans e'.symm))]; exact H.rhit j id h hb e
  ·show A1 (B7 σ.rows (E j).rows) id=_
   refine RE (H.rmiss id fun l hl hlb e'=>hd l hl (e'.trans e.symm))
 ·rw[rows_ne id (by
   by_cases hb:(E i).rows= []
   ·exact .inl hb
   ·exact .inr (h i (.inr rfl) hb))]
  exact H.rmiss id fun j hj=>h j (.inl hj)
 ·have h1:=H.frs g h0 fun j hj=>h j (.inl hj)
  have h2:=h i (.inr rfl);simp only[St.fresh,Eff.avoids,V,O] at h1 h2 ⊢
  refine⟨h1.1,fun p hp=> ?_,fun p hp=> ?_⟩
  ·rcases Py hp with hp|rfl
   ·exact h1.2.1 p hp
   ·exact h2.1
  ·rcases TN hp with hp|hp
   ·exact h1.2.2 p hp
   ·exact h2.2 p hp
end
def DL(g:Option (L × Bool))(σ:St):Prop:=
 match g with
 | none=>True
 | some (t,want)=>σ.get t= .v (.sc (.dat (.bool want)))
def Md(σ:St)(t:L)(want:Bool):Prop:=(∃b,σ.get t= .v (.sc (.dat (.bool b)))∧b≠want)∨σ.get t= .no
def Mk.d:Mk→L
 | .box d _=>d
 | .row d _ _=>d
inductive Ev (P:Program) (N:G L) (σ:St):AItem→Eff→Prop
 | no {t want o d}:Md σ t want→o.dst=F d→Ev P N σ (F (t,want),o) ⟨d,.no,[],[]⟩
 | pure {g o d v}:DL g σ→(σ.less N).pure o=F (d,v)→v.avoids N=T→Ev P N σ (g,o) ⟨d,v,[],[]⟩
 | made {g o m}:DL g σ→(σ.less N).made o=F m→(match m with | .box d cs=>cs.all (·.avoids N)=T∧cs.all (fun c=> !c.uses d)=T | _=>True)→σ.fresh m.d=T→Ev P N σ (g,o) m.eff
 | call {g d f args ds rs}:DL g σ→(σ.less N).handed P f args ds rs→FC P f ds rs→σ.fresh d=T→(rs.flatMap R1.cells).length≤64→Ev P N σ (g,.call d f args) ⟨d,Bt d rs,[],Bq d rs⟩
 | callv {g d x args f caps ds rs}:DL g σ→(σ.less N).handedV x args f caps ds rs→Bi P f=T→FC P f (ds++caps.map .sc) rs→σ.fresh d=T→(rs.flatMap R1.cells).length≤64→
   Ev P N σ (g,.callv d x args) ⟨d,Bt d rs,[],Bq d rs⟩
section
variable {P : Program} {N : G L} {σ σ' : St}
theorem Oc{g:Option (L × Bool)}{yes no:Prop}(h:AA g σ yes no):(DL g σ∧yes)∨(∃t want,g=F (t,want)∧Md σ t want∧no):=by
 cases g with
 | none=>exact .inl ⟨trivial,h⟩
 | some p=>
  obtain⟨t,want⟩:=p;simp only[AA] at h;split at h
  ·rename_i b hb
   split at h
   ·rename_i e
    subst e;exact .inl ⟨hb,h⟩
   ·rename_i e
    exact .inr ⟨t,want,rfl,.inl ⟨b,hb,e⟩,h⟩
  ·rename_i hb
   exact .inr ⟨t,want,rfl,.inr hb,h⟩
  ·exact h.elim
theorem Ob{t:L}{want:Bool}{yes no:Prop}(hd:Md σ t want)(h:no):AA (F (t,want)) σ yes no:=by
 rcases hd with ⟨b,hb,hne⟩|hb
 ·simp only[AA,hb];rw[if_neg hne];exact h
 ·simp only[AA,hb];exact h
theorem Hy{g:Option (L × Bool)}{yes no:Prop}(hw:DL g σ)(h:yes):AA g σ yes no:=by
 cases g with
 | none=>exact h
 | some p=>
  obtain⟨t,want⟩:=p;simp only[DL] at hw
  simp only[AA,hw,if_true];exact h
theorem PJ{o:AOp}{d:L}{v:AV}(h:σ.pure o=F (d,v)):o.dst=F d∧o.idle=false:=by
 cases o<;>simp only[St.pure,Option.map_eq_some_iff] at h
 case conv=>
  split at h
  ·cases h; exact⟨rfl,rfl⟩
  ·cases h
 case mv=>cases h; exact⟨rfl,rfl⟩
 case zsl=>cases h; exact⟨rfl,rfl⟩
 all_goals first
  | (obtain⟨_,_,h2⟩:=h; cases h2; exact⟨rfl,rfl⟩)
  | cases h
theorem Pt{o:AOp}{m:Mk}(h:σ.made o=F m):o.dst=F m.d∧o.maker=T:=by
 cases o<;>simp only[St.made] at h
 case box=>
  split at h
  ·cases h; exact⟨rfl,rfl⟩
  ·cases h
 case alloc=>cases h; exact⟨rfl,rfl⟩
 case bslice=>
  split at h
  ·split at h
   ·cases h; exact⟨rfl,rfl⟩
   ·cases h
  ·cases h
 case mksl=>
  split at h
  ·split at h
   ·cases h; exact⟨rfl,rfl⟩
   ·cases h
  ·cases h
 case zap=>
  simp only[Option.map_eq_some_iff] at h;obtain⟨p,h1,h2⟩:=h;unfold zapV at h1
  split at h1
  ·split at h1
   ·split at h1
    ·cases h1; cases h2; exact⟨rfl,rfl⟩
    ·cases h1
   ·cases h1
  ·cases h1
 all_goals (cases h)
theorem NH{g:L}:∀{cs:G RC} {j:L},j+cs.length≤64→∀p∈Bw g j cs,p.1 / 64=g
 | [],j,_,p,hp=>by simp[Bw] at hp
 | .v d::cs,j,hl,p,hp=>by
  simp only[Bw] at hp
  simp at hl
  exact NH (by omega) p hp
 | .o sz es::cs,j,hl,p,hp=>by
  simp only[Bw,List.mem_cons] at hp
  simp at hl
  rcases hp with rfl|hp
  ·show(g*64+j) / 64=g; omega
  ·exact NH (by omega) p hp
theorem Ev.dst{it:AItem}{e:Eff}(H:Ev P N σ it e):it.2.dst=F e.d:=by
 cases H with
 | no _ h=>exact h
 | pure _ h _=>exact(PJ h).1
 | @made g o m _ h _ _=>
  rw[(Pt h).1];cases m<;>rfl
 | call=>rfl
 | callv=>rfl
theorem Ev.grouped{it:AItem}{e:Eff}(H:Ev P N σ it e):e.Grouped:=by
 cases H with
 | no=>exact⟨by simp,.inl rfl,by simp⟩
 | pure=>exact⟨by simp,.inl rfl,by simp⟩
 | @made g o m _ h _ _=>
  cases m with
  | box d cs=>exact⟨by simp[Mk.eff],.inr ⟨cs,rfl⟩,by simp[Mk.eff]⟩
  | row d sz es=>exact⟨by simp[Mk.eff],.inl rfl,by simp[Mk.eff]⟩
 | call _ _ _ _ h=>exact⟨by simp,.inl rfl,NH (by omega)⟩
 | callv _ _ _ _ _ h=>exact⟨by simp,.inl rfl,NH (by omega)⟩
theorem Ev.maker{it:AItem}{e:Eff}(H:Ev P N σ it e)(h:e.bx≠ []∨e.rows≠ []):it.2.maker=T∧σ.fresh e.d=T:=by
 cases H with
 | no=>simp at h
 | pure=>simp at h
 | @made g o m _ hm _ hf=>exact⟨(Pt hm).2,by cases m<;>exact hf⟩
 | call _ _ _ hf=>exact⟨rfl,hf⟩
 | callv _ _ _ _ hf=>exact⟨rfl,hf⟩
theorem Tu{g n:L}(hn:n≠g):∀{cs:G RC} {j:L},j+cs.length≤64→∀c∈Da g j cs,c.uses n=false
 | [],j,_,c,hc=>by simp[Da] at hc
 | r::cs,j,hl,c,hc=>by
  simp at hl
  simp only[Da,List.mem_cons] at hc
  rcases hc with rfl|hc
  ·cases r with
   | v d=>rfl
   | o sz es=>simp[RC.inst,AC.uses]; omega
  ·exact Tu hn (by omega) c hc
theorem Tn{g n:L}(hn:n≠g){r:R1}{j:L}(hl:j+r.width≤64):∀c∈(r.inst g j).cells,c.uses n=false:=by
 intro c hc;cases r with
 | sc r=>
  simp only[R1.inst,V1.cells,List.mem_singleton] at hc
  simp only[R1.width] at hl
  subst hc;cases r with
  | v d=>rfl
  | o sz es=>simp[RC.inst,AC.uses]; omega
 | ag cs=>exact Tu hn hl c hc
theorem Tx{g n:L}(hn:n≠g):∀{rs:G R1} {j:L},j+(rs.flatMap R1.cells).length≤64→∀c∈(CE g j rs).flatMap V1.cells,c.uses n=false
 | [],j,_,c,hc=>by simp[CE] at hc
 | r::rs,j,hl,c,hc=>by
  simp only[U,List.length_append] at hl
  rw[← R1.width_eq] at hl
  simp only[CE,U,Z] at hc
  rcases hc with hc|hc
  ·exact Tn hn (by omega) c hc
  ·exact Tx hn (by omega) c hc
theorem Tq{g n:L}(hn:n≠g){rs:G R1}(hl:(rs.flatMap R1.cells).length≤64):∀c∈(Bt g rs).cells,c.uses n=false:=by
 intro c hc;unfold Bt at hc
 split at hc
 ·rename_i r
  simp only[U,List.flatMap_nil,List.append_nil] at hl
  rw[← R1.width_eq] at hl
  exact Tn hn (by omega) c hc
 ·exact Tx hn (by omega) c hc
theorem Ev.avoid{it:AItem}{e:Eff}(H:Ev P N σ it e){n:L}(hn:n∈N)(hne:n≠e.d):e.avoids n=T:=by
 have av:∀{v:AV},v.avoids N=T→v.cells.all (fun c=> !c.uses n)=T:=by
  intro v h;simp only[AV.avoids,AC.avoids,O] at h ⊢
  exact fun c hc=>h c hc n hn
 cases H with
 | no=>rfl
 | pure _ _ h=>simp only[Eff.avoids,W,Q]; exact av h
 | @made g o m _ h hm _=>
  cases m with
  | box d cs=>
   have hne':n≠d:=hne;simp only[AC.avoids,O] at hm
   have h1:(d==n)=false:=by simpa using fun e=>hne' e.symm
   simp only[Mk.eff,Eff.avoids,AV.cells,V1.cells,AC.uses,List.all_cons,W,Q,V,h1];exact⟨rfl,by simpa using fun e=>hne' e.symm,O.2 fun c hc=>hm.1 c hc n hn⟩
  | row d sz es=>
   have hne':n≠d:=hne;have h1:(d*64 / 64==n)=false:=by simp; omega
   simp[Mk.eff,Eff.avoids,AV.cells,V1.cells,AC.uses];omega
 | @call g d f args ds rs _ _ _ _ hl=>
  simp only[Eff.avoids,W,Q,O];intro c hc;simp[Tq hne hl c hc]
 | @callv g d x args f caps ds rs _ _ _ _ _ hl=>
  simp only[Eff.avoids,W,Q,O];intro c hc;simp[Tq hne hl c hc]
theorem di{K:St→Prop}{g:Option (L × Bool)}{o:AOp}(h:AA g σ (ED P N o K σ) (match o.dst with | some d=>K (σ.set d .no) | none=>False)):∃e,Ev P N σ (g,o) e∧K (σ.add e):=by
 rcases Oc h with ⟨hw,hy⟩|⟨t,want,rfl,hb,hn⟩
 ·have plain:(match (σ.less N).pure o with
    | some (d,v)=>v.avoids N=T∧K (σ.set d v)
    | none=>match (σ.less N).made o with
     | some m=>(match m with | .box _ cs=>cs.all (·.avoids N) | _=>T)=T∧(match σ.make m with
      | some σ'=>K σ'
      | none=>False)
     | none=>False)→∃e,Ev P N σ (g,o) e∧K (σ.add e):=by
   intro h;split at h
   ·rename_i d v hp
    exact⟨_,.pure hw hp h.1,h.2⟩
   ·split at h
    ·rename_i m hm
     obtain⟨h1,h2⟩:=h;split at h2
     ·rename_i σ' hmk
      cases m with
      | box d cs=>
       simp only[St.make] at hmk
       split at hmk
       ·rename_i hcond
        cases hmk;simp only[V] at hcond
        exact⟨_,.made hw hm ⟨h1,hcond.2⟩ hcond.1,h2⟩
       ·cases hmk
      | row d sz es=>
       simp only[St.make] at hmk
       split at hmk
       ·rename_i hcond
        cases hmk;exact⟨_,.made hw hm trivial hcond,h2⟩
       ·cases hmk
     ·exact h2.elim
    ·exact h.elim
  cases o<;>first
   | exact plain hy
   | skip
  case call d f args=>
   obtain⟨ds,rs,h1,h2,h3,h4,h5⟩:=hy;exact⟨_,.call hw h1 h2 h3 h4,h5⟩
  case callv d x args=>
   obtain⟨f,caps,ds,rs,h1,h0,h2,h3,h4,h5⟩:=hy;exact⟨_,.callv hw h1 h0 h2 h3 h4,h5⟩
 ·cases hd:o.dst with
  | none=>simp[hd] at hn
  | some d=>
   simp only[hd] at hn
   exact⟨_,.no hb hd,hn⟩
theorem Ev.move{g:Option (L × Bool)}{o:AOp}{e:Eff}(H:Ev P N σ (g,o) e)(hs:Sub (σ.less N) σ' (AItem.slots (g,o)))(hf:o.maker=T→σ.fresh e.d=T→σ'.fresh e.d=T){K:St→Prop}(hK:K (σ'.add e)) :
  AA g σ' (AN P o K σ') (match o.dst with | some d=>K (σ'.set d .no) | none=>False):=by
 have lessGet:∀q,(σ.less N).get q=σ.get q:=by
  intro q;cases N<;>rfl
 have hgs:∀t want,g=F (t,want)→σ'.get t=σ.get t:=by
  rintro t want rfl
  rw[hs.slot t (by simp[AItem.slots]),lessGet]
 have hw:DL g σ→DL g σ':=by
  intro h;cases g with
  | none=>trivial
  | some p=>obtain⟨t,want⟩:=p; simp only[DL] at h ⊢; rw[hgs t want rfl]; exact h
 have hS:∀q∈o.slots,q∈AItem.slots (g,o):=fun q hq=>by simp[AItem.slots,hq]
 cases H with
 | @no t want o d h1 h3=>
  refine Ob ?_ ?_
  ·unfold Md at h1 ⊢
   rw[hgs t want rfl];exact h1
  ·simp only[h3];exact hK
 | @pure g o d v h1 h2 h3=>
  refine Hy (hw h1) ?_;have h4:=hs.pure hS h2;have hid:=(PJ h2).2
  have hstep:σ'.step o=F (σ'.set d v):=by
   cases o<;>first
    | (simp[AOp.idle] at hid; done)
    | (simp[St.pure] at h4; done)
    | (simp only[St.step,h4])
  cases o<;>first
   | (simp[St.pure] at h4; done)
   | (simp only[AN,hstep]; exact hK)
 | @made g o m h1 h2 h3 h4=>
  refine Hy (hw h1) ?_;have h5:=hs.made hS h2;have hp:σ'.pure o=none:=TG h5;have hmk:=(Pt h2).2
  have hfr:σ'.fresh m.d=T:=by
   have:=hf hmk (by cases m<;>exact h4);cases m<;>exact this
  have hmake:σ'.make m=F (σ'.add m.eff):=by
   cases m with
   | box d cs=>
    have hfr':σ'.fresh d=T:=hfr;simp only[St.make,hfr',h3.2,Bool.and_self,if_true];rfl
   | row d sz es=>
    have hfr':σ'.fresh d=T:=hfr;simp only[St.make,hfr',if_true];rfl
  have hstep:σ'.step o=F (σ'.add m.eff):=by
   cases o<;>first
    | (simp[St.made] at h5; done)
    | (simp only[St.step,hp,h5,hmake])
  cases o<;>first
   | (simp[St.made] at h5; done)
   | (simp only[AN,hstep]; exact hK)
 | @call g d f args ds rs h1 h2 h3 h4 h5=>
  refine Hy (hw h1) (.inl ⟨ds,rs,hs.handed (fun q hq=>hS q hq) h2,h3,hf rfl h4,h5,hK⟩)
 | @callv g d x args f caps ds rs h1 h2 h0 h3 h4 h5=>
  exact Hy (hw h1) (.inl ⟨f,caps,ds,rs,hs.handedV (fun q hq=>hS q (by simp only[AOp.slots,Z]; exact .inl hq)) (fun q hq=>hS q (by simp only[AOp.slots,Z]; exact .inr hq)) h2,h0,h3,hf rfl h4,h5,hK⟩)
end
end Go.Vi
