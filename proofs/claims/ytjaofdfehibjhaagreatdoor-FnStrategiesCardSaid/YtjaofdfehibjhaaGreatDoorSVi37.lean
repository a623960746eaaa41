/-
The value level. No condition.
-/
import Derived.Test.YtjaofdfehibjhaaGreatDoorSVi36
namespace Go.Vi
set_option linter.all false
open And renaming intro → E
open List renaming map → G
open Option renaming some → T
open _root_ renaming List → F
inductive DVS (h:C4):DV→Value→Prop
 | sc {d v}:RepS h d v→DVS h (.sc d) v
 | ag {ds vs}:RepSs h ds vs→ds.length=vs.length→DVS h (.ag ds) (.agg vs.toArray)
inductive VV where
 | d (x:D)
 | v (x:DV)
inductive VVRel (h:C4):VV→Value→Prop
 | d {x v}:Rep A6y x v→VVRel h (.d x) v
 | v {x v}:DVS h x v→VVRel h (.v x) v
inductive VVRels (h:C4):F VV→F Value→Prop
 | nil:VVRels h [] []
 | cons {x v xs vs}:VVRel h x v→VVRels h xs vs→VVRels h (x::xs) (v::vs)
theorem VVRels.len{h:C4}:∀{xs vs},VVRels h xs vs→xs.length=vs.length
 | _,_,.nil=>rfl
 | _,_,.cons _ b=>by simp[b.len]
theorem VVRels.get{h:C4}:∀{xs:F VV} {vs:F Value} (i:Nat) {x:VV} {v:Value},VVRels h xs vs→xs[i]?=T x→vs[i]?=T v→VVRel h x v
 | _,_,_,_,_,.nil,hd,_=>by simp at hd
 | _,_,0,_,_,.cons a _,hd,hv=>by simp at hd hv; subst hd hv; exact a
 | _,_,i+1,_,_,.cons _ b,hd,hv=>VVRels.get i b (by simpa using hd) (by simpa using hv)
def fr0(A:Reg):Reg:=fun b fr=>A b fr∧fr=(0,0)
def C6q(w:World)(A:Reg):Base:=⟨w,fun _=>none,fun _=>False,fun _ h=>h.elim,fun b=>A b (0,0)∧∃c t,w.heap[b]?=T (.cells c t (0,0)),fun b _ h=>h.elim (fun⟨i,_,e⟩=>by cases e) fun h=>h⟩
theorem D06{w:World}{A:Reg}{b:Nat}(h:(C6q w A).M b):False:=h.elim (fun⟨i,_,e⟩=>by cases e) fun h=>h
def FCd(P:Program)(f:FuncId)(xs:F VV)(r:D):Prop:=
 ∀(w:World) (A:Reg) (vs:F Value),(∀w2,BelowX w.heap.size (C6q w A) w2→GoodW w2)→VVRels (E6 (fr0 A) w) xs vs→Calls P f vs.toArray w fun e w'=>
  ∃v,e= .returned v∧Rep A6y r v∧BelowX w.heap.size (C6q w A) w'
def VV.av:VV→AV
 | VV.d x=> .v (.sc (.dat x))
 | VV.v (DV.sc y)=> .v (.sc (.vol y))
 | VV.v (DV.ag ys)=> .v (.ag (ys.map .vol))
section
variable {P : Program}
end
def C0m:F AC→Option (F D)
 | []=>T []
 | .vol d::cs=>(C0m cs).map (d:: ·)
 | _=>none
def E0w:AV→Option VV
 | .v (.sc (.dat d))=>bif d.flat then T (.d d) else none
 | .v (.sc (.vol d))=>T (.v (.sc d))
 | .v (.ag cs)=>(C0m cs).map fun ds=> .v (.ag ds)
 | _=>none
def C1r:F AV→Option (F VV)
 | []=>T []
 | a::r=>match E0w a,C1r r with
  | some x,T xs=>T (x::xs)
  | _,_=>none
section
variable {P : Program} {A : Ar} {B : Nat} {w0 : Base} {w : World} {nm : D1} {σ : St} {tmps : Array Value}
def C88(A:Ar):Reg:=fun b _=>∃C,A.v b C
theorem Rel.volMove(R:Rel A B w0 nm σ tmps w):∀b C,A.v b C→∃C',E6 (fr0 (C88 A)) w b C'∧ShL C C':=fun b C hC=>by
 obtain⟨c,t,fr,h1,h2,h3,_⟩:=R.volAt hC
 exact⟨c.toList,⟨c,t,fr,⟨⟨C,hC⟩,h3⟩,h1,rfl⟩,h2⟩
theorem C4f{h':C4}{X:Cx}(hh:∀b C,X.v b C→∃C',h' b C'∧ShL C C'):∀{cs:F AC} {vs:F Value} {ds:F D},CRels X cs vs→C0m cs=T ds→RepSs h' ds vs∧ds.length=vs.length
 | [],_,ds,.nil,h=>by simp[C0m] at h; subst h; exact⟨.nil,rfl⟩
 | c::cs,_,ds,.cons a b,h=>by
  cases c<;>simp[C0m] at h
  obtain⟨ds',h1,rfl⟩:=h
  obtain⟨k1,k2⟩:=C4f hh b h1
  cases a with | vol p q=>exact⟨.cons (p.move hh q) k1,by simp[k2]⟩
theorem E0g(R:Rel A B w0 nm σ tmps w){av:AV}{v:Value}{x:VV}(H:VRel (cx A nm σ w) av v)(h:E0w av=T x):VVRel (E6 (fr0 (C88 A)) w) x v:=by
 unfold E0w at h
 split at h
 ·rename_i d
  cases hf:d.flat with
  | false=>rw[hf] at h; cases h
  | true=>
   rw[hf] at h
   cases h
   exact .d (H.inv_sc.inv_dat.flat hf)
 ·cases h
  have hc:=H.inv_sc
  cases hc with | vol p q=>exact .v (.sc (p.move R.volMove q))
 ·simp only[Option.map_eq_some_iff] at h
  obtain⟨ds,h1,rfl⟩:=h
  obtain⟨vs,rfl,hcs⟩:=H.inv_ag
  obtain⟨k1,k2⟩:=C4f (X:=cx A nm σ w) R.volMove hcs h1
  exact .v (.ag k1 k2)
 ·cases h
theorem C33(R:Rel A B w0 nm σ tmps w):∀{avs:F AV} {vs:F Value} {xs:F VV},C1j (cx A nm σ w) avs vs→C1r avs=T xs→VVRels (E6 (fr0 (C88 A)) w) xs vs
 | [],vs,xs,H,h=>by
  simp[C1r] at h
  subst h
  obtain rfl:vs= []:=List.length_eq_zero_iff.1 H.1.symm
  exact .nil
 | a::avs,vs,xs,H,h=>by
  unfold C1r at h
  split at h
  ·rename_i x xs' h1 h2
   cases h
   cases vs with
   | nil=>have:=H.1; simp at this
   | cons v vs=>
    exact .cons (E0g R (H.2 0 a v rfl rfl) h1) (C33 R ⟨by have:=H.1; simpa using this,fun i u v hu hv=>H.2 (i+1) u v (by simpa using hu) (by simpa using hv)⟩ h2)
  ·cases h
theorem FCd.callC{f:FuncId}{xs:F VV}{r:D}(H:FCd P f xs r){avs:F AV}(hx:C1r avs=T xs):B22 P f avs σ σ (.v (.sc (.dat r))):=by
 intro A B w0 w nm tmps vs R hvs
 have after:∀w2,BelowX w.heap.size (C6q w (C88 A)) w2→BelowX B w0 w2:=fun w2 h=>R.below.afterZ rfl h R.size R.there (fun b hb=>(D06 hb).elim) fun b ⟨⟨C,hC⟩,_⟩=> .inr (R.all.vol b C hC).1
 refine(H w (C88 A) vs (fun w2 h=>R.good w2 (after w2 h)) (C33 R hvs hx)).mono fun e w' h=> ?_
 obtain⟨v,rfl,hv,hb⟩:=h
 have hsame:∀b,b<w.heap.size→¬w0.vv b→w'.heap[b]?=w.heap[b]?:=fun b hlt hn=>hb.block b hlt (fun h=>D06 h) fun⟨⟨C,hC⟩,_⟩=>hn (R.all.vol b C hC).1
 have hnm:∀i b,nm i=T b→¬w0.vv b:=fun i b hi hv=>by
  rcases(R.names i b hi).1 with h1|h1
  ·have:=R.below.vlt b hv; omega
  ·exact w0.no b hv h1
 have hview:∀b C,D0 A nm w b C→D0 A nm w' b C:=by
  rintro b C ⟨h1,c,t,fr,hA,h2,h3⟩
  exact⟨h1,c,t,fr,hA,(hsame b (B61 h2) fun hv=>R.all.vout b fr hv hA).trans h2,h3⟩
 refine⟨v,nm,rfl,?_,.v (.sc (.dat (hv.mono A8g)))⟩
 refine R.carry (f:=fun c=>c) (after w' hb) (Nat.le_trans R.size hb.size) (fun i b hi=> ?_) R.inj (fun _ _=>rfl) (fun k=>by rw[AV.mapId]) (fun id=>by simp) (fun id cs _ b hbn=>⟨hbn,hsame b (R.names _ _ hbn).2 (hnm _ _ hbn)⟩) (fun c v _ hr=> ?_)
 ·obtain⟨h1,h2⟩:=R.names i b hi
  exact⟨h1,Nat.lt_of_lt_of_le h2 hb.size⟩
 ·exact hr.move hview (fun id _=> .inr ⟨rfl,rfl,fun b hbn=>hsame b (R.names _ _ hbn).2 (hnm _ _ hbn)⟩) (fun id _ b hbn=>hbn)
end
def AC.wipe:AC→AC
 | .dat d=>bif d.fl then .dat d else .undef
 | c=>c
section
variable {P : Program} {A : Ar} {B : Nat} {w0 : Base} {w : World} {nm : D1} {σ : St} {tmps : Array Value}
end
section
variable {σ : St}
theorem E5a{rs:Rows}{es:F (F D)}:B1u rs (.v (.sc (.old (.sl es))))=T (.v (.sc (.dat (.int .i64 es.length)))):=rfl
theorem E6x{rs:Rows}{es:F (F D)}:B1u rs (.v (.sc (.vol (.sl es))))=T (.v (.sc (.dat (.int .i64 es.length)))):=rfl
theorem D7z{α:Type}{rs:Rows}{sz:Nat}{xs:F α}{row:α→F D} [Row row sz]{kd:IntKind}{i:Int}:A5i rs sz (.v (.sc (.old (.sl (G row xs))))) (.v (.sc (.dat (.int kd i))))=(ix xs i).map fun x=> .v (.sc (.old (.pd (row x)))):=by
 simp only[A5i,C1d]
 cases ix xs i with
 | none=>rfl
 | some x=>simp[Row.len (row:=row) (sz:=sz),Row.pos row]
theorem D78{α:Type}{rs:Rows}{sz:Nat}{xs:F α}{row:α→F D} [Row row sz]{kd:IntKind}{i:Int}:A5i rs sz (.v (.sc (.vol (.sl (G row xs))))) (.v (.sc (.dat (.int kd i))))=(ix xs i).map fun x=> .v (.sc (.vol (.pd (row x)))):=by
 simp only[A5i,C1d]
 cases ix xs i with
 | none=>rfl
 | some x=>simp[Row.len (row:=row) (sz:=sz),Row.pos row]
theorem E16{g:Bool}{n:Nat}{cs:F D}:A5r σ g n (.v (.sc (.old (.pd cs))))=A4c (G A9v cs) 0 g n:=rfl
theorem D9o{n:Nat}{es:F (F D)}{cs:F D}:A5r σ false n (.v (.sc (.vol (.pd (.sl es::cs)))))=T (.v (.sc (.vol (.sl es)))):=rfl
theorem F0f{rs:Rows}{off:Nat}{cs:F D}:A2v rs off (.v (.sc (.old (.pd cs))))=(A8q off cs).map fun cs=> .v (.sc (.old (.pd cs))):=by
 simp only[A2v,B1z]
 split<;>rfl
theorem E86{rs:Rows}{off:Nat}{cs:F D}:A2v rs off (.v (.sc (.vol (.pd cs))))=(A8q off cs).map fun cs=> .v (.sc (.vol (.pd cs))):=by
 simp only[A2v,B1z]
 split<;>rfl
theorem E11{cs:F D}:B05 (.v (.sc (.old (.pd cs))))=T (.v (.sc (.old (.pd cs)))):=rfl
theorem D84{cs:F D}:B05 (.v (.sc (.vol (.pd cs))))=T (.v (.sc (.vol (.pd cs)))):=rfl
theorem D3f{k:IntKind}{n m:Int}{cs:F D}:St.storeV σ 1 (.v (.sc (.vol (.pd (.int k n::cs))))) (.v (.sc (.dat (.int k m))))=T σ:=by cases k<;>rfl
theorem D5x{n m:Bool}{cs:F D}:St.storeV σ 1 (.v (.sc (.vol (.pd (.bool n::cs))))) (.v (.sc (.dat (.bool m))))=T σ:=rfl
theorem D3i{n m:F UInt8}{cs:F D}:St.storeV σ 1 (.v (.sc (.vol (.pd (.str n::cs))))) (.v (.sc (.dat (.str m))))=T σ:=rfl
theorem E9x{k:IntKind}{n:Int}:A9v (.int k n)= .dat (.int k n):=rfl
theorem E9o{b:Bool}:A9v (.bool b)= .dat (.bool b):=rfl
theorem E8b{s:F UInt8}:A9v (.str s)= .dat (.str s):=rfl
theorem E9j{es:F (F D)}:A9v (.sl es)= .old (.sl es):=rfl
theorem D99:G A9v []= []:=rfl
theorem D57{d:D}{ds:F D}:G A9v (d::ds)=A9v d::G A9v ds:=rfl
theorem D51:G AC.vol []= []:=rfl
theorem D4l{d:D}{ds:F D}:G AC.vol (d::ds)= .vol d::G AC.vol ds:=rfl
theorem D9s{id:Nat}{d:D}:AC.kill id (.old d)= .old d:=rfl
theorem D9q{id:Nat}{d:D}:AC.kill id (.vol d)= .vol d:=rfl
theorem E4d{id:Nat}{es:F (F D)}{d:D}:AC.frz id es (.old d)= .old d:=rfl
theorem E4b{id:Nat}{es:F (F D)}{d:D}:AC.frz id es (.vol d)= .vol d:=rfl
theorem F1m{k:IntKind}{n:Int}:AC.wipe (.dat (.int k n))= .dat (.int k n):=rfl
theorem F07{b:Bool}:AC.wipe (.dat (.bool b))= .dat (.bool b):=rfl
theorem F0x{s:F UInt8}:AC.wipe (.dat (.str s))= .dat (.str s):=rfl
theorem E92{es:F (F D)}:AC.wipe (.dat (.sl es))= .undef:=rfl
theorem F04{cs:F D}:AC.wipe (.dat (.pd cs))= .undef:=rfl
theorem E9h:AC.wipe .undef= .undef:=rfl
theorem E76:AC.wipe .nil= .nil:=rfl
theorem F0k{id:Nat}:AC.wipe (.own id)= .own id:=rfl
theorem E5v{id o:Nat}:AC.wipe (.pb id o)= .pb id o:=rfl
theorem E17{d:D}:AC.wipe (.old d)= .old d:=rfl
theorem E8y{N:F Nat}{d:D}:AV.avoids N (.v (.sc (.old d)))=true:=by simp[AV.avoids,AV.cells,V1.cells,AC.avoids,AC.uses]
end
def F06:=E @E5a (E @E6x (E @D7z (E @D78 (E @E16 (E @D9o (E @F0f (E @E86 (E @E11 (E @D84 (E @D3f (E @D5x (E @D3i (E @E9x (E @E9o (E @E8b (E @E9j (E @D99 (E @D57 (E @D51 (E @D4l (E @D9s (E @D9q (E @E4d (E @E4b (E @F1m (E @F07 (E @F0x (E @E92 (E @F04 (E @E9h (E @E76 (E @F0k (E @E5v (E @E17 @E8y))))))))))))))))))))))))))))))))))
end Go.Vi
