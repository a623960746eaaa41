/-
The value level. No condition.
-/
import Derived.Test.YtmgfndipofbbaaaGreatCVi36
namespace Go.Vi
set_option linter.all false
open And renaming intro → E
open List renaming map → G
open Option renaming some → T
open _root_ renaming List → F
inductive DVS (h:C4):DV→Value→Prop
 | sc {d v}:RepS h d v→DVS h (.sc d) v
 | ag {ds vs}:RepSs h ds vs→ds.length=vs.length→DVS h (.ag ds) (.agg vs.toArray)
inductive VV where
 | d (x:D)
 | v (x:DV)
inductive VVRel (h:C4):VV→Value→Prop
 | d {x v}:Rep A5f x v→VVRel h (.d x) v
 | v {x v}:DVS h x v→VVRel h (.v x) v
inductive VVRels (h:C4):F VV→F Value→Prop
 | nil:VVRels h [] []
 | cons {x v xs vs}:VVRel h x v→VVRels h xs vs→VVRels h (x::xs) (v::vs)
theorem VVRels.len{h:C4}:∀{xs vs},VVRels h xs vs→xs.length=vs.length
 | _,_,.nil=>rfl
 | _,_,.cons _ b=>by simp[b.len]
theorem VVRels.get{h:C4}:∀{xs:F VV} {vs:F Value} (i:Nat) {x:VV} {v:Value},VVRels h xs vs→xs[i]?=T x→vs[i]?=T v→VVRel h x v
 | _,_,_,_,_,.nil,hd,_=>by simp at hd
 | _,_,0,_,_,.cons a _,hd,hv=>by simp at hd hv; subst hd hv; exact a
 | _,_,i+1,_,_,.cons _ b,hd,hv=>VVRels.get i b (by simpa using hd) (by simpa using hv)
def fr0(A:Reg):Reg:=fun b fr=>A b fr∧fr=(0,0)
def C4f(w:World)(A:Reg):Base:=⟨w,fun _=>none,fun _=>False,fun _ h=>h.elim,fun b=>A b (0,0)∧∃c t,w.heap[b]?=T (.cells c t (0,0)),fun b _ h=>h.elim (fun⟨i,_,e⟩=>by cases e) fun h=>h⟩
theorem C7u{w:World}{A:Reg}{b:Nat}(h:(C4f w A).M b):False:=h.elim (fun⟨i,_,e⟩=>by cases e) fun h=>h
def FCd(P:Program)(f:FuncId)(xs:F VV)(r:D):Prop:=
 ∀(w:World) (A:Reg) (vs:F Value),(∀w2,BelowX w.heap.size (C4f w A) w2→GoodW w2)→VVRels (E4 (fr0 A) w) xs vs→Calls P f vs.toArray w fun e w'=>
  ∃v,e= .returned v∧Rep A5f r v∧BelowX w.heap.size (C4f w A) w'
def VV.av:VV→AV
 | VV.d x=> .v (.sc (.dat x))
 | VV.v (DV.sc y)=> .v (.sc (.vol y))
 | VV.v (DV.ag ys)=> .v (.ag (ys.map .vol))
section
variable {P : Program}
end
def B8m:F AC→Option (F D)
 | []=>T []
 | .vol d::cs=>(B8m cs).map (d:: ·)
 | _=>none
def D5h:AV→Option VV
 | .v (.sc (.dat d))=>bif d.flat then T (.d d) else none
 | .v (.sc (.vol d))=>T (.v (.sc d))
 | .v (.ag cs)=>(B8m cs).map fun ds=> .v (.ag ds)
 | _=>none
def B8z:F AV→Option (F VV)
 | []=>T []
 | a::r=>match D5h a,B8z r with
  | some x,T xs=>T (x::xs)
  | _,_=>none
section
variable {P : Program} {A : Ar} {B : Nat} {w0 : Base} {w : World} {nm : C3} {σ : St} {tmps : Array Value}
def C6d(A:Ar):Reg:=fun b _=>∃C,A.v b C
theorem Rel.volMove(R:Rel A B w0 nm σ tmps w):∀b C,A.v b C→∃C',E4 (fr0 (C6d A)) w b C'∧ShL C C':=fun b C hC=>by
 obtain⟨c,t,fr,h1,h2,h3,_⟩:=R.volAt hC
 exact⟨c.toList,⟨c,t,fr,⟨⟨C,hC⟩,h3⟩,h1,rfl⟩,h2⟩
theorem C1k{h':C4}{X:Cx}(hh:∀b C,X.v b C→∃C',h' b C'∧ShL C C'):∀{cs:F AC} {vs:F Value} {ds:F D},CRels X cs vs→B8m cs=T ds→RepSs h' ds vs∧ds.length=vs.length
 | [],_,ds,.nil,h=>by simp[B8m] at h; subst h; exact⟨.nil,rfl⟩
 | c::cs,_,ds,.cons a b,h=>by
  cases c<;>simp[B8m] at h
  obtain⟨ds',h1,rfl⟩:=h
  obtain⟨k1,k2⟩:=C1k hh b h1
  cases a with | vol p q=>exact⟨.cons (p.move hh q) k1,by simp[k2]⟩
theorem D7n(R:Rel A B w0 nm σ tmps w){av:AV}{v:Value}{x:VV}(H:VRel (cx A nm σ w) av v)(h:D5h av=T x):VVRel (E4 (fr0 (C6d A)) w) x v:=by
 unfold D5h at h
 split at h
 ·rename_i d
  cases hf:d.flat with
  | false=>rw[hf] at h; cases h
  | true=>
   rw[hf] at h
   cases h
   exact .d (H.inv_sc.inv_dat.flat hf)
 ·cases h
  have hc:=H.inv_sc
  cases hc with | vol p q=>exact .v (.sc (p.move R.volMove q))
 ·simp only[Option.map_eq_some_iff] at h
  obtain⟨ds,h1,rfl⟩:=h
  obtain⟨vs,rfl,hcs⟩:=H.inv_ag
  obtain⟨k1,k2⟩:=C1k (X:=cx A nm σ w) R.volMove hcs h1
  exact .v (.ag k1 k2)
 ·cases h
theorem C1h(R:Rel A B w0 nm σ tmps w):∀{avs:F AV} {vs:F Value} {xs:F VV},B72 (cx A nm σ w) avs vs→B8z avs=T xs→VVRels (E4 (fr0 (C6d A)) w) xs vs
 | [],vs,xs,H,h=>by
  simp[B8z] at h
  subst h
  obtain rfl:vs= []:=List.length_eq_zero_iff.1 H.1.symm
  exact .nil
 | a::avs,vs,xs,H,h=>by
  unfold B8z at h
  split at h
  ·rename_i x xs' h1 h2
   cases h
   cases vs with
   | nil=>have:=H.1; simp at this
   | cons v vs=>
    exact .cons (D7n R (H.2 0 a v rfl rfl) h1) (C1h R ⟨by have:=H.1; simpa using this,fun i u v hu hv=>H.2 (i+1) u v (by simpa using hu) (by simpa using hv)⟩ h2)
  ·cases h
theorem FCd.callC{f:FuncId}{xs:F VV}{r:D}(H:FCd P f xs r){avs:F AV}(hx:B8z avs=T xs):B1h P f avs σ σ (.v (.sc (.dat r))):=by
 intro A B w0 w nm tmps vs R hvs
 have after:∀w2,BelowX w.heap.size (C4f w (C6d A)) w2→BelowX B w0 w2:=fun w2 h=>R.below.afterZ rfl h R.size R.there (fun b hb=>(C7u hb).elim) fun b ⟨⟨C,hC⟩,_⟩=> .inr (R.all.vol b C hC).1
 refine(H w (C6d A) vs (fun w2 h=>R.good w2 (after w2 h)) (C1h R hvs hx)).mono fun e w' h=> ?_
 obtain⟨v,rfl,hv,hb⟩:=h
 have hsame:∀b,b<w.heap.size→¬w0.vv b→w'.heap[b]?=w.heap[b]?:=fun b hlt hn=>hb.block b hlt (fun h=>C7u h) fun⟨⟨C,hC⟩,_⟩=>hn (R.all.vol b C hC).1
 have hnm:∀i b,nm i=T b→¬w0.vv b:=fun i b hi hv=>by
  rcases(R.names i b hi).1 with h1|h1
  ·have:=R.below.vlt b hv; omega
  ·exact w0.no b hv h1
 have hview:∀b C,B8 A nm w b C→B8 A nm w' b C:=by
  rintro b C ⟨h1,c,t,fr,hA,h2,h3⟩
  exact⟨h1,c,t,fr,hA,(hsame b (B4h h2) fun hv=>R.all.vout b fr hv hA).trans h2,h3⟩
 refine⟨v,nm,rfl,?_,.v (.sc (.dat (hv.mono A6z)))⟩
 refine R.carry (f:=fun c=>c) (after w' hb) (Nat.le_trans R.size hb.size) (fun i b hi=> ?_) R.inj (fun _ _=>rfl) (fun k=>by rw[AV.mapId]) (fun id=>by simp) (fun id cs _ b hbn=>⟨hbn,hsame b (R.names _ _ hbn).2 (hnm _ _ hbn)⟩) (fun c v _ hr=> ?_)
 ·obtain⟨h1,h2⟩:=R.names i b hi
  exact⟨h1,Nat.lt_of_lt_of_le h2 hb.size⟩
 ·exact hr.move hview (fun id _=> .inr ⟨rfl,rfl,fun b hbn=>hsame b (R.names _ _ hbn).2 (hnm _ _ hbn)⟩) (fun id _ b hbn=>hbn)
end
def AC.wipe:AC→AC
 | .dat d=>bif d.fl then .dat d else .undef
 | c=>c
section
variable {P : Program} {A : Ar} {B : Nat} {w0 : Base} {w : World} {nm : C3} {σ : St} {tmps : Array Value}
end
section
variable {σ : St}
theorem D98{rs:Rows}{es:F (F D)}:B0g rs (.v (.sc (.old (.sl es))))=T (.v (.sc (.dat (.int .i64 es.length)))):=rfl
theorem E0o{rs:Rows}{es:F (F D)}:B0g rs (.v (.sc (.vol (.sl es))))=T (.v (.sc (.dat (.int .i64 es.length)))):=rfl
theorem D3r{α:Type}{rs:Rows}{sz:Nat}{xs:F α}{row:α→F D} [Row row sz]{kd:IntKind}{i:Int}:A3z rs sz (.v (.sc (.old (.sl (G row xs))))) (.v (.sc (.dat (.int kd i))))=(ix xs i).map fun x=> .v (.sc (.old (.pd (row x)))):=by
 simp only[A3z,B70]
 cases ix xs i with
 | none=>rfl
 | some x=>simp[Row.len (row:=row) (sz:=sz),Row.pos row]
theorem D47{α:Type}{rs:Rows}{sz:Nat}{xs:F α}{row:α→F D} [Row row sz]{kd:IntKind}{i:Int}:A3z rs sz (.v (.sc (.vol (.sl (G row xs))))) (.v (.sc (.dat (.int kd i))))=(ix xs i).map fun x=> .v (.sc (.vol (.pd (row x)))):=by
 simp only[A3z,B70]
 cases ix xs i with
 | none=>rfl
 | some x=>simp[Row.len (row:=row) (sz:=sz),Row.pos row]
theorem D7g{g:Bool}{n:Nat}{cs:F D}:A4j σ g n (.v (.sc (.old (.pd cs))))=A27 (G A8b cs) 0 g n:=rfl
theorem D6y{n:Nat}{es:F (F D)}{cs:F D}:A4j σ false n (.v (.sc (.vol (.pd (.sl es::cs)))))=T (.v (.sc (.vol (.sl es)))):=rfl
theorem E4g{rs:Rows}{off:Nat}{cs:F D}:A1l rs off (.v (.sc (.old (.pd cs))))=(A63 off cs).map fun cs=> .v (.sc (.old (.pd cs))):=by
 simp only[A1l,B0s]
 split<;>rfl
theorem E6c{rs:Rows}{off:Nat}{cs:F D}:A1l rs off (.v (.sc (.vol (.pd cs))))=(A63 off cs).map fun cs=> .v (.sc (.vol (.pd cs))):=by
 simp only[A1l,B0s]
 split<;>rfl
theorem D6p{cs:F D}:A9l (.v (.sc (.old (.pd cs))))=T (.v (.sc (.old (.pd cs)))):=rfl
theorem D54{cs:F D}:A9l (.v (.sc (.vol (.pd cs))))=T (.v (.sc (.vol (.pd cs)))):=rfl
theorem D1x{k:IntKind}{n m:Int}{cs:F D}:St.storeV σ 1 (.v (.sc (.vol (.pd (.int k n::cs))))) (.v (.sc (.dat (.int k m))))=T σ:=by cases k<;>rfl
theorem C9v{n m:Bool}{cs:F D}:St.storeV σ 1 (.v (.sc (.vol (.pd (.bool n::cs))))) (.v (.sc (.dat (.bool m))))=T σ:=rfl
theorem C9n{n m:F UInt8}{cs:F D}:St.storeV σ 1 (.v (.sc (.vol (.pd (.str n::cs))))) (.v (.sc (.dat (.str m))))=T σ:=rfl
theorem E6s{k:IntKind}{n:Int}:A8b (.int k n)= .dat (.int k n):=rfl
theorem E58{b:Bool}:A8b (.bool b)= .dat (.bool b):=rfl
theorem E5q{s:F UInt8}:A8b (.str s)= .dat (.str s):=rfl
theorem E69{es:F (F D)}:A8b (.sl es)= .old (.sl es):=rfl
theorem D8t:G A8b []= []:=rfl
theorem D3w{d:D}{ds:F D}:G A8b (d::ds)=A8b d::G A8b ds:=rfl
theorem D40:G AC.vol []= []:=rfl
theorem D2g{d:D}{ds:F D}:G AC.vol (d::ds)= .vol d::G AC.vol ds:=rfl
theorem D78{id:Nat}{d:D}:AC.kill id (.old d)= .old d:=rfl
theorem D8h{id:Nat}{d:D}:AC.kill id (.vol d)= .vol d:=rfl
theorem E1x{id:Nat}{es:F (F D)}{d:D}:AC.frz id es (.old d)= .old d:=rfl
theorem E3o{id:Nat}{es:F (F D)}{d:D}:AC.frz id es (.vol d)= .vol d:=rfl
theorem E5l{k:IntKind}{n:Int}:AC.wipe (.dat (.int k n))= .dat (.int k n):=rfl
theorem E4y{b:Bool}:AC.wipe (.dat (.bool b))= .dat (.bool b):=rfl
theorem E5s{s:F UInt8}:AC.wipe (.dat (.str s))= .dat (.str s):=rfl
theorem E61{es:F (F D)}:AC.wipe (.dat (.sl es))= .undef:=rfl
theorem E5k{cs:F D}:AC.wipe (.dat (.pd cs))= .undef:=rfl
theorem E4e:AC.wipe .undef= .undef:=rfl
theorem E5m:AC.wipe .nil= .nil:=rfl
theorem E44{id:Nat}:AC.wipe (.own id)= .own id:=rfl
theorem E1r{id o:Nat}:AC.wipe (.pb id o)= .pb id o:=rfl
theorem D6l{d:D}:AC.wipe (.old d)= .old d:=rfl
theorem E56{N:F Nat}{d:D}:AV.avoids N (.v (.sc (.old d)))=true:=by simp[AV.avoids,AV.cells,V1.cells,AC.avoids,AC.uses]
end
def E6t:=E @D98 (E @E0o (E @D3r (E @D47 (E @D7g (E @D6y (E @E4g (E @E6c (E @D6p (E @D54 (E @D1x (E @C9v (E @C9n (E @E6s (E @E58 (E @E5q (E @E69 (E @D8t (E @D3w (E @D40 (E @D2g (E @D78 (E @D8h (E @E1x (E @E3o (E @E5l (E @E4y (E @E5s (E @E61 (E @E5k (E @E4e (E @E5m (E @E44 (E @E1r (E @D6l @E56))))))))))))))))))))))))))))))))))
end Go.Vi
