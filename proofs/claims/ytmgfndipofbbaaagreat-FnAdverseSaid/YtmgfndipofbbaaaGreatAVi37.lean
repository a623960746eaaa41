/-
The value level. No condition.
-/
import Derived.Test.YtmgfndipofbbaaaGreatAVi36
namespace Go.Vi
set_option linter.all false
open And renaming intro → F
open List renaming map → E
open Option renaming some → T
inductive DVS (h:C9):DV→Value→Prop
 | sc {d v}:RepS h d v→DVS h (.sc d) v
 | ag {ds vs}:RepSs h ds vs→ds.length=vs.length→DVS h (.ag ds) (.agg vs.toArray)
inductive VV where
 | d (x:D)
 | v (x:DV)
inductive VVRel (h:C9):VV→Value→Prop
 | d {x v}:Rep A41 x v→VVRel h (.d x) v
 | v {x v}:DVS h x v→VVRel h (.v x) v
inductive VVRels (h:C9):List VV→List Value→Prop
 | nil:VVRels h [] []
 | cons {x v xs vs}:VVRel h x v→VVRels h xs vs→VVRels h (x::xs) (v::vs)
theorem VVRels.len{h:C9}:∀{xs vs},VVRels h xs vs→xs.length=vs.length
 | _,_,.nil=>rfl
 | _,_,.cons _ b=>by simp[b.len]
theorem VVRels.get{h:C9}:∀{xs:List VV} {vs:List Value} (i:Nat) {x:VV} {v:Value},VVRels h xs vs→xs[i]?=T x→vs[i]?=T v→VVRel h x v
 | _,_,_,_,_,.nil,hd,_=>by simp at hd
 | _,_,0,_,_,.cons a _,hd,hv=>by simp at hd hv; subst hd hv; exact a
 | _,_,i+1,_,_,.cons _ b,hd,hv=>VVRels.get i b (by simpa using hd) (by simpa using hv)
def fr0(A:Reg):Reg:=fun b fr=>A b fr∧fr=(0,0)
def C28(w:World)(A:Reg):Base:=⟨w,fun _=>none,fun _=>False,fun _ h=>h.elim,fun b=>A b (0,0)∧∃c t,w.heap[b]?=T (.cells c t (0,0)),fun b _ h=>h.elim (fun⟨i,_,e⟩=>by cases e) fun h=>h⟩
theorem C77{w:World}{A:Reg}{b:Nat}(h:(C28 w A).M b):False:=h.elim (fun⟨i,_,e⟩=>by cases e) fun h=>h
def FCd(P:Program)(f:FuncId)(xs:List VV)(r:D):Prop:=
 ∀(w:World) (A:Reg) (vs:List Value),(∀w2,BelowX w.heap.size (C28 w A) w2→GoodW w2)→VVRels (E3 (fr0 A) w) xs vs→Calls P f vs.toArray w fun e w'=>
  ∃v,e= .returned v∧Rep A41 r v∧BelowX w.heap.size (C28 w A) w'
def VV.av:VV→AV
 | VV.d x=> .v (.sc (.dat x))
 | VV.v (DV.sc y)=> .v (.sc (.vol y))
 | VV.v (DV.ag ys)=> .v (.ag (ys.map .vol))
section
variable {P : Program}
end
def B7u:List AC→Option (List D)
 | []=>T []
 | .vol d::cs=>(B7u cs).map (d:: ·)
 | _=>none
def D72:AV→Option VV
 | .v (.sc (.dat d))=>bif d.flat then T (.d d) else none
 | .v (.sc (.vol d))=>T (.v (.sc d))
 | .v (.ag cs)=>(B7u cs).map fun ds=> .v (.ag ds)
 | _=>none
def B8l:List AV→Option (List VV)
 | []=>T []
 | a::r=>match D72 a,B8l r with
  | some x,T xs=>T (x::xs)
  | _,_=>none
section
variable {P : Program} {A : Ar} {B : Nat} {w0 : Base} {w : World} {nm : C8} {σ : St} {tmps : Array Value}
def C53(A:Ar):Reg:=fun b _=>∃C,A.v b C
theorem Rel.volMove(R:Rel A B w0 nm σ tmps w):∀b C,A.v b C→∃C',E3 (fr0 (C53 A)) w b C'∧ShL C C':=fun b C hC=>by
 obtain⟨c,t,fr,h1,h2,h3,_⟩:=R.volAt hC
 exact⟨c.toList,⟨c,t,fr,⟨⟨C,hC⟩,h3⟩,h1,rfl⟩,h2⟩
theorem C0t{h':C9}{X:Cx}(hh:∀b C,X.v b C→∃C',h' b C'∧ShL C C'):∀{cs:List AC} {vs:List Value} {ds:List D},CRels X cs vs→B7u cs=T ds→RepSs h' ds vs∧ds.length=vs.length
 | [],_,ds,.nil,h=>by simp[B7u] at h; subst h; exact⟨.nil,rfl⟩
 | c::cs,_,ds,.cons a b,h=>by
  cases c<;>simp[B7u] at h
  obtain⟨ds',h1,rfl⟩:=h
  obtain⟨k1,k2⟩:=C0t hh b h1
  cases a with | vol p q=>exact⟨.cons (p.move hh q) k1,by simp[k2]⟩
theorem D6p(R:Rel A B w0 nm σ tmps w){av:AV}{v:Value}{x:VV}(H:VRel (cx A nm σ w) av v)(h:D72 av=T x):VVRel (E3 (fr0 (C53 A)) w) x v:=by
 unfold D72 at h
 split at h
 ·rename_i d
  cases hf:d.flat with
  | false=>rw[hf] at h; cases h
  | true=>
   rw[hf] at h
   cases h
   exact .d (H.inv_sc.inv_dat.flat hf)
 ·cases h
  have hc:=H.inv_sc
  cases hc with | vol p q=>exact .v (.sc (p.move R.volMove q))
 ·simp only[Option.map_eq_some_iff] at h
  obtain⟨ds,h1,rfl⟩:=h
  obtain⟨vs,rfl,hcs⟩:=H.inv_ag
  obtain⟨k1,k2⟩:=C0t (X:=cx A nm σ w) R.volMove hcs h1
  exact .v (.ag k1 k2)
 ·cases h
theorem C1i(R:Rel A B w0 nm σ tmps w):∀{avs:List AV} {vs:List Value} {xs:List VV},B9e (cx A nm σ w) avs vs→B8l avs=T xs→VVRels (E3 (fr0 (C53 A)) w) xs vs
 | [],vs,xs,H,h=>by
  simp[B8l] at h
  subst h
  obtain rfl:vs= []:=List.length_eq_zero_iff.1 H.1.symm
  exact .nil
 | a::avs,vs,xs,H,h=>by
  unfold B8l at h
  split at h
  ·rename_i x xs' h1 h2
   cases h
   cases vs with
   | nil=>have:=H.1; simp at this
   | cons v vs=>
    exact .cons (D6p R (H.2 0 a v rfl rfl) h1) (C1i R ⟨by have:=H.1; simpa using this,fun i u v hu hv=>H.2 (i+1) u v (by simpa using hu) (by simpa using hv)⟩ h2)
  ·cases h
theorem FCd.callC{f:FuncId}{xs:List VV}{r:D}(H:FCd P f xs r){avs:List AV}(hx:B8l avs=T xs):B02 P f avs σ σ (.v (.sc (.dat r))):=by
 intro A B w0 w nm tmps vs R hvs
 have after:∀w2,BelowX w.heap.size (C28 w (C53 A)) w2→BelowX B w0 w2:=fun w2 h=>R.below.afterZ rfl h R.size R.there (fun b hb=>(C77 hb).elim) fun b ⟨⟨C,hC⟩,_⟩=> .inr (R.all.vol b C hC).1
 refine(H w (C53 A) vs (fun w2 h=>R.good w2 (after w2 h)) (C1i R hvs hx)).mono fun e w' h=> ?_
 obtain⟨v,rfl,hv,hb⟩:=h
 have hsame:∀b,b<w.heap.size→¬w0.vv b→w'.heap[b]?=w.heap[b]?:=fun b hlt hn=>hb.block b hlt (fun h=>C77 h) fun⟨⟨C,hC⟩,_⟩=>hn (R.all.vol b C hC).1
 have hnm:∀i b,nm i=T b→¬w0.vv b:=fun i b hi hv=>by
  rcases(R.names i b hi).1 with h1|h1
  ·have:=R.below.vlt b hv; omega
  ·exact w0.no b hv h1
 have hview:∀b C,C7 A nm w b C→C7 A nm w' b C:=by
  rintro b C ⟨h1,c,t,fr,hA,h2,h3⟩
  exact⟨h1,c,t,fr,hA,(hsame b (B4m h2) fun hv=>R.all.vout b fr hv hA).trans h2,h3⟩
 refine⟨v,nm,rfl,?_,.v (.sc (.dat (hv.mono A6l)))⟩
 refine R.carry (f:=fun c=>c) (after w' hb) (Nat.le_trans R.size hb.size) (fun i b hi=> ?_) R.inj (fun _ _=>rfl) (fun k=>by rw[AV.mapId]) (fun id=>by simp) (fun id cs _ b hbn=>⟨hbn,hsame b (R.names _ _ hbn).2 (hnm _ _ hbn)⟩) (fun c v _ hr=> ?_)
 ·obtain⟨h1,h2⟩:=R.names i b hi
  exact⟨h1,Nat.lt_of_lt_of_le h2 hb.size⟩
 ·exact hr.move hview (fun id _=> .inr ⟨rfl,rfl,fun b hbn=>hsame b (R.names _ _ hbn).2 (hnm _ _ hbn)⟩) (fun id _ b hbn=>hbn)
end
def AC.wipe:AC→AC
 | .dat d=>bif d.fl then .dat d else .undef
 | c=>c
section
variable {P : Program} {A : Ar} {B : Nat} {w0 : Base} {w : World} {nm : C8} {σ : St} {tmps : Array Value}
end
section
variable {σ : St}
theorem E01{rs:Rows}{es:List (List D)}:B0t rs (.v (.sc (.old (.sl es))))=T (.v (.sc (.dat (.int .i64 es.length)))):=rfl
theorem D9u{rs:Rows}{es:List (List D)}:B0t rs (.v (.sc (.vol (.sl es))))=T (.v (.sc (.dat (.int .i64 es.length)))):=rfl
theorem D24{α:Type}{rs:Rows}{sz:Nat}{xs:List α}{row:α→List D} [Row row sz]{kd:IntKind}{i:Int}:A3s rs sz (.v (.sc (.old (.sl (E row xs))))) (.v (.sc (.dat (.int kd i))))=(ix xs i).map fun x=> .v (.sc (.old (.pd (row x)))):=by
 simp only[A3s,B8p]
 cases ix xs i with
 | none=>rfl
 | some x=>simp[Row.len (row:=row) (sz:=sz),Row.pos row]
theorem D3o{α:Type}{rs:Rows}{sz:Nat}{xs:List α}{row:α→List D} [Row row sz]{kd:IntKind}{i:Int}:A3s rs sz (.v (.sc (.vol (.sl (E row xs))))) (.v (.sc (.dat (.int kd i))))=(ix xs i).map fun x=> .v (.sc (.vol (.pd (row x)))):=by
 simp only[A3s,B8p]
 cases ix xs i with
 | none=>rfl
 | some x=>simp[Row.len (row:=row) (sz:=sz),Row.pos row]
theorem D6l{g:Bool}{n:Nat}{cs:List D}:A1s σ g n (.v (.sc (.old (.pd cs))))=A1k (E A79 cs) 0 g n:=rfl
theorem D6w{n:Nat}{es:List (List D)}{cs:List D}:A1s σ false n (.v (.sc (.vol (.pd (.sl es::cs)))))=T (.v (.sc (.vol (.sl es)))):=rfl
theorem E42{rs:Rows}{off:Nat}{cs:List D}:A1i rs off (.v (.sc (.old (.pd cs))))=(A63 off cs).map fun cs=> .v (.sc (.old (.pd cs))):=by
 simp only[A1i,B0k]
 split<;>rfl
theorem E66{rs:Rows}{off:Nat}{cs:List D}:A1i rs off (.v (.sc (.vol (.pd cs))))=(A63 off cs).map fun cs=> .v (.sc (.vol (.pd cs))):=by
 simp only[A1i,B0k]
 split<;>rfl
theorem D45{cs:List D}:A9l (.v (.sc (.old (.pd cs))))=T (.v (.sc (.old (.pd cs)))):=rfl
theorem D5o{cs:List D}:A9l (.v (.sc (.vol (.pd cs))))=T (.v (.sc (.vol (.pd cs)))):=rfl
theorem C94{k:IntKind}{n m:Int}{cs:List D}:St.storeV σ 1 (.v (.sc (.vol (.pd (.int k n::cs))))) (.v (.sc (.dat (.int k m))))=T σ:=by cases k<;>rfl
theorem C98{n m:Bool}{cs:List D}:St.storeV σ 1 (.v (.sc (.vol (.pd (.bool n::cs))))) (.v (.sc (.dat (.bool m))))=T σ:=rfl
theorem D0y{n m:List UInt8}{cs:List D}:St.storeV σ 1 (.v (.sc (.vol (.pd (.str n::cs))))) (.v (.sc (.dat (.str m))))=T σ:=rfl
theorem E5k{k:IntKind}{n:Int}:A79 (.int k n)= .dat (.int k n):=rfl
theorem E4t{b:Bool}:A79 (.bool b)= .dat (.bool b):=rfl
theorem E32{s:List UInt8}:A79 (.str s)= .dat (.str s):=rfl
theorem E56{es:List (List D)}:A79 (.sl es)= .old (.sl es):=rfl
theorem D54:E A79 []= []:=rfl
theorem D4s{d:D}{ds:List D}:E A79 (d::ds)=A79 d::E A79 ds:=rfl
theorem D2z:E AC.vol []= []:=rfl
theorem D0r{d:D}{ds:List D}:E AC.vol (d::ds)= .vol d::E AC.vol ds:=rfl
theorem D65{id:Nat}{d:D}:AC.kill id (.old d)= .old d:=rfl
theorem D6i{id:Nat}{d:D}:AC.kill id (.vol d)= .vol d:=rfl
theorem E1a{id:Nat}{es:List (List D)}{d:D}:AC.frz id es (.old d)= .old d:=rfl
theorem E0d{id:Nat}{es:List (List D)}{d:D}:AC.frz id es (.vol d)= .vol d:=rfl
theorem E69{k:IntKind}{n:Int}:AC.wipe (.dat (.int k n))= .dat (.int k n):=rfl
theorem E5d{b:Bool}:AC.wipe (.dat (.bool b))= .dat (.bool b):=rfl
theorem E5c{s:List UInt8}:AC.wipe (.dat (.str s))= .dat (.str s):=rfl
theorem E7h{es:List (List D)}:AC.wipe (.dat (.sl es))= .undef:=rfl
theorem E7l{cs:List D}:AC.wipe (.dat (.pd cs))= .undef:=rfl
theorem E7j:AC.wipe .undef= .undef:=rfl
theorem E4b:AC.wipe .nil= .nil:=rfl
theorem E6p{id:Nat}:AC.wipe (.own id)= .own id:=rfl
theorem E3d{id o:Nat}:AC.wipe (.pb id o)= .pb id o:=rfl
theorem D5v{d:D}:AC.wipe (.old d)= .old d:=rfl
theorem E6u{N:List Nat}{d:D}:AV.avoids N (.v (.sc (.old d)))=true:=by simp[AV.avoids,AV.cells,V1.cells,AC.avoids,AC.uses]
end
def E6j:=F @E01 (F @D9u (F @D24 (F @D3o (F @D6l (F @D6w (F @E42 (F @E66 (F @D45 (F @D5o (F @C94 (F @C98 (F @D0y (F @E5k (F @E4t (F @E32 (F @E56 (F @D54 (F @D4s (F @D2z (F @D0r (F @D65 (F @D6i (F @E1a (F @E0d (F @E69 (F @E5d (F @E5c (F @E7h (F @E7l (F @E7j (F @E4b (F @E6p (F @E3d (F @D5v @E6u))))))))))))))))))))))))))))))))))
end Go.Vi
