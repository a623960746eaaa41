/-
The value level. No condition.
-/
import Derived.Test.YthneeiblhklckaaGreatDoorPVi36
namespace Go.Vi
set_option linter.all false
open And renaming intro → E
open List renaming map → G
open Option renaming some → T
open _root_ renaming List → F
inductive DVS (h:A4):DV→Value→Prop
 | sc {d v}:RepS h d v→DVS h (.sc d) v
 | ag {ds vs}:RepSs h ds vs→ds.length=vs.length→DVS h (.ag ds) (.agg vs.toArray)
inductive VV where
 | d (x:D)
 | v (x:DV)
inductive VVRel (h:A4):VV→Value→Prop
 | d {x v}:Rep Do x v→VVRel h (.d x) v
 | v {x v}:DVS h x v→VVRel h (.v x) v
inductive VVRels (h:A4):F VV→F Value→Prop
 | nil:VVRels h [] []
 | cons {x v xs vs}:VVRel h x v→VVRels h xs vs→VVRels h (x::xs) (v::vs)
theorem VVRels.len{h:A4}:∀{xs vs},VVRels h xs vs→xs.length=vs.length
 | _,_,.nil=>rfl
 | _,_,.cons _ b=>by simp[b.len]
theorem VVRels.get{h:A4}:∀{xs:F VV} {vs:F Value} (i:Nat) {x:VV} {v:Value},VVRels h xs vs→xs[i]?=T x→vs[i]?=T v→VVRel h x v
 | _,_,_,_,_,.nil,hd,_=>by simp at hd
 | _,_,0,_,_,.cons a _,hd,hv=>by simp at hd hv; subst hd hv; exact a
 | _,_,i+1,_,_,.cons _ b,hd,hv=>VVRels.get i b (by simpa using hd) (by simpa using hv)
def N8(A:AY):AY:=fun b fr=>A b fr∧fr=(0,0)
def Ms(w:World)(A:AY):Base:=⟨w,fun _=>none,fun _=>False,fun _ h=>h.elim,fun b=>A b (0,0)∧∃c t,w.heap[b]?=T (.cells c t (0,0)),fun b _ h=>h.elim (fun⟨i,_,e⟩=>by cases e) fun h=>h⟩
theorem Ro{w:World}{A:AY}{b:Nat}(h:(Ms w A).M b):False:=h.elim (fun⟨i,_,e⟩=>by cases e) fun h=>h
def FCd(P:Program)(f:FuncId)(xs:F VV)(r:D):Prop:=
 ∀(w:World) (A:AY) (vs:F Value),(∀w2,BelowX w.heap.size (Ms w A) w2→GoodW w2)→VVRels (Ah (N8 A) w) xs vs→Calls P f vs.toArray w fun e w'=>
  ∃v,e= .returned v∧Rep Do r v∧BelowX w.heap.size (Ms w A) w'
def VV.av:VV→AV
 | VV.d x=> .v (.sc (.dat x))
 | VV.v (DV.sc y)=> .v (.sc (.vol y))
 | VV.v (DV.ag ys)=> .v (.ag (ys.map .vol))
section
variable {P : Program}
end
def LX:F AC→Option (F D)
 | []=>T []
 | .vol d::cs=>(LX cs).map (d:: ·)
 | _=>none
def Qh:AV→Option VV
 | .v (.sc (.dat d))=>bif d.flat then T (.d d) else none
 | .v (.sc (.vol d))=>T (.v (.sc d))
 | .v (.ag cs)=>(LX cs).map fun ds=> .v (.ag ds)
 | _=>none
def LS:F AV→Option (F VV)
 | []=>T []
 | a::r=>match Qh a,LS r with
  | some x,T xs=>T (x::xs)
  | _,_=>none
section
variable {P : Program} {A : Ar} {B : Nat} {w0 : Base} {w : World} {nm : Ac} {σ : St} {tmps : Array Value}
def LK(A:Ar):AY:=fun b _=>∃C,A.v b C
theorem Rel.volMove(R:Rel A B w0 nm σ tmps w):∀b C,A.v b C→∃C',Ah (N8 (LK A)) w b C'∧ShL C C':=fun b C hC=>by
 obtain⟨c,t,fr,h1,h2,h3,_⟩:=R.volAt hC;exact⟨c.toList,⟨c,t,fr,⟨⟨C,hC⟩,h3⟩,h1,rfl⟩,h2⟩
theorem Vz{h':A4}{X:Cx}(hh:∀b C,X.v b C→∃C',h' b C'∧ShL C C'):∀{cs:F AC} {vs:F Value} {ds:F D},CRels X cs vs→LX cs=T ds→RepSs h' ds vs∧ds.length=vs.length
 | [],_,ds,.nil,h=>by simp[LX] at h; subst h; exact⟨.nil,rfl⟩
 | c::cs,_,ds,.cons a b,h=>by
  cases c<;>simp[LX] at h;obtain⟨ds',h1,rfl⟩:=h;obtain⟨k1,k2⟩:=Vz hh b h1;cases a with | vol p q=>exact⟨.cons (p.move hh q) k1,by simp[k2]⟩
theorem qH(R:Rel A B w0 nm σ tmps w){av:AV}{v:Value}{x:VV}(H:VRel (cx A nm σ w) av v)(h:Qh av=T x):VVRel (Ah (N8 (LK A)) w) x v:=by
 unfold Qh at h;split at h
 ·rename_i d
  cases hf:d.flat with
  | false=>rw[hf] at h; cases h
  | true=>
   rw[hf] at h;cases h;exact .d (H.inv_sc.inv_dat.flat hf)
 ·cases h;have hc:=H.inv_sc;cases hc with | vol p q=>exact .v (.sc (p.move R.volMove q))
 ·simp only[Option.map_eq_some_iff] at h;obtain⟨ds,h1,rfl⟩:=h;obtain⟨vs,rfl,hcs⟩:=H.inv_ag;obtain⟨k1,k2⟩:=Vz (X:=cx A nm σ w) R.volMove hcs h1;exact .v (.ag k1 k2)
 ·cases h
theorem Vk(R:Rel A B w0 nm σ tmps w):∀{avs:F AV} {vs:F Value} {xs:F VV},VsRel (cx A nm σ w) avs vs→LS avs=T xs→VVRels (Ah (N8 (LK A)) w) xs vs
 | [],vs,xs,H,h=>by
  simp[LS] at h;subst h;obtain rfl:vs= []:=List.length_eq_zero_iff.1 H.1.symm;exact .nil
 | a::avs,vs,xs,H,h=>by
  unfold LS at h;split at h
  ·rename_i x xs' h1 h2
   cases h;cases vs with
   | nil=>have:=H.1; simp at this
   | cons v vs=>
    exact .cons (qH R (H.2 0 a v rfl rfl) h1) (Vk R ⟨by have:=H.1; simpa using this,fun i u v hu hv=>H.2 (i+1) u v (by simpa using hu) (by simpa using hv)⟩ h2)
  ·cases h
theorem FCd.callC{f:FuncId}{xs:F VV}{r:D}(H:FCd P f xs r){avs:F AV}(hx:LS avs=T xs):Dr P f avs σ σ (.v (.sc (.dat r))):=by
 intro A B w0 w nm tmps vs R hvs;have after:∀w2,BelowX w.heap.size (Ms w (LK A)) w2→BelowX B w0 w2:=fun w2 h=>R.below.afterZ rfl h R.size R.there (fun b hb=>(Ro hb).elim) fun b ⟨⟨C,hC⟩,_⟩=> .inr (R.all.vol b C hC).1
 refine(H w (LK A) vs (fun w2 h=>R.good w2 (after w2 h)) (Vk R hvs hx)).mono fun e w' h=> ?_
 obtain⟨v,rfl,hv,hb⟩:=h;have hsame:∀b,b<w.heap.size→¬w0.vv b→w'.heap[b]?=w.heap[b]?:=fun b hlt hn=>hb.block b hlt (fun h=>Ro h) fun⟨⟨C,hC⟩,_⟩=>hn (R.all.vol b C hC).1
 have hnm:∀i b,nm i=T b→¬w0.vv b:=fun i b hi hv=>by
  rcases(R.names i b hi).1 with h1|h1
  ·have:=R.below.vlt b hv; omega
  ·exact w0.no b hv h1
 have hview:∀b C,Ae A nm w b C→Ae A nm w' b C:=by
  rintro b C ⟨h1,c,t,fr,hA,h2,h3⟩
  exact⟨h1,c,t,fr,hA,(hsame b (PD h2) fun hv=>R.all.vout b fr hv hA).trans h2,h3⟩
 refine⟨v,nm,rfl,?_,.v (.sc (.dat (hv.mono LC)))⟩;refine R.carry (f:=fun c=>c) (after w' hb) (Nat.le_trans R.size hb.size) (fun i b hi=> ?_) R.inj (fun _ _=>rfl) (fun k=>by rw[AV.mapId]) (fun id=>by simp) (fun id cs _ b hbn=>⟨hbn,hsame b (R.names _ _ hbn).2 (hnm _ _ hbn)⟩) (fun c v _ hr=> ?_)
 ·obtain⟨h1,h2⟩:=R.names i b hi;exact⟨h1,Nat.lt_of_lt_of_le h2 hb.size⟩
 ·exact hr.move hview (fun id _=> .inr ⟨rfl,rfl,fun b hbn=>hsame b (R.names _ _ hbn).2 (hnm _ _ hbn)⟩) (fun id _ b hbn=>hbn)
end
def AC.wipe:AC→AC
 | .dat d=>bif d.fl then .dat d else .undef
 | c=>c
section
variable {P : Program} {A : Ar} {B : Nat} {w0 : Base} {w : World} {nm : Ac} {σ : St} {tmps : Array Value}
end
section
variable {σ : St}
theorem lD{rs:Rows}{es:F (F D)}:DF rs (.v (.sc (.old (.sl es))))=T (.v (.sc (.dat (.int .i64 es.length)))):=rfl
theorem lH{rs:Rows}{es:F (F D)}:DF rs (.v (.sc (.vol (.sl es))))=T (.v (.sc (.dat (.int .i64 es.length)))):=rfl
theorem iS{α:Type}{rs:Rows}{sz:Nat}{xs:F α}{row:α→F D} [Row row sz]{kd:IntKind}{i:Int}:CM rs sz (.v (.sc (.old (.sl (G row xs))))) (.v (.sc (.dat (.int kd i))))=(ix xs i).map fun x=> .v (.sc (.old (.pd (row x)))):=by
 simp only[CM,Ny];cases ix xs i with
 | none=>rfl
 | some x=>simp[Row.len (row:=row) (sz:=sz),Row.pos row]
theorem iW{α:Type}{rs:Rows}{sz:Nat}{xs:F α}{row:α→F D} [Row row sz]{kd:IntKind}{i:Int}:CM rs sz (.v (.sc (.vol (.sl (G row xs))))) (.v (.sc (.dat (.int kd i))))=(ix xs i).map fun x=> .v (.sc (.vol (.pd (row x)))):=by
 simp only[CM,Ny];cases ix xs i with
 | none=>rfl
 | some x=>simp[Row.len (row:=row) (sz:=sz),Row.pos row]
theorem lQ{g:Bool}{n:Nat}{cs:F D}:Cf σ g n (.v (.sc (.old (.pd cs))))=Cr (G D9 cs) 0 g n:=rfl
theorem lU{n:Nat}{es:F (F D)}{cs:F D}:Cf σ false n (.v (.sc (.vol (.pd (.sl es::cs)))))=T (.v (.sc (.vol (.sl es)))):=rfl
theorem eA{rs:Rows}{off:Nat}{cs:F D}:BZ rs off (.v (.sc (.old (.pd cs))))=(Dg off cs).map fun cs=> .v (.sc (.old (.pd cs))):=by
 simp only[BZ,JH];split<;>rfl
theorem eF{rs:Rows}{off:Nat}{cs:F D}:BZ rs off (.v (.sc (.vol (.pd cs))))=(Dg off cs).map fun cs=> .v (.sc (.vol (.pd cs))):=by
 simp only[BZ,JH];split<;>rfl
theorem mJ{cs:F D}:F1 (.v (.sc (.old (.pd cs))))=T (.v (.sc (.old (.pd cs)))):=rfl
theorem mN{cs:F D}:F1 (.v (.sc (.vol (.pd cs))))=T (.v (.sc (.vol (.pd cs)))):=rfl
theorem pY{k:IntKind}{n m:Int}{cs:F D}:St.storeV σ 1 (.v (.sc (.vol (.pd (.int k n::cs))))) (.v (.sc (.dat (.int k m))))=T σ:=by cases k<;>rfl
theorem pX{n m:Bool}{cs:F D}:St.storeV σ 1 (.v (.sc (.vol (.pd (.bool n::cs))))) (.v (.sc (.dat (.bool m))))=T σ:=rfl
theorem pZ{n m:F UInt8}{cs:F D}:St.storeV σ 1 (.v (.sc (.vol (.pd (.str n::cs))))) (.v (.sc (.dat (.str m))))=T σ:=rfl
theorem mU{k:IntKind}{n:Int}:D9 (.int k n)= .dat (.int k n):=rfl
theorem mT{b:Bool}:D9 (.bool b)= .dat (.bool b):=rfl
theorem mX{s:F UInt8}:D9 (.str s)= .dat (.str s):=rfl
theorem mV{es:F (F D)}:D9 (.sl es)= .old (.sl es):=rfl
theorem mZ:G D9 []= []:=rfl
theorem mY{d:D}{ds:F D}:G D9 (d::ds)=D9 d::G D9 ds:=rfl
theorem qf:G AC.vol []= []:=rfl
theorem qe{d:D}{ds:F D}:G AC.vol (d::ds)= .vol d::G AC.vol ds:=rfl
theorem ke{id:Nat}{d:D}:AC.kill id (.old d)= .old d:=rfl
theorem kh{id:Nat}{d:D}:AC.kill id (.vol d)= .vol d:=rfl
theorem fC{id:Nat}{es:F (F D)}{d:D}:AC.frz id es (.old d)= .old d:=rfl
theorem fF{id:Nat}{es:F (F D)}{d:D}:AC.frz id es (.vol d)= .vol d:=rfl
theorem sV{k:IntKind}{n:Int}:AC.wipe (.dat (.int k n))= .dat (.int k n):=rfl
theorem sT{b:Bool}:AC.wipe (.dat (.bool b))= .dat (.bool b):=rfl
theorem sb{s:F UInt8}:AC.wipe (.dat (.str s))= .dat (.str s):=rfl
theorem sW{es:F (F D)}:AC.wipe (.dat (.sl es))= .undef:=rfl
theorem sa{cs:F D}:AC.wipe (.dat (.pd cs))= .undef:=rfl
theorem sd:AC.wipe .undef= .undef:=rfl
theorem sX:AC.wipe .nil= .nil:=rfl
theorem sY{id:Nat}:AC.wipe (.own id)= .own id:=rfl
theorem sU{id o:Nat}:AC.wipe (.pb id o)= .pb id o:=rfl
theorem sZ{d:D}:AC.wipe (.old d)= .old d:=rfl
theorem Z1{N:F Nat}{d:D}:AV.avoids N (.v (.sc (.old d)))=true:=by simp[AV.avoids,AV.cells,V1.cells,AC.avoids,AC.uses]
end
def oQ:=E @lD (E @lH (E @iS (E @iW (E @lQ (E @lU (E @eA (E @eF (E @mJ (E @mN (E @pY (E @pX (E @pZ (E @mU (E @mT (E @mX (E @mV (E @mZ (E @mY (E @qf (E @qe (E @ke (E @kh (E @fC (E @fF (E @sV (E @sT (E @sb (E @sW (E @sa (E @sd (E @sX (E @sY (E @sU (E @sZ @Z1))))))))))))))))))))))))))))))))))
end Go.Vi
