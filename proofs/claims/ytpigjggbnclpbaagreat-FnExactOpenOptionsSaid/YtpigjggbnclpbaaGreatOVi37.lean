/-
The value level. No condition.
-/
import Derived.Test.YtpigjggbnclpbaaGreatOVi36
namespace Go.Vi
set_option linter.all false
open And renaming intro → E
open List renaming map → G
open Option renaming some → T
open _root_ renaming List → F
inductive DVS (h:A6):DV→Value→Prop
 | sc {d v}:RepS h d v→DVS h (.sc d) v
 | ag {ds vs}:RepSs h ds vs→ds.length=vs.length→DVS h (.ag ds) (.agg vs.toArray)
inductive VV where
 | d (x:D)
 | v (x:DV)
inductive VVRel (h:A6):VV→Value→Prop
 | d {x v}:Rep Bu x v→VVRel h (.d x) v
 | v {x v}:DVS h x v→VVRel h (.v x) v
inductive VVRels (h:A6):F VV→F Value→Prop
 | nil:VVRels h [] []
 | cons {x v xs vs}:VVRel h x v→VVRels h xs vs→VVRels h (x::xs) (v::vs)
theorem VVRels.len{h:A6}:∀{xs vs},VVRels h xs vs→xs.length=vs.length
 | _,_,.nil=>rfl
 | _,_,.cons _ b=>by simp[b.len]
theorem VVRels.get{h:A6}:∀{xs:F VV} {vs:F Value} (i:Nat) {x:VV} {v:Value},VVRels h xs vs→xs[i]?=T x→vs[i]?=T v→VVRel h x v
 | _,_,_,_,_,.nil,hd,_=>by simp at hd
 | _,_,0,_,_,.cons a _,hd,hv=>by simp at hd hv; subst hd hv; exact a
 | _,_,i+1,_,_,.cons _ b,hd,hv=>VVRels.get i b (by simpa using hd) (by simpa using hv)
def MY(A:AY):AY:=fun b fr=>A b fr∧fr=(0,0)
def M7(w:World)(A:AY):Base:=⟨w,fun _=>none,fun _=>False,fun _ h=>h.elim,fun b=>A b (0,0)∧∃c t,w.heap[b]?=T (.cells c t (0,0)),fun b _ h=>h.elim (fun⟨i,_,e⟩=>by cases e) fun h=>h⟩
theorem R7{w:World}{A:AY}{b:Nat}(h:(M7 w A).M b):False:=h.elim (fun⟨i,_,e⟩=>by cases e) fun h=>h
def FCd(P:Program)(f:FuncId)(xs:F VV)(r:D):Prop:=
 ∀(w:World) (A:AY) (vs:F Value),(∀w2,BelowX w.heap.size (M7 w A) w2→GoodW w2)→VVRels (Af (MY A) w) xs vs→Calls P f vs.toArray w fun e w'=>
  ∃v,e= .returned v∧Rep Bu r v∧BelowX w.heap.size (M7 w A) w'
def VV.av:VV→AV
 | VV.d x=> .v (.sc (.dat x))
 | VV.v (DV.sc y)=> .v (.sc (.vol y))
 | VV.v (DV.ag ys)=> .v (.ag (ys.map .vol))
section
variable {P : Program}
end
def LL:F AC→Option (F D)
 | []=>T []
 | .vol d::cs=>(LL cs).map (d:: ·)
 | _=>none
def Q1:AV→Option VV
 | .v (.sc (.dat d))=>bif d.flat then T (.d d) else none
 | .v (.sc (.vol d))=>T (.v (.sc d))
 | .v (.ag cs)=>(LL cs).map fun ds=> .v (.ag ds)
 | _=>none
def LH:F AV→Option (F VV)
 | []=>T []
 | a::r=>match Q1 a,LH r with
  | some x,T xs=>T (x::xs)
  | _,_=>none
section
variable {P : Program} {A : Ar} {B : Nat} {w0 : Base} {w : World} {nm : Ad} {σ : St} {tmps : Array Value}
def Lz(A:Ar):AY:=fun b _=>∃C,A.v b C
theorem Rel.volMove(R:Rel A B w0 nm σ tmps w):∀b C,A.v b C→∃C',Af (MY (Lz A)) w b C'∧ShL C C':=fun b C hC=>by
 obtain⟨c,t,fr,h1,h2,h3,_⟩:=R.volAt hC;exact⟨c.toList,⟨c,t,fr,⟨⟨C,hC⟩,h3⟩,h1,rfl⟩,h2⟩
theorem VC{h':A6}{X:Cx}(hh:∀b C,X.v b C→∃C',h' b C'∧ShL C C'):∀{cs:F AC} {vs:F Value} {ds:F D},CRels X cs vs→LL cs=T ds→RepSs h' ds vs∧ds.length=vs.length
 | [],_,ds,.nil,h=>by simp[LL] at h; subst h; exact⟨.nil,rfl⟩
 | c::cs,_,ds,.cons a b,h=>by
  cases c<;>simp[LL] at h;obtain⟨ds',h1,rfl⟩:=h;obtain⟨k1,k2⟩:=VC hh b h1;cases a with | vol p q=>exact⟨.cons (p.move hh q) k1,by simp[k2]⟩
theorem pj(R:Rel A B w0 nm σ tmps w){av:AV}{v:Value}{x:VV}(H:VRel (cx A nm σ w) av v)(h:Q1 av=T x):VVRel (Af (MY (Lz A)) w) x v:=by
 unfold Q1 at h;split at h
 ·rename_i d
  cases hf:d.flat with
  | false=>rw[hf] at h; cases h
  | true=>
   rw[hf] at h;cases h;exact .d (H.inv_sc.inv_dat.flat hf)
 ·cases h;have hc:=H.inv_sc;cases hc with | vol p q=>exact .v (.sc (p.move R.volMove q))
 ·simp only[Option.map_eq_some_iff] at h;obtain⟨ds,h1,rfl⟩:=h;obtain⟨vs,rfl,hcs⟩:=H.inv_ag;obtain⟨k1,k2⟩:=VC (X:=cx A nm σ w) R.volMove hcs h1;exact .v (.ag k1 k2)
 ·cases h
theorem Vq(R:Rel A B w0 nm σ tmps w):∀{avs:F AV} {vs:F Value} {xs:F VV},VsRel (cx A nm σ w) avs vs→LH avs=T xs→VVRels (Af (MY (Lz A)) w) xs vs
 | [],vs,xs,H,h=>by
  simp[LH] at h;subst h;obtain rfl:vs= []:=List.length_eq_zero_iff.1 H.1.symm;exact .nil
 | a::avs,vs,xs,H,h=>by
  unfold LH at h;split at h
  ·rename_i x xs' h1 h2
   cases h;cases vs with
   | nil=>have:=H.1; simp at this
   | cons v vs=>
    exact .cons (pj R (H.2 0 a v rfl rfl) h1) (Vq R ⟨by have:=H.1; simpa using this,fun i u v hu hv=>H.2 (i+1) u v (by simpa using hu) (by simpa using hv)⟩ h2)
  ·cases h
theorem FCd.callC{f:FuncId}{xs:F VV}{r:D}(H:FCd P f xs r){avs:F AV}(hx:LH avs=T xs):CallC P f avs σ σ (.v (.sc (.dat r))):=by
 intro A B w0 w nm tmps vs R hvs;have after:∀w2,BelowX w.heap.size (M7 w (Lz A)) w2→BelowX B w0 w2:=fun w2 h=>R.below.afterZ rfl h R.size R.there (fun b hb=>(R7 hb).elim) fun b ⟨⟨C,hC⟩,_⟩=> .inr (R.all.vol b C hC).1
 refine(H w (Lz A) vs (fun w2 h=>R.good w2 (after w2 h)) (Vq R hvs hx)).mono fun e w' h=> ?_
 obtain⟨v,rfl,hv,hb⟩:=h;have hsame:∀b,b<w.heap.size→¬w0.vv b→w'.heap[b]?=w.heap[b]?:=fun b hlt hn=>hb.block b hlt (fun h=>R7 h) fun⟨⟨C,hC⟩,_⟩=>hn (R.all.vol b C hC).1
 have hnm:∀i b,nm i=T b→¬w0.vv b:=fun i b hi hv=>by
  rcases(R.names i b hi).1 with h1|h1
  ·have:=R.below.vlt b hv; omega
  ·exact w0.no b hv h1
 have hview:∀b C,Ab A nm w b C→Ab A nm w' b C:=by
  rintro b C ⟨h1,c,t,fr,hA,h2,h3⟩
  exact⟨h1,c,t,fr,hA,(hsame b (CR h2) fun hv=>R.all.vout b fr hv hA).trans h2,h3⟩
 refine⟨v,nm,rfl,?_,.v (.sc (.dat (hv.mono Ep)))⟩;refine R.carry (f:=fun c=>c) (after w' hb) (Nat.le_trans R.size hb.size) (fun i b hi=> ?_) R.inj (fun _ _=>rfl) (fun k=>by rw[AV.mapId]) (fun id=>by simp) (fun id cs _ b hbn=>⟨hbn,hsame b (R.names _ _ hbn).2 (hnm _ _ hbn)⟩) (fun c v _ hr=> ?_)
 ·obtain⟨h1,h2⟩:=R.names i b hi;exact⟨h1,Nat.lt_of_lt_of_le h2 hb.size⟩
 ·exact hr.move hview (fun id _=> .inr ⟨rfl,rfl,fun b hbn=>hsame b (R.names _ _ hbn).2 (hnm _ _ hbn)⟩) (fun id _ b hbn=>hbn)
end
def AC.wipe:AC→AC
 | .dat d=>bif d.fl then .dat d else .undef
 | .mix _=> .undef
 | c=>c
def AC.isOld:AC→Bool
 | .old _=>true
 | _=>false
section
variable {P : Program} {A : Ar} {B : Nat} {w0 : Base} {w : World} {nm : Ad} {σ : St} {tmps : Array Value}
theorem Rel.isNewB(R:Rel A B w0 nm σ tmps w){id:Nat}{cs:F AC}(hf:A1 σ.bx id=T cs)(h:cs.any AC.isOld=true):A.new=true:=by
 obtain⟨b,C,t,_,_,H⟩:=R.bxs id cs hf;obtain⟨c,hc,ho⟩:=List.any_eq_true.1 h;cases c<;>simp[AC.isOld] at ho
 rename_i d
 have key:∀{cs:F AC} {vs:F Value},CRels (cx A nm σ w) cs vs→ .old d∈cs→A.new=true:=by
  intro cs vs h
  induction h with
  | nil=>intro hm; cases hm
  | cons a b ih=>
   intro hm;rcases List.mem_cons.1 hm with rfl|hm
   ·cases a with | old hn _=>exact hn
   ·exact ih hm
 exact key H hc
end
section
variable {σ : St}
theorem kb{rs:Rows}{es:F (F D)}:Db rs (.v (.sc (.old (.sl es))))=T (.v (.sc (.dat (.int .i64 es.length)))):=rfl
theorem kh{rs:Rows}{es:F (F D)}:Db rs (.v (.sc (.vol (.sl es))))=T (.v (.sc (.dat (.int .i64 es.length)))):=rfl
theorem gy{α:Type}{rs:Rows}{sz:Nat}{xs:F α}{row:α→F D} [Row row sz]{kd:IntKind}{i:Int}:Cq rs sz (.v (.sc (.old (.sl (G row xs))))) (.v (.sc (.dat (.int kd i))))=(ix xs i).map fun x=> .v (.sc (.old (.pd (row x)))):=by
 simp only[Cq,Nj];cases ix xs i with
 | none=>rfl
 | some x=>simp[Row.len (row:=row) (sz:=sz),Row.pos row]
theorem hH{α:Type}{rs:Rows}{sz:Nat}{xs:F α}{row:α→F D} [Row row sz]{kd:IntKind}{i:Int}:Cq rs sz (.v (.sc (.vol (.sl (G row xs))))) (.v (.sc (.dat (.int kd i))))=(ix xs i).map fun x=> .v (.sc (.vol (.pd (row x)))):=by
 simp only[Cq,Nj];cases ix xs i with
 | none=>rfl
 | some x=>simp[Row.len (row:=row) (sz:=sz),Row.pos row]
theorem kv{g:Bool}{n:Nat}{cs:F D}:Ca σ g n (.v (.sc (.old (.pd cs))))=Ci (G Cb cs) 0 g n:=rfl
theorem kz{n:Nat}{es:F (F D)}{cs:F D}:Ca σ false n (.v (.sc (.vol (.pd (.sl es::cs)))))=T (.v (.sc (.vol (.sl es)))):=rfl
theorem dn{rs:Rows}{off:Nat}{cs:F D}:BX rs off (.v (.sc (.old (.pd cs))))=(CK off cs).map fun cs=> .v (.sc (.old (.pd cs))):=by
 simp only[BX,Jn];split<;>rfl
theorem dt{rs:Rows}{off:Nat}{cs:F D}:BX rs off (.v (.sc (.vol (.pd cs))))=(CK off cs).map fun cs=> .v (.sc (.vol (.pd cs))):=by
 simp only[BX,Jn];split<;>rfl
theorem lh{cs:F D}:Eo (.v (.sc (.old (.pd cs))))=T (.v (.sc (.old (.pd cs)))):=rfl
theorem lp{cs:F D}:Eo (.v (.sc (.vol (.pd cs))))=T (.v (.sc (.vol (.pd cs)))):=rfl
theorem ol{k:IntKind}{n m:Int}{cs:F D}:St.storeV σ 1 (.v (.sc (.vol (.pd (.int k n::cs))))) (.v (.sc (.dat (.int k m))))=T σ:=by cases k<;>rfl
theorem oj{n m:Bool}{cs:F D}:St.storeV σ 1 (.v (.sc (.vol (.pd (.bool n::cs))))) (.v (.sc (.dat (.bool m))))=T σ:=rfl
theorem om{n m:F UInt8}{cs:F D}:St.storeV σ 1 (.v (.sc (.vol (.pd (.str n::cs))))) (.v (.sc (.dat (.str m))))=T σ:=rfl
theorem mB{k:IntKind}{n:Int}:Cb (.int k n)= .dat (.int k n):=rfl
theorem mA{b:Bool}:Cb (.bool b)= .dat (.bool b):=rfl
theorem mD{s:F UInt8}:Cb (.str s)= .dat (.str s):=rfl
theorem mC{es:F (F D)}:Cb (.sl es)= .old (.sl es):=rfl
theorem mF:G Cb []= []:=rfl
theorem mE{d:D}{ds:F D}:G Cb (d::ds)=Cb d::G Cb ds:=rfl
theorem qI:G AC.vol []= []:=rfl
theorem qH{d:D}{ds:F D}:G AC.vol (d::ds)= .vol d::G AC.vol ds:=rfl
theorem jY{id:Nat}{d:D}:AC.kill id (.old d)= .old d:=rfl
theorem jc{id:Nat}{d:D}:AC.kill id (.vol d)= .vol d:=rfl
theorem eR{id:Nat}{es:F (F D)}{d:D}:AC.frz id es (.old d)= .old d:=rfl
theorem eU{id:Nat}{es:F (F D)}{d:D}:AC.frz id es (.vol d)= .vol d:=rfl
theorem rP{k:IntKind}{n:Int}:AC.wipe (.dat (.int k n))= .dat (.int k n):=rfl
theorem rN{b:Bool}:AC.wipe (.dat (.bool b))= .dat (.bool b):=rfl
theorem rY{s:F UInt8}:AC.wipe (.dat (.str s))= .dat (.str s):=rfl
theorem rQ{es:F (F D)}:AC.wipe (.dat (.sl es))= .undef:=rfl
theorem rX{cs:F D}:AC.wipe (.dat (.pd cs))= .undef:=rfl
theorem rZ:AC.wipe .undef= .undef:=rfl
theorem rT:AC.wipe .nil= .nil:=rfl
theorem rV{id:Nat}:AC.wipe (.own id)= .own id:=rfl
theorem rO{id o:Nat}:AC.wipe (.pb id o)= .pb id o:=rfl
theorem rW{d:D}:AC.wipe (.old d)= .old d:=rfl
theorem Z2{N:F Nat}{d:D}:AV.avoids N (.v (.sc (.old d)))=true:=by simp[AV.avoids,AV.cells,V1.cells,AC.avoids,AC.uses]
end
def nY:=E @kb (E @kh (E @gy (E @hH (E @kv (E @kz (E @dn (E @dt (E @lh (E @lp (E @ol (E @oj (E @om (E @mB (E @mA (E @mD (E @mC (E @mF (E @mE (E @qI (E @qH (E @jY (E @jc (E @eR (E @eU (E @rP (E @rN (E @rY (E @rQ (E @rX (E @rZ (E @rT (E @rV (E @rO (E @rW @Z2))))))))))))))))))))))))))))))))))
end Go.Vi
