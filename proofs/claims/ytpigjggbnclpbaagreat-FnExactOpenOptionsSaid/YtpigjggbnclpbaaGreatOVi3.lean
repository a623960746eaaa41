/-
The value level. No condition.
-/
import Derived.Test.YtpigjggbnclpbaaGreatOVi2
namespace Go.Vi
set_option linter.all false
open Option.some renaming injEq → T
theorem Rep.one{h:A6}{d:D}{v:Value}(H:Rep h d v):v.oneCell'=true:=by cases H<;>rfl
theorem RepS.one{h:A6}{d:D}{v:Value}(H:RepS h d v):v.oneCell'=true:=by cases H<;>rfl
theorem ShV.one{v v':Value}(H:ShV v v')(h:v.oneCell'=true):v'.oneCell'=true:=by
 cases H with
 | same=>exact h
 | _=>rfl
theorem CRel.one{X:Cx}{c:AC}{v:Value}(H:CRel X c v):v.oneCell'=true:=by
 cases H with
 | undef h1=>exact h1
 | dat hd=>cases hd<;>rfl
 | ownDead _ h1=>exact h1
 | osubDead _ h1=>exact h1
 | peDead _ h1=>exact h1
 | old _ h1=>exact h1.one
 | nw _ h1=>exact h1
 | mix h1=>exact h1.one
 | vol h1 h2=>exact h2.one h1.one
 | _=>rfl
theorem Ox{X:Cx}(v:Value)(h1:v.oneCell'=true):CRel X (FQ v) v:=by
 unfold FQ;split
 ·split
  ·rename_i hk; exact .dat (.int hk.1 hk.2)
  ·exact .undef rfl
 ·exact .dat .bool
 ·rename_i s
  split
  ·rename_i hl
   have e:s=⟨s.data.toList.toArray⟩:=by cases s; simp
   have:Rep X.h (.str s.data.toList) (.string ⟨s.data.toList.toArray⟩):= .str (by unfold maxLen; omega);rw[← e] at this
   exact .dat this
  ·exact .undef rfl
 ·exact .nil
 ·exact .dat .noi
 ·exact .undef h1
theorem Rn{X:Cx}:∀l:List Value,l.all (·.oneCell')=true→CRels X (l.map FQ) l
 | [],_=> .nil
 | v::r,h1=>by
  simp only[List.all_cons,Bool.and_eq_true] at h1
  exact .cons (Ox v h1.1) (Rn r h1.2)
theorem Jm{X:Cx}{l:List Value}{cs:List AC}(hc:Dk l=some cs):CRels X cs l:=by
 unfold Dk at hc
 split at hc
 ·rename_i h1; cases hc; exact Rn l h1
 ·cases hc
theorem ZW{X:Cx}(v:Value):VRel X (Oy v) v:=by
 unfold Oy;split
 ·rename_i cs
  split
  ·rename_i l hl
   have:=V1Rel.ag (Jm (X:=X) hl);simp only[Array.toArray_toList] at this
   exact .v this
  ·exact .undef
 ·exact .undef
 ·rename_i h1 h2
  refine .v (.sc (Ox _ ?_));cases v<;>first | rfl | (exact absurd rfl (h1 _)) | (exact absurd rfl (h2 _))
section
variable {P : Program} {A : Ar} {B : Nat} {w0 : Base} {nm : Ad} {σ : St} {a : Act} {w : World} {X : Cx}
theorem Al(R:Rel A B w0 nm σ a.tmps w){x:Operand}{y:Opd}(h:Az x=some y):VRel (cx A nm σ w) (σ.val y) (a.eval x):=by
 cases x with
 | tmp t=>simp only[Az,T] at h; subst h; exact R.env t
 | const v=>simp only[Az,T] at h; subst h; exact ZW v
 | global g=>simp[Az] at h
 | func f=>
  simp only[Az,T] at h; subst h
  exact .v (.sc (.dat (.clo (vs:= []) .nil rfl)))
theorem VRel.inv_int{k n v}(H:VRel X (.v (.sc (.dat (.int k n)))) v):v= .int k n∧k.min≤n∧n≤k.max:=by
 cases H with | v H=>cases H with | sc H=>cases H with | dat H=>cases H with | int h1 h2=>exact⟨rfl,h1,h2⟩
theorem VRel.inv_bool{b v}(H:VRel X (.v (.sc (.dat (.bool b)))) v):v= .bool b:=by
 cases H with | v H=>cases H with | sc H=>cases H with | dat H=>cases H with | bool=>rfl
theorem VRel.inv_str{s v}(H:VRel X (.v (.sc (.dat (.str s)))) v):v= .string ⟨s.toArray⟩∧s.length≤maxLen:=by
 cases H with | v H=>cases H with | sc H=>cases H with | dat H=>cases H with | str h1=>exact⟨rfl,h1⟩
theorem VRel.inv_sc{c v}(H:VRel X (.v (.sc c)) v):CRel X c v:=by
 cases H with | v H=>cases H with | sc H=>exact H
theorem VRel.inv_ag{cs v}(H:VRel X (.v (.ag cs)) v):∃vs,v= .agg vs.toArray∧CRels X cs vs:=by
 cases H with | v H=>cases H with | ag H=>exact⟨_,rfl,H⟩
theorem CRel.inv_dat{d v}(H:CRel X (.dat d) v):Rep X.h d v:=by cases H with | dat H=>exact H
theorem CRel.inv_own{id sz es v}(hf:A1 X.rs id=some (sz,es))(H:CRel X (.own id) v) :
  (es= []∧X.nm (2*id+1)=none∧∃a,v= .slice a 0 0)∨∃b cap,X.nm (2*id+1)=some b∧OwnB X.h X.w b sz cap es∧v= .slice (some ⟨b,0,none⟩) es.length cap:=by
 cases H with
 | ownNil h1 h2=>rw[hf] at h1; cases h1; exact .inl ⟨rfl,h2,_,rfl⟩
 | own h1 h2 h3 h4=>rw[hf] at h1; cases h1; subst h4; exact .inr ⟨_,_,h2,h3,rfl⟩
 | ownDead h1 _=>rw[hf] at h1; cases h1
theorem CRel.inv_osub{id sz es lo hi v}(hf:A1 X.rs id=some (sz,es))(H:CRel X (.osub id lo hi) v) :
  (es= []∧lo=0∧hi=0∧X.nm (2*id+1)=none∧∃a,v= .slice a 0 0)∨∃b cap cap' off,X.nm (2*id+1)=some b∧OwnB X.h X.w b sz cap es∧lo≤hi∧hi≤es.length∧((lo<hi→off=lo*sz)∧(lo=0→off=0∧cap'=cap))∧hi - lo≤cap'∧cap'≤maxLen∧
   v= .slice (some ⟨b,off,none⟩) (hi - lo) cap':=by
 cases H with
 | osubNil h1 h2=>rw[hf] at h1; cases h1; exact .inl ⟨rfl,rfl,rfl,h2,_,rfl⟩
 | osub h1 h2 h3 h4 h5 h6 h7 h8 h9=>rw[hf] at h1; cases h1; subst h7; exact .inr ⟨_,_,_,_,h2,h3,h4,h5,h6,h8,h9,rfl⟩
 | osubDead h1 _=>rw[hf] at h1; cases h1
theorem CRel.inv_pe{id sz es idx off v}(hf:A1 X.rs id=some (sz,es))(H:CRel X (.pe id idx off) v) :
  ∃b cap,X.nm (2*id+1)=some b∧OwnB X.h X.w b sz cap es∧idx<es.length∧v= .pointer (some ⟨b,idx*sz+off,none⟩):=by
 cases H with
 | pe h1 h2 h3 h4 h5=>rw[hf] at h1; cases h1; subst h5; exact⟨_,_,h2,h3,h4,rfl⟩
 | peDead h1 _=>rw[hf] at h1; cases h1
theorem Fs{k:IntKind}{n:Int}(h1:k.min≤n)(h2:n≤k.max):VRel X (.v (.sc (.dat (.int k n)))) (.int k n):= .v (.sc (.dat (.int h1 h2)))
theorem IG{b:Bool}:VRel X (.v (.sc (.dat (.bool b)))) (.bool b):= .v (.sc (.dat .bool))
theorem Be{c v}(H:CRel X c v):VRel X (.v (.sc c)) v:= .v (.sc H)
theorem Qg(k:IntKind)(n:Int):k.min≤k.wrap n∧k.wrap n≤k.max:=by
 cases k<;>simp only[IntKind.min,IntKind.max,IntKind.wrap,IntKind.bits,IntKind.signed]<;>simp<;>(try split)<;>omega
theorem IH{k:IntKind}{n:Int}:VRel X (.v (.sc (.dat (.int k (k.wrap n))))) (.int k (k.wrap n)):=Fs (Qg k n).1 (Qg k n).2
theorem pR{k:IntKind}{x y:Int}(h1:k.min≤x)(h2:x≤k.max):k.wrap (x.tmod y)=x.tmod y:=by
 have hr:(x.tmod y).natAbs≤x.natAbs:=by rw[Int.natAbs_tmod]; exact Nat.mod_le _ _
 have hs:0≤x→0≤x.tmod y:=fun h0=>Int.tmod_nonneg y h0
 have hs':x≤0→x.tmod y≤0:=fun h0=>by
  have h5:=Int.tmod_nonneg y (show 0≤ -x by omega);rw[Int.neg_tmod] at h5
  omega
 have hb:k.min≤x.tmod y∧x.tmod y≤k.max:=by
  cases k<;>simp only[IntKind.min,IntKind.max,IntKind.bits,IntKind.signed] at h1 h2 ⊢ <;> simp at h1 h2 ⊢ <;> omega
 obtain⟨b1,b2⟩:=hb;cases k<;>simp only[IntKind.min,IntKind.max,IntKind.wrap,IntKind.bits,IntKind.signed] at b1 b2 ⊢ <;> simp at b1 b2 ⊢ <;> (try split)<;>omega
theorem dx{k:IntKind}{x:Int}{n:Nat}(h1:k.min≤x)(h2:x≤k.max):k.wrap (x.fdiv (2 ^ n))=x.fdiv (2 ^ n)∧k.min≤x.fdiv (2 ^ n)∧x.fdiv (2 ^ n)≤k.max:=by
 have hp:(0:Int)<2 ^ n:=Int.pow_pos (by decide);rw[Int.fdiv_eq_ediv_of_nonneg _ (Int.le_of_lt hp)]
 have h3:x / 2 ^ n≤max x 0:=by
  by_cases hx:0≤x
  ·have:=Int.ediv_le_self (2 ^ n) hx; omega
  ·have:x / 2 ^ n<0:=Int.ediv_neg_of_neg_of_pos (by omega) hp;omega
 have h4:min x 0≤x / 2 ^ n:=by
  by_cases hx:0≤x
  ·have:=Int.ediv_nonneg hx (Int.le_of_lt hp); omega
  ·have h5:x≤x / 2 ^ n:=by
    have h6:(2:Int) ^ n≥1:=by omega
    have:=Int.le_ediv_of_mul_le hp (a:=x) (b:=x) (by
     have:x*2 ^ n≤x*1:=Int.mul_le_mul_of_nonpos_left (by omega) h6;omega)
    exact this
   omega
 generalize x / 2 ^ n=q at *
 have hb:k.min≤q∧q≤k.max:=by
  cases k<;>simp only[IntKind.min,IntKind.max,IntKind.bits,IntKind.signed] at h1 h2 ⊢ <;> simp at h1 h2 ⊢ <;> omega
 refine⟨?_,hb.1,hb.2⟩;obtain⟨b1,b2⟩:=hb;cases k<;>simp only[IntKind.min,IntKind.max,IntKind.wrap,IntKind.bits,IntKind.signed] at b1 b2 ⊢ <;> simp at b1 b2 ⊢ <;> (try split)<;>omega
theorem jF{op:BinOp}{k k':IntKind}{t:TypeId}{x y:Int}{d:D}(hk:k=k'∨op= .shl∨op= .shr)(hx:k.min≤x∧x≤k.max)(hd:Ba op k x y=some d) :
  ∃v,(binOp op t (.int k x) (.int k' y)).run P w= .ok v w∧VRel X (.v (.sc (.dat d))) v:=by
 cases op
 case shl=>
  simp only[Ba] at hd
  split at hd
  ·cases hd
  ·rename_i hy
   cases hd;exact⟨.int k (k.wrap (x*2 ^ min y.toNat k.bits)),by simp[binOp,Op.shift,hy],IH⟩
 case shr=>
  simp only[Ba] at hd
  split at hd
  ·cases hd
  ·rename_i hy
   cases hd;have hf:=dx (n:=min y.toNat k.bits) hx.1 hx.2;refine⟨.int k (x.fdiv (2 ^ min y.toNat k.bits)),by simp[binOp,Op.shift,hy],?_⟩;rw[hf.1];exact Fs hf.2.1 hf.2.2
 all_goals (have hk':k=k':=by simpa using hk); subst hk'
 case quo=>
  simp only[Ba] at hd
  split at hd
  ·cases hd
  ·rename_i hy
   cases hd;exact⟨_,by simp[binOp,Op.intDiv,hy],IH⟩
 case rem=>
  simp only[Ba] at hd
  split at hd
  ·cases hd
  ·rename_i hy
   cases hd;refine⟨.int k (x.tmod y),by simp[binOp,Op.intDiv,hy],?_⟩;have hb:=Qg k (x.tmod y);rw[pR hx.1 hx.2] at hb ⊢
   exact Fs hb.1 hb.2
 all_goals
  simp only[Ba,T] at hd
  subst hd
  first
   | (refine⟨_,?_,IH⟩; simp only[binOp,ne_eq,not_true_eq_false,if_false]; rfl)
   | (refine⟨_,?_,IG⟩; simp only[binOp,ne_eq,not_true_eq_false,if_false]; rfl)
end
end Go.Vi
