/-
The value level. No condition.
-/
import Derived.Test.YtpigjggbnclpbaaGreatOVi4
import Derived.Laws.BytesString
namespace Go.Vi
set_option linter.all false
open Option renaming map_eq_some_iff → L, some → T
open List renaming drop_drop → N
open _root_ renaming List → E, Nat → G
theorem ShL.len:∀{l l':E Value},ShL l l'→l'.length=l.length
 | _,_,.nil=>rfl
 | _,_,.cons _ b=>by simp[b.len]
theorem ShL.drop:∀(n:G) {l l':E Value},ShL l l'→ShL (l.drop n) (l'.drop n)
 | 0,_,_,H=>by simpa using H
 | n+1,_,_,.nil=>by simpa using .nil
 | n+1,_,_,.cons _ b=>by simpa using b.drop n
theorem ShL.get:∀{l l':E Value} {i:G} {v:Value},ShL l l'→l[i]?=T v→∃v',l'[i]?=T v'∧ShV v v'
 | _,_,_,_,.nil,h=>by simp at h
 | _,_,0,_,.cons a _,h=>by simp at h; subst h; exact⟨_,rfl,a⟩
 | _,_,i+1,_,.cons _ b,h=>by
  simp at h;obtain⟨v',h1,h2⟩:=b.get h;exact⟨v',by simpa using h1,h2⟩
theorem RepSs.drop{h:A6}:∀(n:G) {ds:E D} {vs:E Value},RepSs h ds vs→RepSs h (ds.drop n) (vs.drop n)
 | 0,_,_,H=>by simpa using H
 | n+1,_,_,.nil=>by simpa using .nil
 | n+1,_,_,.cons _ b=>by simpa using b.drop n
theorem RepSRows.row{h:A6}{sz:G}:∀{es:E (E D)} {vs:E Value} {i:G} {d:E D},RepSRows h sz es vs→es[i]?=T d→d.length=sz∧RepSs h d (vs.drop (i*sz))
 | _,_,_,_,.nil,hd=>by simp at hd
 | _,_,0,_,.cons a b _,hd=>by simp at hd; subst hd; exact⟨a,by simpa using b⟩
 | _,_,i+1,_,.cons _ _ c,hd=>by
  simp at hd
  obtain⟨h1,h2⟩:=c.row hd;refine⟨h1,?_⟩;rw[N] at h2
  rw[show(i+1)*sz=sz+i*sz by rw[Nat.add_mul]; omega];exact h2
theorem PB{X:Cx}{d:D}{v:Value}(hnw:X.new=true)(H:Rep X.o d v):CRel X (Cb d) v:=by
 unfold Cb;cases hf:d.fl with
 | false=>exact .old hnw H
 | true=>
  cases H<;>first
   | exact .dat .bool
   | (cases hf; done)
   | skip
  case int a b=>exact .dat (.int a b)
  case str a=>exact .dat (.str a)
theorem Reps.preO{X:Cx}(hnw:X.new=true):∀{ds vs},Reps X.o ds vs→CPre X (ds.map Cb) vs
 | _,_,.nil=> .nil
 | _,_,.cons a b=> .cons (PB hnw a) (b.preO hnw)
theorem Rel.oldAt{A:Ar}{B:G}{w0:Base}{nm:Ad}{σ:St}{tmps:Array Value}{w:World}(R:Rel A B w0 nm σ tmps w){b:G}{C:E Value}(h:A.o b C):∃c t fr,w.heap[b]?=T (.cells c t fr)∧c.toList=C:=by
 obtain⟨h1,h2,h3,c,t,fr,h4,h5⟩:=R.all.old b C h;exact⟨c,t,fr,(R.below.block b h1 h2 h3).trans h4,h5⟩
theorem Rel.volAt{A:Ar}{B:G}{w0:Base}{nm:Ad}{σ:St}{tmps:Array Value}{w:World}(R:Rel A B w0 nm σ tmps w){b:G}{C:E Value}(h:A.v b C):∃c t fr,w.heap[b]?=T (.cells c t fr)∧ShL C c.toList∧fr=(0,0)∧w0.vv b:=by
 obtain⟨h1,c,t,fr,h4,rfl,rfl⟩:=R.all.vol b C h;obtain⟨C',h5,h6⟩:=R.below.shape b h1 c t _ h4;exact⟨C',t,_,h5,h6,rfl,h1⟩
theorem RepRows.row{h:A6}{sz:G}:∀{es:E (E D)} {vs:E Value} {i:G} {d:E D},RepRows h sz es vs→es[i]?=T d→d.length=sz∧Reps h d (vs.drop (i*sz))
 | _,_,_,_,.nil,hd=>by simp at hd
 | _,_,0,_,.cons a b _,hd=>by simp at hd; subst hd; exact⟨a,by simpa using b⟩
 | _,_,i+1,_,.cons _ _ c,hd=>by
  simp at hd
  obtain⟨h1,h2⟩:=c.row hd;refine⟨h1,?_⟩;rw[N] at h2
  rw[show(i+1)*sz=sz+i*sz by rw[Nat.add_mul]; omega];exact h2
theorem RepRows.dropRows{h:A6}{sz:G}:∀(n:G) {es:E (E D)} {vs:E Value},RepRows h sz es vs→RepRows h sz (es.drop n) (vs.drop (n*sz))
 | 0,_,_,H=>by simpa using H
 | n+1,_,_,.nil=>by simpa using .nil
 | n+1,_,_,.cons _ _ c=>by
  have:=c.dropRows n;rw[N] at this
  rw[show(n+1)*sz=sz+n*sz by rw[Nat.add_mul]; omega];simpa using this
theorem RepRows.takeRows{h:A6}{sz:G}:∀(n:G) {es:E (E D)} {vs:E Value},RepRows h sz es vs→RepRows h sz (es.take n) vs
 | 0,_,_,_=>by simpa using .nil
 | n+1,_,_,.nil=>by simpa using .nil
 | n+1,_,_,.cons a b c=>by simpa using .cons a b (c.takeRows n)
theorem RepRows.all{h:A6}{sz:G}:∀{es:E (E D)} {vs:E Value},RepRows h sz es vs→∀d∈es,d.length=sz
 | _,_,.nil,_,hd=>by cases hd
 | _,_,.cons a _ c,d,hd=>by
  cases hd with
  | head=>exact a
  | tail _ hm=>exact c.all d hm
theorem Reps.drop{h:A6}:∀(n:G) {ds:E D} {vs:E Value},Reps h ds vs→Reps h (ds.drop n) (vs.drop n)
 | 0,_,_,H=>by simpa using H
 | n+1,_,_,.nil=>by simpa using .nil
 | n+1,_,_,.cons _ b=>by simpa using b.drop n
theorem Reps.le{h:A6}:∀{ds:E D} {vs:E Value},Reps h ds vs→ds.length≤vs.length
 | _,_,.nil=>by simp
 | _,_,.cons _ b=>by have:=b.le; simp; omega
section
variable {P : Program} {A : Ar} {B : G} {w0 : Base} {nm : Ad} {σ : St} {a : Act} {w : World} {X : Cx}
theorem dA{t:TypeId}{inf:TypeInfo}(he:Mf P t=T inf):∃e,P.underlying t=T (.slice e)∧P.info? e=T inf:=by
 unfold Mf at he
 split at he
 ·rename_i hu; exact⟨_,hu,he⟩
 ·cases he
theorem TE{ty:TypeId}{g:Bool}{n:G}{ax r:AV}{vx:Value}(R:Rel A B w0 nm σ a.tmps w)(ha:Dh P ty=T (g,n))(hx:VRel (cx A nm σ w) ax vx)(hr:Ca σ g n ax=T r) :
  ∃v,(Instr.loadAt ty vx).run P w= .ok v w∧VRel (cx A nm σ w) r v:=by
 unfold Ca at hr
 split at hr
 ·rename_i id off
  split at hr
  ·rename_i cs hf
   obtain⟨b,C,t,hb,hC,hcs⟩:=R.bxs _ _ hf;have hx':=hx.inv_sc;cases hx' with | pb hb'=>
   have e:b=_:=Option.some.inj (hb.symm.trans hb');subst e;obtain⟨v,hv,hrel⟩:=HG hcs.pre hr;refine⟨v,?_,hrel⟩;have:=Lk (P:=P) (w:=w) (o:=0) (off:=off) ha hC (by simpa using hv);simpa[Instr.loadAt,Instr.sureAddr] using this
  ·cases hr
 ·rename_i id i off
  split at hr
  ·rename_i sz es hf
   split at hr
   ·rename_i d hd
    obtain⟨b,cap,hb,own,hlt,rfl⟩:=hx.inv_sc.inv_pe hf;obtain⟨C,t,hC,hsz,hrows⟩:=own.row;obtain⟨hdl,hreps⟩:=hrows.row hd;obtain⟨v,hv,hrel⟩:=HG (X:=cx A nm σ w) hreps.pre hr;refine⟨v,?_,hrel⟩;have:=Lk (P:=P) (w:=w) ha hC hv;simpa[Instr.loadAt,Instr.sureAddr] using this
   ·cases hr
  ·cases hr
 ·rename_i cs
  have hx':=hx.inv_sc.inv_dat;cases hx' with | pd hC hreps=>
  obtain⟨_,C,t,fr,_,hC,rfl⟩:=hC;obtain⟨v,hv,hrel⟩:=HG (X:=cx A nm σ w) hreps.pre hr;refine⟨v,?_,hrel⟩;have:=Lk (P:=P) (w:=w) ha hC hv;simpa[Instr.loadAt,Instr.sureAddr] using this
 ·rename_i cs
  have hx':=hx.inv_sc;cases hx' with | old hnw hx'=>
  cases hx' with | pd hC hreps=>
  obtain⟨C,t,fr,hC2,rfl⟩:=R.oldAt hC;obtain⟨v,hv,hrel⟩:=HG (X:=cx A nm σ w) (Reps.preO (X:=cx A nm σ w) hnw hreps) hr;refine⟨v,?_,hrel⟩;have:=Lk (P:=P) (w:=w) ha hC2 hv;simpa[Instr.loadAt,Instr.sureAddr] using this
 ·rename_i es ds
  cases g with
  | true=>cases hr
  | false=>
   cases hr;have hx':=hx.inv_sc;cases hx' with | vol hx' hsh=>
   cases hx' with | pd hC hreps=>
   cases hsh;rename_i b C0 off
   obtain⟨C,t,fr,hC2,hshl,_⟩:=R.volAt hC
   obtain⟨u,us,hu,hrep⟩:∃u us,C0.drop off=u::us∧RepS A.v (.sl es) u:=by
    generalize C0.drop off=l at hreps
    cases hreps with | cons a b=>exact⟨_,_,rfl,a⟩
   have hu0:(C0.drop off)[0]?=T u:=by rw[hu]; rfl
   obtain⟨v,hv,hvs⟩:=(hshl.drop off).get hu0;refine⟨v,?_,Be (.vol hrep hvs)⟩;have:=Lk (P:=P) (w:=w) (o:=off) (off:=0) (g:=false) ha hC2 (by simpa[Hb] using hv);simpa[Instr.loadAt,Instr.sureAddr] using this
 ·cases hr
theorem Rv{F:Value→Sem Value}{off:G}(key:∀b o,(F (.pointer (T ⟨b,o,none⟩))).run P w= .ok (.pointer (T ⟨b,o+off,none⟩)) w){ax r:AV}{vx:Value}(hx:VRel (cx A nm σ w) ax vx)(hr:BX σ.rows off ax=T r) :
  ∃v,(F vx).run P w= .ok v w∧VRel (cx A nm σ w) r v:=by
 unfold BX at hr
 split at hr
 ·cases hr;have hx':=hx.inv_sc;cases hx' with | pb hb=>exact⟨_,key _ _,Be (.pb hb)⟩
 ·split at hr
  ·rename_i q hf
   cases hr;obtain⟨b,cap,hb,own,hlt,rfl⟩:=hx.inv_sc.inv_pe (es:=q.2) (sz:=q.1) hf;exact⟨_,key _ _,Be (.pe hf hb own hlt (by omega))⟩
  ·cases hr
 ·split at hr
  ·rename_i hle
   cases hr;have hx':=hx.inv_sc.inv_dat;cases hx' with | pd hC hreps=>
   refine⟨_,key _ _,Be (.dat (.pd hC ?_))⟩;have:=hreps.drop off;rwa [N] at this
  ·cases hr
 ·split at hr
  ·rename_i hle
   cases hr;have hx':=hx.inv_sc;cases hx' with | old hnw hx'=>
   cases hx' with | pd hC hreps=>
   refine⟨_,key _ _,Be (.old hnw (.pd hC ?_))⟩;have:=hreps.drop off;rwa [N] at this
  ·cases hr
 ·split at hr
  ·rename_i hle
   cases hr;have hx':=hx.inv_sc;cases hx' with | vol hx' hsh=>
   cases hx' with | pd hC hreps=>
   cases hsh;refine⟨_,key _ _,Be (.vol (.pd hC ?_) .same)⟩;have:=hreps.drop off;rwa [N] at this
  ·cases hr
 ·cases hr
theorem dv{s:TypeId}{fs:Array Field}{f:G}{fd:Field}{i:TypeInfo}{ax r:AV}{vx:Value}(hs:P.underlying s=T (.struct fs))(hf:fs[f]?=T fd)(hi:P.info? fd.type=T i)(hz:i.size≠0)
  (hx:VRel (cx A nm σ w) ax vx) (hr:BX σ.rows fd.offset ax=T r) :
  ∃v,(Instr.fieldAt s vx f).run P w= .ok v w∧VRel (cx A nm σ w) r v:=
 Rv (F:=fun v=>Instr.fieldAt s v f) (fun b o=>by simp[Instr.fieldAt,run_underlying hs,hf,Instr.sureAddr,fieldPlace,sizeOf,typeInfo,hi,hz,Addr.add_lit]) hx hr
theorem R4{t e:TypeId}{len:G}{ie:TypeInfo}{k:IntKind}{n:Int}(hu:P.underlying t=T (.array len e))(hi:P.info? e=T ie)(h0:0≤n)(h1:n<len)(b o:G) :
  (Instr.indexAt t (.pointer (T ⟨b,o,none⟩)) (.int k n)).run P w= .ok (.pointer (T ⟨b,o+n.toNat*ie.size,none⟩)) w:=by
 simp[Instr.indexAt,asIntOf,run_underlying hu,h0,h1,sizeOf,typeInfo,hi,Addr.add_lit,Instr.sureAddr]
theorem du{t e:TypeId}{len:G}{ie:TypeInfo}{k:IntKind}{n:Int}{ax r:AV}{vx:Value}(hu:P.underlying t=T (.array len e))(hi:P.info? e=T ie)(h0:0≤n)(h1:n<len)
  (hx:VRel (cx A nm σ w) ax vx) (hr:BX σ.rows (n.toNat*ie.size) ax=T r):∃v,(Instr.indexAt t vx (.int k n)).run P w= .ok v w∧VRel (cx A nm σ w) r v:=
 Rv (F:=fun v=>Instr.indexAt t v (.int k n)) (fun b o=>R4 hu hi h0 h1 b o) hx hr
theorem YH{t e:TypeId}{len:G}{ie:TypeInfo}{ax ai r:AV}{vx vi:Value}(hu:P.underlying t=T (.array len e))(hinf:P.info? e=T ie)
  (hx:VRel (cx A nm σ w) ax vx) (hi:VRel (cx A nm σ w) ai vi) (hr:J7 len ie.size ax ai=T r):∃v,(Instr.indexAt t vx vi).run P w= .ok v w∧VRel (cx A nm σ w) r v:=by
 unfold J7 at hr
 split at hr
 ·obtain⟨rfl,_⟩:=hi.inv_int;split at hr
  ·rename_i hn
   cases hr;have hx':=hx.inv_sc;cases hx' with | pb hb=>exact⟨_,R4 hu hinf hn.1 hn.2 _ _,Be (.pb hb)⟩
  ·cases hr
 ·cases hr
theorem eA{t:TypeId}{fs:Array Field}{f:G}{fd:Field}{g:Bool}{n:G}{ax r:AV}{vx:Value}(hs:P.underlying t=T (.struct fs))(hf:fs[f]?=T fd)(ha:Dh P fd.type=T (g,n))
  (hx:VRel (cx A nm σ w) ax vx) (hr:Fg fd.offset g n ax=T r) :
  ∃v,(Instr.field t vx f).run P w= .ok v w∧VRel (cx A nm σ w) r v:=by
 unfold Fg at hr
 split at hr
 ·rename_i cs
  obtain⟨vs,rfl,hcs⟩:=hx.inv_ag;obtain⟨v,hv,hrel⟩:=HG hcs.pre hr;refine⟨v,?_,hrel⟩;obtain⟨h1,h2,_⟩:=O9 (w:=w) ha;unfold Hb at hv
  cases g
  ·simp only[cond_false] at hv
   simp[Instr.field,run_underlying hs,hf,asAgg,part,h1,hv]
  ·simp only[cond_true] at hv
   split at hv
   ·rename_i hle
    cases hv;simp[Instr.field,run_underlying hs,hf,asAgg,part,h1,h2,List.extract_toArray,Nat.add_sub_cancel_left]
   ·cases hv
 ·cases hr
theorem dy{t e:TypeId}{len:G}{g:Bool}{m:G}{k:IntKind}{n:Int}{ax r:AV}{vx:Value}(hs:P.underlying t=T (.array len e))(ha:Dh P e=T (g,m))(h0:0≤n)(h1:n<len)
  (hx:VRel (cx A nm σ w) ax vx) (hr:Fg (n.toNat*m) g m ax=T r):∃v,(Instr.index t vx (.int k n)).run P w= .ok v w∧VRel (cx A nm σ w) r v:=by
 unfold Fg at hr
 split at hr
 ·rename_i cs
  obtain⟨vs,rfl,hcs⟩:=hx.inv_ag;obtain⟨v,hv,hrel⟩:=HG hcs.pre hr;refine⟨v,?_,hrel⟩;obtain⟨k1,k2,_⟩:=O9 (w:=w) ha;unfold Hb at hv
  cases g
  ·simp only[cond_false] at hv
   simp[Instr.index,asIntOf,run_underlying hs,h0,h1,part,k1,k2,hv]
  ·simp only[cond_true] at hv
   split at hv
   ·rename_i hle
    cases hv;simp[Instr.index,asIntOf,run_underlying hs,h0,h1,part,k1,k2,List.extract_toArray,Nat.add_sub_cancel_left]
   ·cases hv
 ·cases hr
theorem La{α:Type}{l:E α}{i:Int}{x:α}(hx:ix l i=T x):0≤i∧i.toNat<l.length∧l[i.toNat]?=T x∧i<l.length:=by
 unfold ix at hx
 split at hx
 ·rename_i h0
  have:=(List.getElem?_eq_some_iff.1 hx).1;exact⟨h0,this,hx,by omega⟩
 ·cases hx
theorem hF{t:TypeId}{inf:TypeInfo}{ax ai r:AV}{vx vi:Value}(he:Mf P t=T inf)(hx:VRel (cx A nm σ w) ax vx)(hi:VRel (cx A nm σ w) ai vi)(hr:Cq σ.rows inf.size ax ai=T r) :
  ∃v,(Instr.indexAt t vx vi).run P w= .ok v w∧VRel (cx A nm σ w) r v:=by
 obtain⟨e,hu,hinf⟩:=dA he
 have key:∀(b o len cap:G) (k:IntKind) (i:Int),0≤i→i<(len:Int)→(Instr.indexAt t (.slice (T ⟨b,o,none⟩) len cap) (.int k i)).run P w= .ok (.pointer (T ⟨b,o+i.toNat*inf.size,none⟩)) w:=by
  intro b o len cap k i h0 h1;simp[Instr.indexAt,asIntOf,run_underlying hu,h0,h1,sizeOf,typeInfo,hinf,Addr.add_lit]
 unfold Cq at hr
 split at hr
 ·rename_i es k i
  obtain⟨rfl,_⟩:=hi.inv_int;split at hr
  ·rename_i d hd
   obtain⟨h0,hl,hg,hlt⟩:=La hd;split at hr
   ·rename_i hsz
    cases hr;have hx':=hx.inv_sc.inv_dat;cases hx' with
    | nil=>simp at hl
    | sl hC hpos hrows hlen hcap hmax=>
     subst hlen;obtain⟨hdl,hreps⟩:=hrows.row hg;refine⟨_,key _ _ _ _ _ _ h0 hlt,Be (.dat (.pd hC ?_))⟩;rw[N] at hreps
     rw[← hsz.1,hdl];exact hreps
   ·cases hr
  ·cases hr
 ·rename_i es k i
  obtain⟨rfl,_⟩:=hi.inv_int;split at hr
  ·rename_i d hd
   obtain⟨h0,hl,hg,hlt⟩:=La hd;split at hr
   ·rename_i hsz
    cases hr;have hx':=hx.inv_sc;cases hx' with | old hnw hx'=>
    cases hx' with
    | nil=>simp at hl
    | sl hC hpos hrows hlen hcap hmax=>
     subst hlen;obtain⟨hdl,hreps⟩:=hrows.row hg;refine⟨_,key _ _ _ _ _ _ h0 hlt,Be (.old hnw (.pd hC ?_))⟩;rw[N] at hreps
     rw[← hsz.1,hdl];exact hreps
   ·cases hr
  ·cases hr
 ·rename_i es k i
  obtain⟨rfl,_⟩:=hi.inv_int;split at hr
  ·rename_i d hd
   obtain⟨h0,hl,hg,hlt⟩:=La hd;split at hr
   ·rename_i hsz
    cases hr;have hx':=hx.inv_sc;cases hx' with | vol hx' hsh=>
    cases hx' with
    | nil=>simp at hl
    | sl hC hpos hrows hlen hcap hmax=>
     cases hsh;subst hlen;obtain⟨hdl,hreps⟩:=hrows.row hg;refine⟨_,key _ _ _ _ _ _ h0 hlt,Be (.vol (.pd hC ?_) .same)⟩;rw[N] at hreps
     rw[← hsz.1,hdl];exact hreps
   ·cases hr
  ·cases hr
 ·rename_i id k i
  obtain⟨rfl,_⟩:=hi.inv_int;split at hr
  ·rename_i sz' es hf
   split at hr
   ·rename_i d hd
    obtain⟨h0,hl,hg,hlt⟩:=La hd;split at hr
    ·rename_i hsz
     cases hr;subst hsz;rcases hx.inv_sc.inv_own hf with ⟨rfl,_,_,_⟩|⟨b,cap,hb,own,rfl⟩
     ·simp at hl
     ·exact⟨_,key _ _ _ _ _ _ h0 hlt,Be (.pe hf hb own hl (by omega))⟩
    ·cases hr
   ·cases hr
  ·cases hr
 ·cases hr
theorem M6(s:E UInt8):(⟨s.toArray⟩:ByteArray).size=s.length:=by
 show s.toArray.size=s.length
 simp
theorem Zf(s:E UInt8)(i:G):(⟨s.toArray⟩:ByteArray)[i]?=s[i]?:=by
 by_cases hi:i<s.length
 ·rw[getElem?_pos _ _ (by rw[M6]; exact hi),List.getElem?_eq_getElem hi];rfl
 ·rw[getElem?_neg _ _ (by rw[M6]; exact hi),List.getElem?_eq_none (by omega)]
theorem hI{t:TypeId}{ax ai r:AV}{vx vi:Value}(hu:P.underlying t=T .string)(hx:VRel (cx A nm σ w) ax vx)(hi:VRel (cx A nm σ w) ai vi)(hr:Iv ax ai=T r) :
  ∃v,(Instr.index t vx vi).run P w= .ok v w∧VRel (cx A nm σ w) r v:=by
 unfold Iv at hr
 split at hr
 ·rename_i s k i
  simp only[L] at hr
  obtain⟨b,hb,rfl⟩:=hr;obtain⟨rfl,_⟩:=hi.inv_int;obtain⟨rfl,_⟩:=hx.inv_str;obtain⟨h0,hl,hg,hlt⟩:=La hb;have hb2:b.toNat<256:=b.toNat_lt;refine⟨.int .u8 b.toNat,?_,Fs (by simp[IntKind.min,IntKind.signed]) (by simp[IntKind.max,IntKind.signed,IntKind.bits]; omega)⟩;have hq:(⟨s.toArray⟩:ByteArray)[i.toNat]?=T b:=by rw[Zf,hg]
  simp[Instr.index,asIntOf,run_underlying hu,h0,hq]
 ·cases hr
theorem Ny{n:G}(hn:n≤maxLen):IntKind.i64.min≤(n:Int)∧(n:Int)≤IntKind.i64.max:=by
 unfold maxLen at hn
 simp[IntKind.min,IntKind.max,IntKind.signed,IntKind.bits];omega
theorem nx{t ty:TypeId}{ax r:AV}{vx:Value}(hu:P.underlying t=T .string)(hx:VRel (cx A nm σ w) ax vx)(hr:IS ax=T r) :
  ∃v,(Builtin.len_ #[t] ty #[vx]).run P w= .ok v w∧VRel (cx A nm σ w) r v:=by
 unfold IS at hr
 split at hr
 ·rename_i s
  cases hr;obtain⟨rfl,hl⟩:=hx.inv_str;exact⟨.int .i64 s.length,by simp[Builtin.len_,run_underlying hu,goInt,M6],Fs (Ny hl).1 (Ny hl).2⟩
 ·cases hr
theorem Rc{h:A6}{sz:G}:∀{es:E (E D)} {vs:E Value} {bs:E UInt8},RepRows h sz es vs→Cy es=T bs→
  (es≠ []→sz=1)∧es.length≤vs.length∧bs.length=es.length∧∃ns:E Int,vs.take es.length=ns.map (Value.int .u8)∧ns.map (fun n=>UInt8.ofNat n.toNat)=bs
 | [],vs,bs,_,hb=>by
  simp only[Cy,Option.some.injEq] at hb
  subst hb;exact⟨fun h=>absurd rfl h,by simp,rfl,[],by simp,rfl⟩
 | d::es,vs,bs,.cons hl hd hr,hb=>by
  unfold Cy at hb
  split at hb
  ·rename_i e; cases e
  ·rename_i n r e
   cases e;simp only[L] at hb
   obtain⟨bs',hb',rfl⟩:=hb;obtain rfl:sz=1:=by simpa using hl.symm
   cases hd with
   | cons hv _=>
    cases hv;rename_i vs' _ _
    obtain⟨_,h2,h3,ns,h4,h5⟩:=Rc hr hb';simp only[List.drop_succ_cons,List.drop_zero] at h2 h4
    exact⟨fun _=>rfl,by simp; omega,by simp[h3],n::ns,by simp[h4],by simp[h5]⟩
  ·cases hb
theorem Ug:∀(ns:E Int) (s:ByteArray),ns.foldl (fun r n=>r.push (UInt8.ofNat n.toNat)) s=⟨(s.data.toList++ns.map fun n=>UInt8.ofNat n.toNat).toArray⟩
 | [],s=>by simp
 | n::ns,s=>by
  rw[List.foldl_cons,Ug ns];simp
theorem ng{s t e:TypeId}{ax r:AV}{vx:Value}(hs:P.underlying s=T (.slice e))(he:P.underlying e=T (.int .u8))(ht:P.underlying t=T .string)(hx:VRel (cx A nm σ w) ax vx)(hr:FA σ.rows ax=T r) :
  ∃v,(convert s t vx).run P w= .ok v w∧VRel (cx A nm σ w) r v:=by
 have nilc:∀p c bs,Cy []=T bs→∃v,(convert s t (.slice p 0 c)).run P w= .ok v w∧VRel (cx A nm σ w) (.v (.sc (.dat (.str bs)))) v:=by
  intro p c bs hb;simp only[Cy,Option.some.injEq] at hb
  subst hb;refine⟨.string .empty,?_,.v (.sc (.dat (.str (s:= []) (by simp))))⟩;cases p<;>simp[convert,run_underlying hs,run_underlying ht,run_underlying he,Conv.bytesToString,loadCells,loadCellsFrom]
 have full:∀(b off c sz:G) (C:Array Value) (tt:TypeId) (fr:G × G) (es:E (E D)) (bs:E UInt8),es≠ []→Cy es=T bs→es.length≤maxLen→w.heap[b]?=T (.cells C tt fr)→RepRows (Ab A nm w) sz es (C.toList.drop off)→
   ∃v,(convert s t (.slice (T ⟨b,off,none⟩) es.length c)).run P w= .ok v w∧VRel (cx A nm σ w) (.v (.sc (.dat (.str bs)))) v:=by
  intro b off c sz C tt fr es bs hne hb hm hC hrows;obtain⟨_,h2,h3,ns,h4,h5⟩:=Rc hrows hb;have hpe:0<es.length:=List.length_pos_iff.2 hne;simp only[List.length_drop,Array.length_toList] at h2
  have hld:=Nx (P:=P) (w:=w) (b:=b) (off:=off) (n:=es.length) hC (by omega);rw[h4] at hld
  refine⟨.string ⟨bs.toArray⟩,?_,.v (.sc (.dat (.str (by omega))))⟩;have:=run_bytesToString (P:=P) w ⟨b,off,none⟩ es.length c ns hld;rw[Ug] at this
  simp only[convert,Sem.run_bind,run_underlying hs,run_underlying ht,run_underlying he,Result.andThen_ok];rw[this,h5];simp
 unfold FA at hr
 split at hr
 ·rename_i es
  simp only[L] at hr
  obtain⟨bs,hb,rfl⟩:=hr;have hx':=hx.inv_sc.inv_dat;cases hx' with
  | nil=>exact nilc _ _ _ hb
  | sl hC hpos hrows hlen hcap hmax=>
   subst hlen;by_cases hne:es= []
   ·subst hne; exact nilc _ _ _ hb
   ·obtain⟨_,C',tt,fr,_,hC',rfl⟩:=hC;exact full _ _ _ _ C' tt fr es bs hne hb (by omega) hC' hrows
 ·split at hr
  ·rename_i sz es hf
   simp only[L] at hr
   obtain⟨bs,hb,rfl⟩:=hr;rcases hx.inv_sc.inv_own hf with ⟨rfl,_,a0,rfl⟩|⟨b,cap,hb2,own,rfl⟩
   ·exact nilc _ _ _ hb
   ·have h1:=own.room; have h2:=own.small;obtain⟨_,_,_,C,tt,k1,k2,k3⟩:=own;by_cases hne:es= []
    ·subst hne; exact nilc _ _ _ hb
    ·exact full b 0 cap _ C tt _ es bs hne hb (by omega) k1 (by rw[List.drop_zero]; exact k3)
  ·cases hr
 ·cases hr
theorem kg{t ty e:TypeId}{ax r:AV}{vx:Value}(hu:P.underlying t=T (.slice e))(hx:VRel (cx A nm σ w) ax vx)(hr:Db σ.rows ax=T r) :
  ∃v,(Builtin.len_ #[t] ty #[vx]).run P w= .ok v w∧VRel (cx A nm σ w) r v:=by
 have key:∀p n c,n≤maxLen→∃v,(Builtin.len_ #[t] ty #[.slice p n c]).run P w= .ok v w∧VRel (cx A nm σ w) (.v (.sc (.dat (.int .i64 (n:Int))))) v:=fun p n c hn=>
  ⟨.int .i64 n,by simp[Builtin.len_,run_underlying hu,goInt],Fs (Ny hn).1 (Ny hn).2⟩
 unfold Db at hr
 split at hr
 ·cases hr;have hx':=hx.inv_sc.inv_dat;cases hx' with
  | nil=>exact key _ 0 _ (by simp[maxLen])
  | sl hC hpos hrows hlen hcap hmax=>subst hlen; exact key _ _ _ (by omega)
 ·split at hr
  ·rename_i sz es hf
   cases hr;rcases hx.inv_sc.inv_own hf with ⟨rfl,_,a0,rfl⟩|⟨b,cap,hb,own,rfl⟩
   ·exact key _ 0 _ (by simp[maxLen])
   ·have h1:=own.room; have h2:=own.small; exact key _ _ _ (by omega)
  ·cases hr
 ·cases hr;have hx':=hx.inv_sc;cases hx' with
  | nil=>exact key _ 0 _ (by simp[maxLen])
 ·cases hr;have hx':=hx.inv_sc;cases hx' with | old hnw hx'=>
  cases hx' with
  | nil=>exact key _ 0 _ (by simp[maxLen])
  | sl hC hpos hrows hlen hcap hmax=>subst hlen; exact key _ _ _ (by omega)
 ·cases hr;have hx':=hx.inv_sc;cases hx' with | vol hx' hsh=>
  cases hx' with
  | nil=>cases hsh; exact key _ 0 _ (by simp[maxLen])
  | sl hC hpos hrows hlen hcap hmax=>cases hsh; subst hlen; exact key _ _ _ (by omega)
 ·cases hr
theorem TR{g:Bool}{ax ay r:AV}{vx vy:Value}(hx:VRel (cx A nm σ w) ax vx)(hy:VRel (cx A nm σ w) ay vy)(hr:H8 g ax ay=T r) :
  ∃v,((if g then Builtin.max2 vx vy else Builtin.min2 vx vy).run P w= .ok v w)∧VRel (cx A nm σ w) r v:=by
 unfold H8 at hr
 split at hr
 ·rename_i k x k' y
  split at hr
  ·rename_i hk
   subst hk;cases hr;obtain⟨rfl,a1,a2⟩:=hx.inv_int;obtain⟨rfl,b1,b2⟩:=hy.inv_int;cases g
   ·refine⟨_,rfl,?_⟩;simp only[cond_false];split<;>exact Fs ‹_› ‹_›
   ·refine⟨_,rfl,?_⟩;simp only[cond_true,gt_iff_lt];split<;>exact Fs ‹_› ‹_›
  ·cases hr
 ·cases hr
theorem dk{i:G}{ax r:AV}{vx:Value}(hx:VRel X ax vx)(hr:HO i ax=T r) :
  ∃v,(Instr.extract vx i).run P w= .ok v w∧VRel X r v:=by
 unfold HO at hr
 split at hr
 ·rename_i l
  simp only[L] at hr
  obtain⟨x,hl,rfl⟩:=hr;cases hx with | tup H=>
  have key:∀{l:E V1} {vs:E Value} {i:G} {x:V1},V1Rels X l vs→l[i]?=T x→∃v,vs[i]?=T v∧V1Rel X x v:=by
   intro l vs i x H hl
   induction H generalizing i with
   | nil=>simp at hl
   | cons a _ ih=>
    cases i with
    | zero=>simp at hl; subst hl; exact⟨_,by simp,a⟩
    | succ i=>simp at hl; obtain⟨v,hv,hr⟩:=ih hl; exact⟨v,by simpa using hv,hr⟩
  obtain⟨v,hv,hrel⟩:=key H hl;exact⟨v,by simp[Instr.extract,hv],.v hrel⟩
 ·cases hr
theorem mZ{ac ax ay r:AV}{vc vx vy:Value}(hc:VRel X ac vc)(hx:VRel X ax vx)(hy:VRel X ay vy)(hr:IQ ac ax ay=T r) :
  ∃b,vc= .bool b∧VRel X r (if b then vx else vy):=by
 unfold IQ at hr
 split at hr
 ·rename_i b
  cases hr;exact⟨b,hc.inv_bool,by cases b<;>simpa⟩
 ·cases hr
theorem lm{ax r:AV}{vx:Value}(hx:VRel X ax vx)(hr:Eo ax=T r):(∃ad,vx= .pointer (T ad))∧VRel X r vx:=by
 unfold Eo at hr
 split at hr<;>first | (cases hr; done) | skip
 all_goals
  cases hr;refine⟨?_,hx⟩;have hx':=hx.inv_sc;cases hx'
  first
   | exact⟨_,rfl⟩
   | (rename_i hd; cases hd; exact⟨_,rfl⟩)
   | (rename_i hd he; cases hd; cases he; exact⟨_,rfl⟩)
theorem TQ{f:FuncId}:∀{avs:E AV} {vs:E Value} {ids:E G},avs.length=vs.length→(∀(i:G) (a:AV) (v:Value),avs[i]?=T a→vs[i]?=T v→VRel X a v)→En f avs=T ids→
  ∃bs,ids.mapM (fun i=>X.nm (2*i))=T bs∧vs=bs.map fun b=>Value.pointer (T ⟨b,0,none⟩)
 | [],[],ids,_,_,hr=>by simp[En] at hr; subst hr; exact⟨[],rfl,rfl⟩
 | [],_::_,_,hl,_,_=>by simp at hl
 | _::_,[],_,hl,_,_=>by simp at hl
 | a::avs,v::vs,ids,hl,H,hr=>by
  unfold En at hr
  split at hr
  ·rename_i heq; cases heq
  ·rename_i id r heq
   cases heq;simp only[L] at hr
   obtain⟨ids',hr',rfl⟩:=hr;obtain⟨bs,hbs,hvs⟩:=TQ (by simpa using hl) (fun i a v ha hv=>H (i+1) a v (by simpa using ha) (by simpa using hv)) hr';have h0:=(H 0 (.v (.sc (.pb id 0))) v (by simp) (by simp)).inv_sc;cases h0 with | pb hb=>
   refine⟨_::bs,?_,by rw[hvs]; rfl⟩;simp[List.mapM_cons,hb,hbs]
  ·cases hr
theorem TP:∀{avs:E AV} {vs:E Value} {ds:E D},avs.length=vs.length→(∀(i:G) (a:AV) (v:Value),avs[i]?=T a→vs[i]?=T v→VRel X a v)→Em avs=T ds→Reps X.h ds vs∧ds.length=vs.length
 | [],[],ds,_,_,hr=>by simp[Em] at hr; subst hr; exact⟨.nil,rfl⟩
 | [],_::_,_,hl,_,_=>by simp at hl
 | _::_,[],_,hl,_,_=>by simp at hl
 | a::avs,v::vs,ds,hl,H,hr=>by
  unfold Em at hr
  split at hr
  ·rename_i heq; cases heq
  ·rename_i id r heq
   cases heq;simp only[L] at hr
   obtain⟨ds',hr',rfl⟩:=hr;obtain⟨h1,h2⟩:=TP (by simpa using hl) (fun i a v ha hv=>H (i+1) a v (by simpa using ha) (by simpa using hv)) hr';have h0:=(H 0 (.v (.sc (.dat (.pd id)))) v (by simp) (by simp)).inv_sc;cases h0 with | dat hb=>exact⟨.cons hb h1,by simp[h2]⟩
  ·cases hr
theorem lQ{f:FuncId}{avs:E AV}{vs:E Value}{c:AC}(hl:avs.length=vs.length)(H:∀(i:G) (a:AV) (v:Value),avs[i]?=T a→vs[i]?=T v→VRel X a v)(h:El f avs=T c):CRel X c (.func (.func f) #[] vs.toArray):=by
 unfold El at h;split at h
 ·simp only[L] at h;obtain⟨q,hq,rfl⟩:=h;obtain⟨h1,h2⟩:=TP hl H hq;exact .dat (.clo h1 h2)
 ·simp only[L] at h;obtain⟨ids,hq,rfl⟩:=h;obtain⟨bs,hbs,rfl⟩:=TQ hl H hq;exact .clo hbs
end
end Go.Vi
