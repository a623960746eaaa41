/-
The value level. No condition.
-/
import Derived.Test.YtpfcgapakfcllaaGreatDoorCVi26
namespace Go.Vi
set_option linter.all false
open List renaming contains_cons → O, all_cons → U
open Bool renaming and_true → V, true → T, false → F
open Option renaming some → E, none → G
open _root_ renaming List → H, Nat → L
section
variable {P : Program}
end
theorem cR{α:Type}{n:L}:A1 ([]:H (L × α)) n=G:=rfl
theorem cQ{α:Type}{k n:L}{v:α}{r:H (L × α)}:A1 ((k,v)::r) n=bif k==n then E v else A1 r n:=rfl
theorem ka{α:Type}{n:L}{v:α}:put ([]:H (L × α)) n v= [(n,v)]:=rfl
theorem jz{α:Type}{k n:L}{u v:α}{r:H (L × α)}:put ((k,u)::r) n v=bif k==n then(k,v)::r else(k,u)::put r n v:=rfl
theorem nF{σ:St}{n:L}:σ.val (.t n)=σ.get n:=rfl
theorem nE{σ:St}{v:AV}:σ.val (.c v)=v:=rfl
theorem cw{env bx rows}{k:L}:(St.mk env bx rows).get k=(A1 env k).getD .undef:=rfl
theorem lf{env bx rows}{k:L}{v:AV}:(St.mk env bx rows).set k v=⟨put env k v,bx,rows⟩:=rfl
theorem getD_some{α:Type}{a b:α}:(E a).getD b=a:=rfl
theorem cv{α:Type}{b:α}:(G:Option α).getD b=b:=rfl
theorem map_some{α β:Type}{f:α→β}{a:α}:(E a).map f=E (f a):=rfl
theorem map_none{α β:Type}{f:α→β}:(G:Option α).map f=G:=rfl
theorem YG{α:Type}{a b:α}:cond T a b=a:=rfl
theorem YF{α:Type}{a b:α}:cond F a b=b:=rfl
theorem lq{s:H UInt8}:GE (.v (.sc (.dat (.str s))))=E (.v (.sc (.dat (.int .i64 s.length)))):=rfl
theorem gz{rs:Rows}{es:H (H D)}:BP rs (.v (.sc (.dat (.sl es))))=E (.v (.sc (.dat (.int .i64 es.length)))):=rfl
theorem lW{rs:Rows}{es:H (H D)}:Ep rs (.v (.sc (.dat (.sl es))))=(Cs es).map fun b=> .v (.sc (.dat (.str b))):=rfl
theorem lV{rs:Rows}{id:L}:Ep rs (.v (.sc (.own id)))=match A1 rs id with | some (_,es)=>(Cs es).map fun b=> .v (.sc (.dat (.str b))) | none=>G:=rfl
theorem gw{rs:Rows}:BP rs (.v (.sc .nil))=E (.v (.sc (.dat (.int .i64 0)))):=rfl
theorem YI{k k':IntKind}{n:Int}:Mr k (.v (.sc (.dat (.int k' n))))=E (.v (.sc (.dat (.int k (k.wrap n))))):=rfl
theorem Y4{op:BinOp}{k:IntKind}{x y:Int}:Bv op (.v (.sc (.dat (.int k x)))) (.v (.sc (.dat (.int k y))))=(Au op k x y).map fun d=> .v (.sc (.dat d)):=by simp[Bv]
theorem Yc{op:BinOp}{x y:H UInt8}:Bv op (.v (.sc (.dat (.str x)))) (.v (.sc (.dat (.str y))))=(Es op x y).map fun d=> .v (.sc (.dat d)):=rfl
theorem fi{k:IntKind}{x y:Int}:Au .add k x y=E (.int k (k.wrap (x+y))):=rfl
theorem gG{k:IntKind}{x y:Int}:Au .sub k x y=E (.int k (k.wrap (x - y))):=rfl
theorem fu{k:IntKind}{x y:Int}:Au .mul k x y=E (.int k (k.wrap (x*y))):=rfl
theorem fx{k:IntKind}{x y:Int}:Au .quo k x y=bif y==0 then G else E (.int k (k.wrap (x.tdiv y))):=by
 by_cases h:y=0
 ·simp[Au,h]
 ·have h':(y==0)=F:=by simpa using h
  simp[Au,h,h']
theorem fy{k:IntKind}{x y:Int}:Au .rem k x y=bif y==0 then G else E (.int k (k.wrap (x.tmod y))):=by
 by_cases h:y=0
 ·simp[Au,h]
 ·have h':(y==0)=F:=by simpa using h
  simp[Au,h,h']
theorem fm{k:IntKind}{x y:Int}:Au .eql k x y=E (.bool (x==y)):=rfl
theorem fv{k:IntKind}{x y:Int}:Au .neq k x y=E (.bool (x !=y)):=rfl
theorem ft{k:IntKind}{x y:Int}:Au .lss k x y=E (.bool (decide (x<y))):=rfl
theorem fq{k:IntKind}{x y:Int}:Au .leq k x y=E (.bool (decide (x≤y))):=rfl
theorem fp{k:IntKind}{x y:Int}:Au .gtr k x y=E (.bool (decide (y<x))):=rfl
theorem fo{k:IntKind}{x y:Int}:Au .geq k x y=E (.bool (decide (y≤x))):=rfl
theorem mT{x y:H UInt8}:Es .eql x y=E (.bool (x==y)):=rfl
theorem mU{x y:H UInt8}:Es .neq x y=E (.bool (!(x==y))):=rfl
theorem my{b:Bool}:Ew .not (.v (.sc (.dat (.bool b))))=E (.v (.sc (.dat (.bool (!b))))):=rfl
theorem fN{s:H UInt8}{k:IntKind}{i:Int}:Gp (.v (.sc (.dat (.str s)))) (.v (.sc (.dat (.int k i))))=(ix s i).map fun b=> .v (.sc (.dat (.int .u8 b.toNat))):=rfl
theorem gL{α:Type}{l:H α}{i:L}(h:i<l.length):ix l (i:Int)=E l[i]:=by simp[ix,h]
theorem cN{off:L}{g:Bool}{n:L}{cs:H AC}:Ef off g n (.v (.ag cs))=Ca cs off g n:=rfl
theorem Yx{cs:H AC}{off n:L}:Ca cs off F n=(cs[off]?).map fun c=> .v (.sc c):=rfl
theorem fe{env bx rows}{d:L}{rs:H R1}:(St.mk env bx rows).inst d rs=⟨put env d (Be d rs),bx,AT rows (Bk d rs)⟩:=rfl
theorem fU{g:L}{r:R1}:Be g [r]= .v (r.inst g 0):=rfl
theorem fV{g:L}{r r':R1}{rs:H R1}:Be g (r::r'::rs)= .tup (CE g 0 (r::r'::rs)):=rfl
theorem fZ{g j:L}:CE g j []= []:=rfl
theorem fY{g j:L}{r:R1}{rs:H R1}:CE g j (r::rs)=r.inst g j::CE g (j+r.width) rs:=rfl
theorem pF{c:RC}:R1.width (.sc c)=1:=rfl
theorem pE{cs:H RC}:R1.width (.ag cs)=cs.length:=rfl
theorem fh{g j:L}{d:D}:RC.inst g j (.v d)= .dat d:=rfl
theorem ff{g j sz:L}{es:H (H D)}:RC.inst g j (.o sz es)= .own (g*64+j):=rfl
theorem fg{g j:L}{c:RC}:R1.inst g j (.sc c)= .sc (c.inst g j):=rfl
theorem fc{g j:L}{cs:H RC}:R1.inst g j (.ag cs)= .ag (Dc g j cs):=rfl
theorem fX{g j:L}:Dc g j []= []:=rfl
theorem fW{g j:L}{c:RC}{cs:H RC}:Dc g j (c::cs)=c.inst g j::Dc g (j+1) cs:=rfl
theorem lD{g:L}:Bk g []= []:=rfl
theorem lE{g:L}{r:R1}:Bk g [r]=Bl g 0 r.cells:=by simp[Bk]
theorem lG{g:L}{r r':R1}:Bk g [r,r']=Bl g 0 (r.cells++r'.cells):=by simp[Bk]
theorem Yz{c:RC}:R1.cells (.sc c)= [c]:=rfl
theorem Yv{cs:H RC}:R1.cells (.ag cs)=cs:=rfl
theorem lH{g j:L}:Bl g j []= []:=rfl
theorem lJ{g j:L}{d:D}{cs:H RC}:Bl g j (.v d::cs)=Bl g (j+1) cs:=rfl
theorem lI{g j sz:L}{es:H (H D)}{cs:H RC}:Bl g j (.o sz es::cs)=(g*64+j,sz,es)::Bl g (j+1) cs:=rfl
theorem jw{rows:Rows}:AT rows []=rows:=rfl
theorem jv{rows r:Rows}{k:L}{x:L × H (H D)}:AT rows ((k,x)::r)=put (AT rows r) k x:=rfl
theorem WU{α:Type}{l:H α}: []++l=l:=rfl
theorem WT{α:Type}{a:α}{l m:H α}:(a::l)++m=a::(l++m):=rfl
theorem Yk{x:Int}:(x !=x)=F:=by simp
theorem Y0{x:Int}:(x==x)=T:=by simp
section
variable {P : Program} {k : H Fr} {Q : Xj → St → Prop} {σ : St} {its : H AD} {n : L} {N : H L}
theorem Z4{d x}:go P (.dops ((E [],G,.mv d x)::its)::k) Q .normal (E σ)=go P (.ops [(G,.mv d x)]:: .dops its::k) Q .normal (E σ):=AY rfl rfl
theorem Z6{d c a b}:go P (.dops ((E [],G,.pick d c a b)::its)::k) Q .normal (E σ)=go P (.ops [(G,.pick d c a b)]:: .dops its::k) Q .normal (E σ):=AY rfl rfl
theorem YP{d zs ps}:go P (.dops ((E [],G,.build d zs ps)::its)::k) Q .normal (E σ)=go P (.ops [(G,.build d zs ps)]:: .dops its::k) Q .normal (E σ):=AY rfl rfl
theorem YZ{d x g n}:go P (.dops ((E [],G,.load d x g n)::its)::k) Q .normal (E σ)=go P (.ops [(G,.load d x g n)]:: .dops its::k) Q .normal (E σ):=AY rfl rfl
theorem Z5{d x}:go P (.dops ((E [],G,.nilc d x)::its)::k) Q .normal (E σ)=go P (.ops [(G,.nilc d x)]:: .dops its::k) Q .normal (E σ):=AY rfl rfl
theorem YM{d op x y}:go P (.dops ((E [],G,.bin d op x y)::its)::k) Q .normal (E σ)=go P (.ops [(G,.bin d op x y)]:: .dops its::k) Q .normal (E σ):=AY rfl rfl
theorem YU{d g ks x y}:go P (.dops ((E [],G,.geq d g ks x y)::its)::k) Q .normal (E σ)=go P (.ops [(G,.geq d g ks x y)]:: .dops its::k) Q .normal (E σ):=AY rfl rfl
theorem YL{d g x y}:go P (.dops ((E [],G,.beq d g x y)::its)::k) Q .normal (E σ)=go P (.ops [(G,.beq d g x y)]:: .dops its::k) Q .normal (E σ):=AY rfl rfl
theorem Zc{d op x}:go P (.dops ((E [],G,.un d op x)::its)::k) Q .normal (E σ)=go P (.ops [(G,.un d op x)]:: .dops its::k) Q .normal (E σ):=AY rfl rfl
theorem YQ{d kd x}:go P (.dops ((E [],G,.conv d kd x)::its)::k) Q .normal (E σ)=go P (.ops [(G,.conv d kd x)]:: .dops its::k) Q .normal (E σ):=AY rfl rfl
theorem Z8{d sz x lo hi mx}:go P (.dops ((E [],G,.slc d sz x lo hi mx)::its)::k) Q .normal (E σ)=go P (.ops [(G,.slc d sz x lo hi mx)]:: .dops its::k) Q .normal (E σ):=AY rfl rfl
theorem Za{d x lo hi}:go P (.dops ((E [],G,.sslc d x lo hi)::its)::k) Q .normal (E σ)=go P (.ops [(G,.sslc d x lo hi)]:: .dops its::k) Q .normal (E σ):=AY rfl rfl
theorem YS{d x off}:go P (.dops ((E [],G,.faddr d x off)::its)::k) Q .normal (E σ)=go P (.ops [(G,.faddr d x off)]:: .dops its::k) Q .normal (E σ):=AY rfl rfl
theorem YT{d x off g n}:go P (.dops ((E [],G,.field d x off g n)::its)::k) Q .normal (E σ)=go P (.ops [(G,.field d x off g n)]:: .dops its::k) Q .normal (E σ):=AY rfl rfl
theorem YW{d x i sz}:go P (.dops ((E [],G,.iaddr d x i sz)::its)::k) Q .normal (E σ)=go P (.ops [(G,.iaddr d x i sz)]:: .dops its::k) Q .normal (E σ):=AY rfl rfl
theorem YJ{d x i len sz}:go P (.dops ((E [],G,.aaddr d x i len sz)::its)::k) Q .normal (E σ)=go P (.ops [(G,.aaddr d x i len sz)]:: .dops its::k) Q .normal (E σ):=AY rfl rfl
theorem YX{d x i}:go P (.dops ((E [],G,.idx d x i)::its)::k) Q .normal (E σ)=go P (.ops [(G,.idx d x i)]:: .dops its::k) Q .normal (E σ):=AY rfl rfl
theorem YR{d x i}:go P (.dops ((E [],G,.extr d x i)::its)::k) Q .normal (E σ)=go P (.ops [(G,.extr d x i)]:: .dops its::k) Q .normal (E σ):=AY rfl rfl
theorem Z1{d t x}:go P (.dops ((E [],G,.mkif d t x)::its)::k) Q .normal (E σ)=go P (.ops [(G,.mkif d t x)]:: .dops its::k) Q .normal (E σ):=AY rfl rfl
theorem Zb{d x t zc}:go P (.dops ((E [],G,.tass d x t zc)::its)::k) Q .normal (E σ)=go P (.ops [(G,.tass d x t zc)]:: .dops its::k) Q .normal (E σ):=AY rfl rfl
theorem YY{d x}:go P (.dops ((E [],G,.len d x)::its)::k) Q .normal (E σ)=go P (.ops [(G,.len d x)]:: .dops its::k) Q .normal (E σ):=AY rfl rfl
theorem Z9{d x}:go P (.dops ((E [],G,.slen d x)::its)::k) Q .normal (E σ)=go P (.ops [(G,.slen d x)]:: .dops its::k) Q .normal (E σ):=AY rfl rfl
theorem Z7{d x}:go P (.dops ((E [],G,.sconv d x)::its)::k) Q .normal (E σ)=go P (.ops [(G,.sconv d x)]:: .dops its::k) Q .normal (E σ):=AY rfl rfl
theorem Z3{d m x y}:go P (.dops ((E [],G,.mm d m x y)::its)::k) Q .normal (E σ)=go P (.ops [(G,.mm d m x y)]:: .dops its::k) Q .normal (E σ):=AY rfl rfl
theorem Z0{d f caps}:go P (.dops ((E [],G,.mkf d f caps)::its)::k) Q .normal (E σ)=go P (.ops [(G,.mkf d f caps)]:: .dops its::k) Q .normal (E σ):=AY rfl rfl
theorem YN{d x}:go P (.dops ((E [],G,.box d x)::its)::k) Q .normal (E σ)=go P (.ops [(G,.box d x)]:: .dops its::k) Q .normal (E σ):=AY rfl rfl
theorem YK{d cs}:go P (.dops ((E [],G,.alloc d cs)::its)::k) Q .normal (E σ)=go P (.ops [(G,.alloc d cs)]:: .dops its::k) Q .normal (E σ):=AY rfl rfl
theorem YO{d sz zs len ps}:go P (.dops ((E [],G,.bslice d sz zs len ps)::its)::k) Q .normal (E σ)=go P (.ops [(G,.bslice d sz zs len ps)]:: .dops its::k) Q .normal (E σ):=AY rfl rfl
theorem Z2{d sz b zs x y}:go P (.dops ((E [],G,.mksl d sz b zs x y)::its)::k) Q .normal (E σ)=go P (.ops [(G,.mksl d sz b zs x y)]:: .dops its::k) Q .normal (E σ):=AY rfl rfl
theorem Zt{d x}:go P (.dops ((E (n::N),G,.mv d x)::its)::k) Q .normal (E σ)=go P (.dops its::k) Q .normal (B6 σ (n::N) (E d) ((σ.less (n::N)).step (.mv d x))):=Bb rfl
theorem Zv{d c a b}:go P (.dops ((E (n::N),G,.pick d c a b)::its)::k) Q .normal (E σ)=go P (.dops its::k) Q .normal (B6 σ (n::N) (E d) ((σ.less (n::N)).step (.pick d c a b))):=Bb rfl
theorem Zg{d zs ps}:go P (.dops ((E (n::N),G,.build d zs ps)::its)::k) Q .normal (E σ)=go P (.dops its::k) Q .normal (B6 σ (n::N) (E d) ((σ.less (n::N)).step (.build d zs ps))):=Bb rfl
theorem Zp{d x g m}:go P (.dops ((E (n::N),G,.load d x g m)::its)::k) Q .normal (E σ)=go P (.dops its::k) Q .normal (B6 σ (n::N) (E d) ((σ.less (n::N)).step (.load d x g m))):=Bb rfl
theorem Zu{d x}:go P (.dops ((E (n::N),G,.nilc d x)::its)::k) Q .normal (E σ)=go P (.dops its::k) Q .normal (B6 σ (n::N) (E d) ((σ.less (n::N)).step (.nilc d x))):=Bb rfl
theorem Zf{d op x y}:go P (.dops ((E (n::N),G,.bin d op x y)::its)::k) Q .normal (E σ)=go P (.dops its::k) Q .normal (B6 σ (n::N) (E d) ((σ.less (n::N)).step (.bin d op x y))):=Bb rfl
theorem Zl{d g ks x y}:go P (.dops ((E (n::N),G,.geq d g ks x y)::its)::k) Q .normal (E σ)=go P (.dops its::k) Q .normal (B6 σ (n::N) (E d) ((σ.less (n::N)).step (.geq d g ks x y))):=Bb rfl
theorem Ze{d g x y}:go P (.dops ((E (n::N),G,.beq d g x y)::its)::k) Q .normal (E σ)=go P (.dops its::k) Q .normal (B6 σ (n::N) (E d) ((σ.less (n::N)).step (.beq d g x y))):=Bb rfl
theorem ZB{d op x}:go P (.dops ((E (n::N),G,.un d op x)::its)::k) Q .normal (E σ)=go P (.dops its::k) Q .normal (B6 σ (n::N) (E d) ((σ.less (n::N)).step (.un d op x))):=Bb rfl
theorem Zh{d kd x}:go P (.dops ((E (n::N),G,.conv d kd x)::its)::k) Q .normal (E σ)=go P (.dops its::k) Q .normal (B6 σ (n::N) (E d) ((σ.less (n::N)).step (.conv d kd x))):=Bb rfl
theorem Zx{d sz x lo hi mx}:go P (.dops ((E (n::N),G,.slc d sz x lo hi mx)::its)::k) Q .normal (E σ)=go P (.dops its::k) Q .normal (B6 σ (n::N) (E d) ((σ.less (n::N)).step (.slc d sz x lo hi mx))):=Bb rfl
theorem Zz{d x lo hi}:go P (.dops ((E (n::N),G,.sslc d x lo hi)::its)::k) Q .normal (E σ)=go P (.dops its::k) Q .normal (B6 σ (n::N) (E d) ((σ.less (n::N)).step (.sslc d x lo hi))):=Bb rfl
theorem Zj{d x off}:go P (.dops ((E (n::N),G,.faddr d x off)::its)::k) Q .normal (E σ)=go P (.dops its::k) Q .normal (B6 σ (n::N) (E d) ((σ.less (n::N)).step (.faddr d x off))):=Bb rfl
theorem Zk{d x off g m}:go P (.dops ((E (n::N),G,.field d x off g m)::its)::k) Q .normal (E σ)=go P (.dops its::k) Q .normal (B6 σ (n::N) (E d) ((σ.less (n::N)).step (.field d x off g m))):=Bb rfl
theorem Zm{d x i sz}:go P (.dops ((E (n::N),G,.iaddr d x i sz)::its)::k) Q .normal (E σ)=go P (.dops its::k) Q .normal (B6 σ (n::N) (E d) ((σ.less (n::N)).step (.iaddr d x i sz))):=Bb rfl
theorem Zd{d x i len sz}:go P (.dops ((E (n::N),G,.aaddr d x i len sz)::its)::k) Q .normal (E σ)=go P (.dops its::k) Q .normal (B6 σ (n::N) (E d) ((σ.less (n::N)).step (.aaddr d x i len sz))):=Bb rfl
theorem Zn{d x i}:go P (.dops ((E (n::N),G,.idx d x i)::its)::k) Q .normal (E σ)=go P (.dops its::k) Q .normal (B6 σ (n::N) (E d) ((σ.less (n::N)).step (.idx d x i))):=Bb rfl
theorem Zi{d x i}:go P (.dops ((E (n::N),G,.extr d x i)::its)::k) Q .normal (E σ)=go P (.dops its::k) Q .normal (B6 σ (n::N) (E d) ((σ.less (n::N)).step (.extr d x i))):=Bb rfl
theorem Zr{d t x}:go P (.dops ((E (n::N),G,.mkif d t x)::its)::k) Q .normal (E σ)=go P (.dops its::k) Q .normal (B6 σ (n::N) (E d) ((σ.less (n::N)).step (.mkif d t x))):=Bb rfl
theorem ZA{d x t zc}:go P (.dops ((E (n::N),G,.tass d x t zc)::its)::k) Q .normal (E σ)=go P (.dops its::k) Q .normal (B6 σ (n::N) (E d) ((σ.less (n::N)).step (.tass d x t zc))):=Bb rfl
theorem Zo{d x}:go P (.dops ((E (n::N),G,.len d x)::its)::k) Q .normal (E σ)=go P (.dops its::k) Q .normal (B6 σ (n::N) (E d) ((σ.less (n::N)).step (.len d x))):=Bb rfl
theorem Zy{d x}:go P (.dops ((E (n::N),G,.slen d x)::its)::k) Q .normal (E σ)=go P (.dops its::k) Q .normal (B6 σ (n::N) (E d) ((σ.less (n::N)).step (.slen d x))):=Bb rfl
theorem Zw{d x}:go P (.dops ((E (n::N),G,.sconv d x)::its)::k) Q .normal (E σ)=go P (.dops its::k) Q .normal (B6 σ (n::N) (E d) ((σ.less (n::N)).step (.sconv d x))):=Bb rfl
theorem Zs{d m x y}:go P (.dops ((E (n::N),G,.mm d m x y)::its)::k) Q .normal (E σ)=go P (.dops its::k) Q .normal (B6 σ (n::N) (E d) ((σ.less (n::N)).step (.mm d m x y))):=Bb rfl
theorem Zq{d f caps}:go P (.dops ((E (n::N),G,.mkf d f caps)::its)::k) Q .normal (E σ)=go P (.dops its::k) Q .normal (B6 σ (n::N) (E d) ((σ.less (n::N)).step (.mkf d f caps))):=Bb rfl
theorem ZD{t:L}{o:AOp}{N:H L}:go P (.dops ((E N,E (t,T),o)::its)::k) Q .normal (E σ)=go P (.gdd (σ.get t) T (E N) o its::k) Q .normal (E σ):=by
 show Aq (E (t,T)) σ _ _=_
 rw[Pv];show _=Bj _ _ _ _
 simp only[cond_true];congr 1<;>(cases o.dst<;>rfl)
theorem ZC{t:L}{o:AOp}{N:H L}:go P (.dops ((E N,E (t,F),o)::its)::k) Q .normal (E σ)=go P (.gdd (σ.get t) F (E N) o its::k) Q .normal (E σ):=by
 show Aq (E (t,F)) σ _ _=_
 rw[Pu];show _=Bj _ _ _ _
 simp only[cond_false];congr 1<;>(cases o.dst<;>rfl)
theorem ZH{b:Bool}{o:AOp}{N:Option (H L)}:go P (.gdd (.v (.sc (.dat (.bool b)))) b N o its::k) Q .normal (E σ)=go P (.dops ((N,G,o)::its)::k) Q .normal (E σ):=by
 cases b<;>simp[go,At,Bj]
theorem ZG{o:AOp}{N:Option (H L)}:go P (.gdd (.v (.sc (.dat (.bool F)))) T N o its::k) Q .normal (E σ)=go P (.dops its::k) Q .normal (C5 σ o.dst):=by
 simp only[go,At,Bj,cond_true];cases o.dst<;>simp[BC,C5]
theorem ZF{o:AOp}{N:Option (H L)}:go P (.gdd (.v (.sc (.dat (.bool T)))) F N o its::k) Q .normal (E σ)=go P (.dops its::k) Q .normal (C5 σ o.dst):=by
 simp only[go,At,Bj,cond_false];cases o.dst<;>simp[BC,C5]
theorem ZE{w:Bool}{o:AOp}{N:Option (H L)}:go P (.gdd .no w N o its::k) Q .normal (E σ)=go P (.dops its::k) Q .normal (C5 σ o.dst):=by
 simp only[go,At,Bj];cases o.dst<;>simp[BC,C5]
theorem dk{w:Bool}{o:AOp}{its:H AItem}:go P (.gd .no w o its::k) Q .normal (E σ)=go P (.ops its::k) Q .normal (C5 σ o.dst):=by
 simp only[go,At,Bj];cases o.dst<;>simp[BC,C5]
end
def CV(k:L):H L→Bool
 | []=>F
 | n::r=>bif k==n then T else CV k r
def CF{α:Type}(f:L→L)(N:H L):H (L × α)→H (L × α)
 | []=> []
 | (k,v)::r=>bif CV (f k) N then CF f N r else(k,v)::CF f N r
theorem IA(k:L):∀N:H L,CV k N=N.contains k
 | []=>rfl
 | n::r=>by
  simp only[CV,O,IA k r];cases k==n<;>rfl
theorem O6{α:Type}(f:L→L)(N:H L):∀l:H (L × α),CF f N l=l.filter fun p=> !N.contains (f p.1)
 | []=>rfl
 | (k,v)::r=>by
  simp only[CF,IA,List.filter_cons,O6 f N r];cases N.contains (f k)<;>rfl
theorem hP{env bx rows}{n:L}{N:H L}:(St.mk env bx rows).less (n::N)=⟨env,CF id (n::N) bx,CF (· / 64) (n::N) rows⟩:=by
 rw[O6,O6];rfl
theorem iX{k:L}:CV k []=F:=rfl
theorem iW{k n:L}{r:H L}:CV k (n::r)=bif k==n then T else CV k r:=rfl
theorem gP{α:Type}{f:L→L}{N:H L}:CF f N ([]:H (L × α))= []:=rfl
theorem gO{α:Type}{N:H L}{k:L}{v:α}{r:H (L × α)}:CF id N ((k,v)::r)=bif CV k N then CF id N r else(k,v)::CF id N r:=rfl
theorem gN{α:Type}{N:H L}{k:L}{v:α}{r:H (L × α)}:CF (· / 64) N ((k,v)::r)=bif CV (k / 64) N then CF (· / 64) N r else(k,v)::CF (· / 64) N r:=rfl
theorem ma{σ τ:St}{N:H L}{d:L}:B6 σ N (E d) (E τ)=bif (τ.get d).avoids N then E (σ.set d (τ.get d)) else G:=rfl
theorem nA{σ:St}{d:L}:C5 σ (E d)=E (σ.set d .no):=rfl
theorem XB{N:H L}{d:D}:AV.avoids N (.v (.sc (.dat d)))=T:=by simp[AV.avoids,AV.cells,V1.cells,AC.avoids,AC.uses]
theorem XD{N:H L}:AV.avoids N (.v (.sc .nil))=T:=by simp[AV.avoids,AV.cells,V1.cells,AC.avoids,AC.uses]
theorem XF{N:H L}{i:L}:AV.avoids N (.v (.sc (.own i)))= !CV (i / 64) N:=by
 rw[IA]
 induction N with
 | nil=>rfl
 | cons n N ih=>
  simp only[AV.avoids,AV.cells,V1.cells,AC.avoids,AC.uses,U,List.all_nil,V,O] at ih ⊢
  rw[ih];cases(i / 64==n)<;>simp
theorem XG{N:H L}{i o:L}:AV.avoids N (.v (.sc (.pb i o)))= !CV i N:=by
 rw[IA]
 induction N with
 | nil=>rfl
 | cons n N ih=>
  simp only[AV.avoids,AV.cells,V1.cells,AC.avoids,AC.uses,U,List.all_nil,V,O] at ih ⊢
  rw[ih];cases(i==n)<;>simp
theorem XH{N:H L}{i x o:L}:AV.avoids N (.v (.sc (.pe i x o)))= !CV (i / 64) N:=by
 rw[IA]
 induction N with
 | nil=>rfl
 | cons n N ih=>
  simp only[AV.avoids,AV.cells,V1.cells,AC.avoids,AC.uses,U,List.all_nil,V,O] at ih ⊢
  rw[ih];cases(i / 64==n)<;>simp
theorem XA{N:H L}:AV.avoids N (.v (.ag []))=T:=rfl
theorem Xz{N:H L}{c:AC}{cs:H AC}:AV.avoids N (.v (.ag (c::cs)))=((AV.v (.sc c)).avoids N&&(AV.v (.ag cs)).avoids N):=by simp[AV.avoids,AV.cells,V1.cells]
theorem jD:(!F)=T:=rfl
theorem jE:(!T)=F:=rfl
theorem WO:(T&&T)=T:=rfl
theorem aU{d x}:AOp.dst (.mv d x)=E d:=rfl
theorem aW{d c a b}:AOp.dst (.pick d c a b)=E d:=rfl
theorem ZZ{d zs ps}:AOp.dst (.build d zs ps)=E d:=rfl
theorem aO{d x g n}:AOp.dst (.load d x g n)=E d:=rfl
theorem aV{d x}:AOp.dst (.nilc d x)=E d:=rfl
theorem ZW{d op x y}:AOp.dst (.bin d op x y)=E d:=rfl
theorem aH{d g ks x y}:AOp.dst (.geq d g ks x y)=E d:=rfl
theorem ZV{d g x y}:AOp.dst (.beq d g x y)=E d:=rfl
theorem ae{d op x}:AOp.dst (.un d op x)=E d:=rfl
theorem aD{d kd x}:AOp.dst (.conv d kd x)=E d:=rfl
theorem aY{d sz x lo hi mx}:AOp.dst (.slc d sz x lo hi mx)=E d:=rfl
theorem aa{d x lo hi}:AOp.dst (.sslc d x lo hi)=E d:=rfl
theorem aF{d x off}:AOp.dst (.faddr d x off)=E d:=rfl
theorem aG{d x off g n}:AOp.dst (.field d x off g n)=E d:=rfl
theorem aJ{d x i sz}:AOp.dst (.iaddr d x i sz)=E d:=rfl
theorem ZT{d x i len sz}:AOp.dst (.aaddr d x i len sz)=E d:=rfl
theorem aK{d x i}:AOp.dst (.idx d x i)=E d:=rfl
theorem aE{d x i}:AOp.dst (.extr d x i)=E d:=rfl
theorem aQ{d t x}:AOp.dst (.mkif d t x)=E d:=rfl
theorem ab{d x t zc}:AOp.dst (.tass d x t zc)=E d:=rfl
theorem aN{d x}:AOp.dst (.len d x)=E d:=rfl
theorem aZ{d x}:AOp.dst (.slen d x)=E d:=rfl
theorem aX{d x}:AOp.dst (.sconv d x)=E d:=rfl
theorem aT{d m x y}:AOp.dst (.mm d m x y)=E d:=rfl
theorem aP{d f caps}:AOp.dst (.mkf d f caps)=E d:=rfl
theorem ZX{d x}:AOp.dst (.box d x)=E d:=rfl
theorem ZU{d cs}:AOp.dst (.alloc d cs)=E d:=rfl
theorem ZY{d sz zs len ps}:AOp.dst (.bslice d sz zs len ps)=E d:=rfl
theorem aR{d sz b zs x y}:AOp.dst (.mksl d sz b zs x y)=E d:=rfl
theorem aA{d f args}:AOp.dst (.call d f args)=E d:=rfl
theorem aC{d x args}:AOp.dst (.callv d x args)=E d:=rfl
def cT(rs:H R1):Bool:=(rs.flatMap R1.cells).all fun | .v d=>d.flat | .o _ _=>F
theorem BN{rs:H R1}(h:cT rs=T):BX rs:=by
 intro c hc;have:=List.all_eq_true.1 h c hc;cases c with
 | v d=>exact this
 | o=>cases this
end Go.Vi
