/-
The value level. No condition.
-/
import Derived.Test.YtfoohbeloilepaaGreatDVi26
namespace Go.Vi
set_option linter.all false
open List renaming contains_cons → O, all_cons → U
open Bool renaming and_true → V, true → T, false → F
open Option renaming some → E, none → G
open _root_ renaming List → H, Nat → L
section
variable {P : Program}
end
theorem qU{α:Type}{n:L}:A1 ([]:H (L × α)) n=G:=rfl
theorem qT{α:Type}{k n:L}{v:α}{r:H (L × α)}:A1 ((k,v)::r) n=bif k==n then E v else A1 r n:=rfl
theorem yg{α:Type}{n:L}{v:α}:put ([]:H (L × α)) n v= [(n,v)]:=rfl
theorem yf{α:Type}{k n:L}{u v:α}{r:H (L × α)}:put ((k,u)::r) n v=bif k==n then(k,v)::r else(k,u)::put r n v:=rfl
theorem A3l{σ:St}{n:L}:σ.val (.t n)=σ.get n:=rfl
theorem A3k{σ:St}{v:AV}:σ.val (.c v)=v:=rfl
theorem qw{env bx rows}{k:L}:(St.mk env bx rows).get k=(A1 env k).getD .undef:=rfl
theorem A0p{env bx rows}{k:L}{v:AV}:(St.mk env bx rows).set k v=⟨put env k v,bx,rows⟩:=rfl
theorem getD_some{α:Type}{a b:α}:(E a).getD b=a:=rfl
theorem getD_none{α:Type}{b:α}:(G:Option α).getD b=b:=rfl
theorem map_some{α β:Type}{f:α→β}{a:α}:(E a).map f=E (f a):=rfl
theorem map_none{α β:Type}{f:α→β}:(G:Option α).map f=G:=rfl
theorem mC{α:Type}{a b:α}:cond T a b=a:=rfl
theorem mB{α:Type}{a b:α}:cond F a b=b:=rfl
theorem A0x{s:H UInt8}:LV (.v (.sc (.dat (.str s))))=E (.v (.sc (.dat (.int .i64 s.length)))):=rfl
theorem wF{rs:Rows}{es:H (H D)}:Eg rs (.v (.sc (.dat (.sl es))))=E (.v (.sc (.dat (.int .i64 es.length)))):=rfl
theorem A0c{rs:Rows}{es:H (H D)}:Hv rs (.v (.sc (.dat (.sl es))))=(Dk es).map fun b=> .v (.sc (.dat (.str b))):=rfl
theorem A0b{rs:Rows}{id:L}:Hv rs (.v (.sc (.own id)))=match A1 rs id with | some (_,es)=>(Dk es).map fun b=> .v (.sc (.dat (.str b))) | none=>G:=rfl
theorem wC{rs:Rows}:Eg rs (.v (.sc .nil))=E (.v (.sc (.dat (.int .i64 0)))):=rfl
theorem mF{k k':IntKind}{n:Int}:Tf k (.v (.sc (.dat (.int k' n))))=E (.v (.sc (.dat (.int k (k.wrap n))))):=rfl
theorem ku{op:BinOp}{k:IntKind}{x y:Int}:Cs op (.v (.sc (.dat (.int k x)))) (.v (.sc (.dat (.int k y))))=(AN op k x y).map fun d=> .v (.sc (.dat d)):=by simp[Cs]
theorem lB{op:BinOp}{x y:H UInt8}:Cs op (.v (.sc (.dat (.str x)))) (.v (.sc (.dat (.str y))))=(HA op x y).map fun d=> .v (.sc (.dat d)):=rfl
theorem ua{k:IntKind}{x y:Int}:AN .add k x y=E (.int k (k.wrap (x+y))):=rfl
theorem uy{k:IntKind}{x y:Int}:AN .sub k x y=E (.int k (k.wrap (x - y))):=rfl
theorem uj{k:IntKind}{x y:Int}:AN .mul k x y=E (.int k (k.wrap (x*y))):=rfl
theorem uo{k:IntKind}{x y:Int}:AN .quo k x y=bif y==0 then G else E (.int k (k.wrap (x.tdiv y))):=by
 by_cases h:y=0
 ·simp[AN,h]
 ·have h':(y==0)=F:=by simpa using h
  simp[AN,h,h']
theorem uq{k:IntKind}{x y:Int}:AN .rem k x y=bif y==0 then G else E (.int k (k.wrap (x.tmod y))):=by
 by_cases h:y=0
 ·simp[AN,h]
 ·have h':(y==0)=F:=by simpa using h
  simp[AN,h,h']
theorem ud{k:IntKind}{x y:Int}:AN .eql k x y=E (.bool (x==y)):=rfl
theorem uk{k:IntKind}{x y:Int}:AN .neq k x y=E (.bool (x !=y)):=rfl
theorem ui{k:IntKind}{x y:Int}:AN .lss k x y=E (.bool (decide (x<y))):=rfl
theorem uh{k:IntKind}{x y:Int}:AN .leq k x y=E (.bool (decide (x≤y))):=rfl
theorem ug{k:IntKind}{x y:Int}:AN .gtr k x y=E (.bool (decide (y<x))):=rfl
theorem ue{k:IntKind}{x y:Int}:AN .geq k x y=E (.bool (decide (y≤x))):=rfl
theorem A14{x y:H UInt8}:HA .eql x y=E (.bool (x==y)):=rfl
theorem A15{x y:H UInt8}:HA .neq x y=E (.bool (!(x==y))):=rfl
theorem A3e{b:Bool}:JV .not (.v (.sc (.dat (.bool b))))=E (.v (.sc (.dat (.bool (!b))))):=rfl
theorem th{s:H UInt8}{k:IntKind}{i:Int}:LB (.v (.sc (.dat (.str s)))) (.v (.sc (.dat (.int k i))))=(ix s i).map fun b=> .v (.sc (.dat (.int .u8 b.toNat))):=rfl
theorem vC{α:Type}{l:H α}{i:L}(h:i<l.length):ix l (i:Int)=E l[i]:=by simp[ix,h]
theorem qQ{off:L}{g:Bool}{n:L}{cs:H AC}:H5 off g n (.v (.ag cs))=CY cs off g n:=rfl
theorem lX{cs:H AC}{off n:L}:CY cs off F n=(cs[off]?).map fun c=> .v (.sc c):=rfl
theorem uW{env bx rows}{d:L}{rs:H R1}:(St.mk env bx rows).inst d rs=⟨put env d (C7 d rs),bx,Bl rows (BY d rs)⟩:=rfl
theorem uO{g:L}{r:R1}:C7 g [r]= .v (r.inst g 0):=rfl
theorem uP{g:L}{r r':R1}{rs:H R1}:C7 g (r::r'::rs)= .tup (Ds g 0 (r::r'::rs)):=rfl
theorem uT{g j:L}:Ds g j []= []:=rfl
theorem uS{g j:L}{r:R1}{rs:H R1}:Ds g j (r::rs)=r.inst g j::Ds g (j+r.width) rs:=rfl
theorem A56{c:RC}:R1.width (.sc c)=1:=rfl
theorem A55{cs:H RC}:R1.width (.ag cs)=cs.length:=rfl
theorem uZ{g j:L}{d:D}:RC.inst g j (.v d)= .dat d:=rfl
theorem uX{g j sz:L}{es:H (H D)}:RC.inst g j (.o sz es)= .own (g*64+j):=rfl
theorem uY{g j:L}{c:RC}:R1.inst g j (.sc c)= .sc (c.inst g j):=rfl
theorem uV{g j:L}{cs:H RC}:R1.inst g j (.ag cs)= .ag (Ef g j cs):=rfl
theorem uR{g j:L}:Ef g j []= []:=rfl
theorem uQ{g j:L}{c:RC}{cs:H RC}:Ef g j (c::cs)=c.inst g j::Ef g (j+1) cs:=rfl
theorem zi{g:L}:BY g []= []:=rfl
theorem zj{g:L}{r:R1}:BY g [r]=BR g 0 r.cells:=by simp[BY]
theorem zl{g:L}{r r':R1}:BY g [r,r']=BR g 0 (r.cells++r'.cells):=by simp[BY]
theorem lZ{c:RC}:R1.cells (.sc c)= [c]:=rfl
theorem lV{cs:H RC}:R1.cells (.ag cs)=cs:=rfl
theorem zn{g j:L}:BR g j []= []:=rfl
theorem zp{g j:L}{d:D}{cs:H RC}:BR g j (.v d::cs)=BR g (j+1) cs:=rfl
theorem zo{g j sz:L}{es:H (H D)}{cs:H RC}:BR g j (.o sz es::cs)=(g*64+j,sz,es)::BR g (j+1) cs:=rfl
theorem yc{rows:Rows}:Bl rows []=rows:=rfl
theorem yb{rows r:Rows}{k:L}{x:L × H (H D)}:Bl rows ((k,x)::r)=put (Bl rows r) k x:=rfl
theorem je{α:Type}{l:H α}: []++l=l:=rfl
theorem jd{α:Type}{a:α}{l m:H α}:(a::l)++m=a::(l++m):=rfl
theorem lK{x:Int}:(x !=x)=F:=by simp
theorem kk{x:Int}:(x==x)=T:=by simp
section
variable {P : Program} {k : H Fr} {Q : Xo → St → Prop} {σ : St} {its : H B0} {n : L} {N : H L}
theorem mh{d x}:go P (.dops ((E [],G,.mv d x)::its)::k) Q .normal (E σ)=go P (.ops [(G,.mv d x)]:: .dops its::k) Q .normal (E σ):=Bk rfl rfl
theorem mp{d c a b}:go P (.dops ((E [],G,.pick d c a b)::its)::k) Q .normal (E σ)=go P (.ops [(G,.pick d c a b)]:: .dops its::k) Q .normal (E σ):=Bk rfl rfl
theorem mT{d zs ps}:go P (.dops ((E [],G,.build d zs ps)::its)::k) Q .normal (E σ)=go P (.ops [(G,.build d zs ps)]:: .dops its::k) Q .normal (E σ):=Bk rfl rfl
theorem mc{d x g n}:go P (.dops ((E [],G,.load d x g n)::its)::k) Q .normal (E σ)=go P (.ops [(G,.load d x g n)]:: .dops its::k) Q .normal (E σ):=Bk rfl rfl
theorem mn{d x}:go P (.dops ((E [],G,.nilc d x)::its)::k) Q .normal (E σ)=go P (.ops [(G,.nilc d x)]:: .dops its::k) Q .normal (E σ):=Bk rfl rfl
theorem mQ{d op x y}:go P (.dops ((E [],G,.bin d op x y)::its)::k) Q .normal (E σ)=go P (.ops [(G,.bin d op x y)]:: .dops its::k) Q .normal (E σ):=Bk rfl rfl
theorem mY{d g ks x y}:go P (.dops ((E [],G,.geq d g ks x y)::its)::k) Q .normal (E σ)=go P (.ops [(G,.geq d g ks x y)]:: .dops its::k) Q .normal (E σ):=Bk rfl rfl
theorem mP{d g x y}:go P (.dops ((E [],G,.beq d g x y)::its)::k) Q .normal (E σ)=go P (.ops [(G,.beq d g x y)]:: .dops its::k) Q .normal (E σ):=Bk rfl rfl
theorem mz{d op x}:go P (.dops ((E [],G,.un d op x)::its)::k) Q .normal (E σ)=go P (.ops [(G,.un d op x)]:: .dops its::k) Q .normal (E σ):=Bk rfl rfl
theorem mU{d kd x}:go P (.dops ((E [],G,.conv d kd x)::its)::k) Q .normal (E σ)=go P (.ops [(G,.conv d kd x)]:: .dops its::k) Q .normal (E σ):=Bk rfl rfl
theorem mr{d sz x lo hi mx}:go P (.dops ((E [],G,.slc d sz x lo hi mx)::its)::k) Q .normal (E σ)=go P (.ops [(G,.slc d sz x lo hi mx)]:: .dops its::k) Q .normal (E σ):=Bk rfl rfl
theorem mw{d x lo hi}:go P (.dops ((E [],G,.sslc d x lo hi)::its)::k) Q .normal (E σ)=go P (.ops [(G,.sslc d x lo hi)]:: .dops its::k) Q .normal (E σ):=Bk rfl rfl
theorem mW{d x off}:go P (.dops ((E [],G,.faddr d x off)::its)::k) Q .normal (E σ)=go P (.ops [(G,.faddr d x off)]:: .dops its::k) Q .normal (E σ):=Bk rfl rfl
theorem mX{d x off g n}:go P (.dops ((E [],G,.field d x off g n)::its)::k) Q .normal (E σ)=go P (.ops [(G,.field d x off g n)]:: .dops its::k) Q .normal (E σ):=Bk rfl rfl
theorem mZ{d x i sz}:go P (.dops ((E [],G,.iaddr d x i sz)::its)::k) Q .normal (E σ)=go P (.ops [(G,.iaddr d x i sz)]:: .dops its::k) Q .normal (E σ):=Bk rfl rfl
theorem mN{d x i len sz}:go P (.dops ((E [],G,.aaddr d x i len sz)::its)::k) Q .normal (E σ)=go P (.ops [(G,.aaddr d x i len sz)]:: .dops its::k) Q .normal (E σ):=Bk rfl rfl
theorem ma{d x i}:go P (.dops ((E [],G,.idx d x i)::its)::k) Q .normal (E σ)=go P (.ops [(G,.idx d x i)]:: .dops its::k) Q .normal (E σ):=Bk rfl rfl
theorem mV{d x i}:go P (.dops ((E [],G,.extr d x i)::its)::k) Q .normal (E σ)=go P (.ops [(G,.extr d x i)]:: .dops its::k) Q .normal (E σ):=Bk rfl rfl
theorem me{d t x}:go P (.dops ((E [],G,.mkif d t x)::its)::k) Q .normal (E σ)=go P (.ops [(G,.mkif d t x)]:: .dops its::k) Q .normal (E σ):=Bk rfl rfl
theorem my{d x t zc}:go P (.dops ((E [],G,.tass d x t zc)::its)::k) Q .normal (E σ)=go P (.ops [(G,.tass d x t zc)]:: .dops its::k) Q .normal (E σ):=Bk rfl rfl
theorem mb{d x}:go P (.dops ((E [],G,.len d x)::its)::k) Q .normal (E σ)=go P (.ops [(G,.len d x)]:: .dops its::k) Q .normal (E σ):=Bk rfl rfl
theorem mu{d x}:go P (.dops ((E [],G,.slen d x)::its)::k) Q .normal (E σ)=go P (.ops [(G,.slen d x)]:: .dops its::k) Q .normal (E σ):=Bk rfl rfl
theorem mq{d x}:go P (.dops ((E [],G,.sconv d x)::its)::k) Q .normal (E σ)=go P (.ops [(G,.sconv d x)]:: .dops its::k) Q .normal (E σ):=Bk rfl rfl
theorem mg{d m x y}:go P (.dops ((E [],G,.mm d m x y)::its)::k) Q .normal (E σ)=go P (.ops [(G,.mm d m x y)]:: .dops its::k) Q .normal (E σ):=Bk rfl rfl
theorem md{d f caps}:go P (.dops ((E [],G,.mkf d f caps)::its)::k) Q .normal (E σ)=go P (.ops [(G,.mkf d f caps)]:: .dops its::k) Q .normal (E σ):=Bk rfl rfl
theorem mR{d x}:go P (.dops ((E [],G,.box d x)::its)::k) Q .normal (E σ)=go P (.ops [(G,.box d x)]:: .dops its::k) Q .normal (E σ):=Bk rfl rfl
theorem mO{d cs}:go P (.dops ((E [],G,.alloc d cs)::its)::k) Q .normal (E σ)=go P (.ops [(G,.alloc d cs)]:: .dops its::k) Q .normal (E σ):=Bk rfl rfl
theorem mS{d sz zs len ps}:go P (.dops ((E [],G,.bslice d sz zs len ps)::its)::k) Q .normal (E σ)=go P (.ops [(G,.bslice d sz zs len ps)]:: .dops its::k) Q .normal (E σ):=Bk rfl rfl
theorem mf{d sz b zs x y}:go P (.dops ((E [],G,.mksl d sz b zs x y)::its)::k) Q .normal (E σ)=go P (.ops [(G,.mksl d sz b zs x y)]:: .dops its::k) Q .normal (E σ):=Bk rfl rfl
theorem nQ{d x}:go P (.dops ((E (n::N),G,.mv d x)::its)::k) Q .normal (E σ)=go P (.dops its::k) Q .normal (By σ (n::N) (E d) ((σ.less (n::N)).step (.mv d x))):=BC rfl
theorem nS{d c a b}:go P (.dops ((E (n::N),G,.pick d c a b)::its)::k) Q .normal (E σ)=go P (.dops its::k) Q .normal (By σ (n::N) (E d) ((σ.less (n::N)).step (.pick d c a b))):=BC rfl
theorem nD{d zs ps}:go P (.dops ((E (n::N),G,.build d zs ps)::its)::k) Q .normal (E σ)=go P (.dops its::k) Q .normal (By σ (n::N) (E d) ((σ.less (n::N)).step (.build d zs ps))):=BC rfl
theorem nM{d x g m}:go P (.dops ((E (n::N),G,.load d x g m)::its)::k) Q .normal (E σ)=go P (.dops its::k) Q .normal (By σ (n::N) (E d) ((σ.less (n::N)).step (.load d x g m))):=BC rfl
theorem nR{d x}:go P (.dops ((E (n::N),G,.nilc d x)::its)::k) Q .normal (E σ)=go P (.dops its::k) Q .normal (By σ (n::N) (E d) ((σ.less (n::N)).step (.nilc d x))):=BC rfl
theorem nC{d op x y}:go P (.dops ((E (n::N),G,.bin d op x y)::its)::k) Q .normal (E σ)=go P (.dops its::k) Q .normal (By σ (n::N) (E d) ((σ.less (n::N)).step (.bin d op x y))):=BC rfl
theorem nI{d g ks x y}:go P (.dops ((E (n::N),G,.geq d g ks x y)::its)::k) Q .normal (E σ)=go P (.dops its::k) Q .normal (By σ (n::N) (E d) ((σ.less (n::N)).step (.geq d g ks x y))):=BC rfl
theorem nB{d g x y}:go P (.dops ((E (n::N),G,.beq d g x y)::its)::k) Q .normal (E σ)=go P (.dops its::k) Q .normal (By σ (n::N) (E d) ((σ.less (n::N)).step (.beq d g x y))):=BC rfl
theorem nY{d op x}:go P (.dops ((E (n::N),G,.un d op x)::its)::k) Q .normal (E σ)=go P (.dops its::k) Q .normal (By σ (n::N) (E d) ((σ.less (n::N)).step (.un d op x))):=BC rfl
theorem nE{d kd x}:go P (.dops ((E (n::N),G,.conv d kd x)::its)::k) Q .normal (E σ)=go P (.dops its::k) Q .normal (By σ (n::N) (E d) ((σ.less (n::N)).step (.conv d kd x))):=BC rfl
theorem nU{d sz x lo hi mx}:go P (.dops ((E (n::N),G,.slc d sz x lo hi mx)::its)::k) Q .normal (E σ)=go P (.dops its::k) Q .normal (By σ (n::N) (E d) ((σ.less (n::N)).step (.slc d sz x lo hi mx))):=BC rfl
theorem nW{d x lo hi}:go P (.dops ((E (n::N),G,.sslc d x lo hi)::its)::k) Q .normal (E σ)=go P (.dops its::k) Q .normal (By σ (n::N) (E d) ((σ.less (n::N)).step (.sslc d x lo hi))):=BC rfl
theorem nG{d x off}:go P (.dops ((E (n::N),G,.faddr d x off)::its)::k) Q .normal (E σ)=go P (.dops its::k) Q .normal (By σ (n::N) (E d) ((σ.less (n::N)).step (.faddr d x off))):=BC rfl
theorem nH{d x off g m}:go P (.dops ((E (n::N),G,.field d x off g m)::its)::k) Q .normal (E σ)=go P (.dops its::k) Q .normal (By σ (n::N) (E d) ((σ.less (n::N)).step (.field d x off g m))):=BC rfl
theorem nJ{d x i sz}:go P (.dops ((E (n::N),G,.iaddr d x i sz)::its)::k) Q .normal (E σ)=go P (.dops its::k) Q .normal (By σ (n::N) (E d) ((σ.less (n::N)).step (.iaddr d x i sz))):=BC rfl
theorem nA{d x i len sz}:go P (.dops ((E (n::N),G,.aaddr d x i len sz)::its)::k) Q .normal (E σ)=go P (.dops its::k) Q .normal (By σ (n::N) (E d) ((σ.less (n::N)).step (.aaddr d x i len sz))):=BC rfl
theorem nK{d x i}:go P (.dops ((E (n::N),G,.idx d x i)::its)::k) Q .normal (E σ)=go P (.dops its::k) Q .normal (By σ (n::N) (E d) ((σ.less (n::N)).step (.idx d x i))):=BC rfl
theorem nF{d x i}:go P (.dops ((E (n::N),G,.extr d x i)::its)::k) Q .normal (E σ)=go P (.dops its::k) Q .normal (By σ (n::N) (E d) ((σ.less (n::N)).step (.extr d x i))):=BC rfl
theorem nO{d t x}:go P (.dops ((E (n::N),G,.mkif d t x)::its)::k) Q .normal (E σ)=go P (.dops its::k) Q .normal (By σ (n::N) (E d) ((σ.less (n::N)).step (.mkif d t x))):=BC rfl
theorem nX{d x t zc}:go P (.dops ((E (n::N),G,.tass d x t zc)::its)::k) Q .normal (E σ)=go P (.dops its::k) Q .normal (By σ (n::N) (E d) ((σ.less (n::N)).step (.tass d x t zc))):=BC rfl
theorem nL{d x}:go P (.dops ((E (n::N),G,.len d x)::its)::k) Q .normal (E σ)=go P (.dops its::k) Q .normal (By σ (n::N) (E d) ((σ.less (n::N)).step (.len d x))):=BC rfl
theorem nV{d x}:go P (.dops ((E (n::N),G,.slen d x)::its)::k) Q .normal (E σ)=go P (.dops its::k) Q .normal (By σ (n::N) (E d) ((σ.less (n::N)).step (.slen d x))):=BC rfl
theorem nT{d x}:go P (.dops ((E (n::N),G,.sconv d x)::its)::k) Q .normal (E σ)=go P (.dops its::k) Q .normal (By σ (n::N) (E d) ((σ.less (n::N)).step (.sconv d x))):=BC rfl
theorem nP{d m x y}:go P (.dops ((E (n::N),G,.mm d m x y)::its)::k) Q .normal (E σ)=go P (.dops its::k) Q .normal (By σ (n::N) (E d) ((σ.less (n::N)).step (.mm d m x y))):=BC rfl
theorem nN{d f caps}:go P (.dops ((E (n::N),G,.mkf d f caps)::its)::k) Q .normal (E σ)=go P (.dops its::k) Q .normal (By σ (n::N) (E d) ((σ.less (n::N)).step (.mkf d f caps))):=BC rfl
theorem na{t:L}{o:AOp}{N:H L}:go P (.dops ((E N,E (t,T),o)::its)::k) Q .normal (E σ)=go P (.gdd (σ.get t) T (E N) o its::k) Q .normal (E σ):=by
 show AL (E (t,T)) σ _ _=_
 rw[Wb];show _=BN _ _ _ _
 simp only[cond_true];congr 1<;>(cases o.dst<;>rfl)
theorem nZ{t:L}{o:AOp}{N:H L}:go P (.dops ((E N,E (t,F),o)::its)::k) Q .normal (E σ)=go P (.gdd (σ.get t) F (E N) o its::k) Q .normal (E σ):=by
 show AL (E (t,F)) σ _ _=_
 rw[Wa];show _=BN _ _ _ _
 simp only[cond_false];congr 1<;>(cases o.dst<;>rfl)
theorem nf{b:Bool}{o:AOp}{N:Option (H L)}:go P (.gdd (.v (.sc (.dat (.bool b)))) b N o its::k) Q .normal (E σ)=go P (.dops ((N,G,o)::its)::k) Q .normal (E σ):=by
 cases b<;>simp[go,AJ,BN]
theorem nd{o:AOp}{N:Option (H L)}:go P (.gdd (.v (.sc (.dat (.bool F)))) T N o its::k) Q .normal (E σ)=go P (.dops its::k) Q .normal (CW σ o.dst):=by
 simp only[go,AJ,BN,cond_true];cases o.dst<;>simp[Cl,CW]
theorem nc{o:AOp}{N:Option (H L)}:go P (.gdd (.v (.sc (.dat (.bool T)))) F N o its::k) Q .normal (E σ)=go P (.dops its::k) Q .normal (CW σ o.dst):=by
 simp only[go,AJ,BN,cond_false];cases o.dst<;>simp[Cl,CW]
theorem nb{w:Bool}{o:AOp}{N:Option (H L)}:go P (.gdd .no w N o its::k) Q .normal (E σ)=go P (.dops its::k) Q .normal (CW σ o.dst):=by
 simp only[go,AJ,BN];cases o.dst<;>simp[Cl,CW]
theorem rn{w:Bool}{o:AOp}{its:H AItem}:go P (.gd .no w o its::k) Q .normal (E σ)=go P (.ops its::k) Q .normal (CW σ o.dst):=by
 simp only[go,AJ,BN];cases o.dst<;>simp[Cl,CW]
end
def DQ(k:L):H L→Bool
 | []=>F
 | n::r=>bif k==n then T else DQ k r
def Du{α:Type}(f:L→L)(N:H L):H (L × α)→H (L × α)
 | []=> []
 | (k,v)::r=>bif DQ (f k) N then Du f N r else(k,v)::Du f N r
theorem Po(k:L):∀N:H L,DQ k N=N.contains k
 | []=>rfl
 | n::r=>by
  simp only[DQ,O,Po k r];cases k==n<;>rfl
theorem Uf{α:Type}(f:L→L)(N:H L):∀l:H (L × α),Du f N l=l.filter fun p=> !N.contains (f p.1)
 | []=>rfl
 | (k,v)::r=>by
  simp only[Du,Po,List.filter_cons,Uf f N r];cases N.contains (f k)<;>rfl
theorem wK{env bx rows}{n:L}{N:H L}:(St.mk env bx rows).less (n::N)=⟨env,Du id (n::N) bx,Du (· / 64) (n::N) rows⟩:=by
 rw[Uf,Uf];rfl
theorem wj{k:L}:DQ k []=F:=rfl
theorem wi{k n:L}{r:H L}:DQ k (n::r)=bif k==n then T else DQ k r:=rfl
theorem vF{α:Type}{f:L→L}{N:H L}:Du f N ([]:H (L × α))= []:=rfl
theorem vE{α:Type}{N:H L}{k:L}{v:α}{r:H (L × α)}:Du id N ((k,v)::r)=bif DQ k N then Du id N r else(k,v)::Du id N r:=rfl
theorem vD{α:Type}{N:H L}{k:L}{v:α}{r:H (L × α)}:Du (· / 64) N ((k,v)::r)=bif DQ (k / 64) N then Du (· / 64) N r else(k,v)::Du (· / 64) N r:=rfl
theorem A2p{σ τ:St}{N:H L}{d:L}:By σ N (E d) (E τ)=bif (τ.get d).avoids N then E (σ.set d (τ.get d)) else G:=rfl
theorem A3g{σ:St}{d:L}:CW σ (E d)=E (σ.set d .no):=rfl
theorem jl{N:H L}{d:D}:AV.avoids N (.v (.sc (.dat d)))=T:=by simp[AV.avoids,AV.cells,V1.cells,AC.avoids,AC.uses]
theorem jm{N:H L}:AV.avoids N (.v (.sc .nil))=T:=by simp[AV.avoids,AV.cells,V1.cells,AC.avoids,AC.uses]
theorem jp{N:H L}{i:L}:AV.avoids N (.v (.sc (.own i)))= !DQ (i / 64) N:=by
 rw[Po]
 induction N with
 | nil=>rfl
 | cons n N ih=>
  simp only[AV.avoids,AV.cells,V1.cells,AC.avoids,AC.uses,U,List.all_nil,V,O] at ih ⊢
  rw[ih];cases(i / 64==n)<;>simp
theorem jq{N:H L}{i o:L}:AV.avoids N (.v (.sc (.pb i o)))= !DQ i N:=by
 rw[Po]
 induction N with
 | nil=>rfl
 | cons n N ih=>
  simp only[AV.avoids,AV.cells,V1.cells,AC.avoids,AC.uses,U,List.all_nil,V,O] at ih ⊢
  rw[ih];cases(i==n)<;>simp
theorem jr{N:H L}{i x o:L}:AV.avoids N (.v (.sc (.pe i x o)))= !DQ (i / 64) N:=by
 rw[Po]
 induction N with
 | nil=>rfl
 | cons n N ih=>
  simp only[AV.avoids,AV.cells,V1.cells,AC.avoids,AC.uses,U,List.all_nil,V,O] at ih ⊢
  rw[ih];cases(i / 64==n)<;>simp
theorem jk{N:H L}:AV.avoids N (.v (.ag []))=T:=rfl
theorem jj{N:H L}{c:AC}{cs:H AC}:AV.avoids N (.v (.ag (c::cs)))=((AV.v (.sc c)).avoids N&&(AV.v (.ag cs)).avoids N):=by simp[AV.avoids,AV.cells,V1.cells]
theorem xL:(!F)=T:=rfl
theorem xM:(!T)=F:=rfl
theorem jX:(T&&T)=T:=rfl
theorem oS{d x}:AOp.dst (.mv d x)=E d:=rfl
theorem oU{d c a b}:AOp.dst (.pick d c a b)=E d:=rfl
theorem oC{d zs ps}:AOp.dst (.build d zs ps)=E d:=rfl
theorem oN{d x g n}:AOp.dst (.load d x g n)=E d:=rfl
theorem oT{d x}:AOp.dst (.nilc d x)=E d:=rfl
theorem nz{d op x y}:AOp.dst (.bin d op x y)=E d:=rfl
theorem oJ{d g ks x y}:AOp.dst (.geq d g ks x y)=E d:=rfl
theorem ny{d g x y}:AOp.dst (.beq d g x y)=E d:=rfl
theorem oc{d op x}:AOp.dst (.un d op x)=E d:=rfl
theorem oF{d kd x}:AOp.dst (.conv d kd x)=E d:=rfl
theorem oW{d sz x lo hi mx}:AOp.dst (.slc d sz x lo hi mx)=E d:=rfl
theorem oY{d x lo hi}:AOp.dst (.sslc d x lo hi)=E d:=rfl
theorem oH{d x off}:AOp.dst (.faddr d x off)=E d:=rfl
theorem oI{d x off g n}:AOp.dst (.field d x off g n)=E d:=rfl
theorem oK{d x i sz}:AOp.dst (.iaddr d x i sz)=E d:=rfl
theorem nw{d x i len sz}:AOp.dst (.aaddr d x i len sz)=E d:=rfl
theorem oL{d x i}:AOp.dst (.idx d x i)=E d:=rfl
theorem oG{d x i}:AOp.dst (.extr d x i)=E d:=rfl
theorem oP{d t x}:AOp.dst (.mkif d t x)=E d:=rfl
theorem oZ{d x t zc}:AOp.dst (.tass d x t zc)=E d:=rfl
theorem oM{d x}:AOp.dst (.len d x)=E d:=rfl
theorem oX{d x}:AOp.dst (.slen d x)=E d:=rfl
theorem oV{d x}:AOp.dst (.sconv d x)=E d:=rfl
theorem oR{d m x y}:AOp.dst (.mm d m x y)=E d:=rfl
theorem oO{d f caps}:AOp.dst (.mkf d f caps)=E d:=rfl
theorem oA{d x}:AOp.dst (.box d x)=E d:=rfl
theorem nx{d cs}:AOp.dst (.alloc d cs)=E d:=rfl
theorem oB{d sz zs len ps}:AOp.dst (.bslice d sz zs len ps)=E d:=rfl
theorem oQ{d sz b zs x y}:AOp.dst (.mksl d sz b zs x y)=E d:=rfl
theorem oD{d f args}:AOp.dst (.call d f args)=E d:=rfl
theorem oE{d x args}:AOp.dst (.callv d x args)=E d:=rfl
def qX(rs:H R1):Bool:=(rs.flatMap R1.cells).all fun | .v d=>d.flat | .o _ _=>F
theorem BD{rs:H R1}(h:qX rs=T):CO rs:=by
 intro c hc;have:=List.all_eq_true.1 h c hc;cases c with
 | v d=>exact this
 | o=>cases this
end Go.Vi
