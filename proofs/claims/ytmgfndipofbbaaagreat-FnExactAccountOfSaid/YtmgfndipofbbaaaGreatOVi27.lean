/-
The value level. No condition.
-/
import Derived.Test.YtmgfndipofbbaaaGreatOVi26
namespace Go.Vi
set_option linter.all false
open List renaming contains_cons → O, all_cons → U
open Bool renaming and_true → V, true → T, false → F
open Option renaming some → E, none → G
open _root_ renaming List → H, Nat → L
section
variable {P : Program}
end
theorem uF{α:Type}{n:L}:A7 ([]:H (L × α)) n=G:=rfl
theorem uE{α:Type}{k n:L}{v:α}{r:H (L × α)}:A7 ((k,v)::r) n=bif k==n then E v else A7 r n:=rfl
theorem A20{α:Type}{n:L}{v:α}:put ([]:H (L × α)) n v= [(n,v)]:=rfl
theorem A2z{α:Type}{k n:L}{u v:α}{r:H (L × α)}:put ((k,u)::r) n v=bif k==n then(k,v)::r else(k,u)::put r n v:=rfl
theorem A62{σ:St}{n:L}:σ.val (.t n)=σ.get n:=rfl
theorem A61{σ:St}{v:AV}:σ.val (.c v)=v:=rfl
theorem uj{env bx rows}{k:L}:(St.mk env bx rows).get k=(A7 env k).getD .undef:=rfl
theorem A4c{env bx rows}{k:L}{v:AV}:(St.mk env bx rows).set k v=⟨put env k v,bx,rows⟩:=rfl
theorem getD_some{α:Type}{a b:α}:(E a).getD b=a:=rfl
theorem ui{α:Type}{b:α}:(G:Option α).getD b=b:=rfl
theorem map_some{α β:Type}{f:α→β}{a:α}:(E a).map f=E (f a):=rfl
theorem map_none{α β:Type}{f:α→β}:(G:Option α).map f=G:=rfl
theorem qK{α:Type}{a b:α}:cond T a b=a:=rfl
theorem qJ{α:Type}{a b:α}:cond F a b=b:=rfl
theorem A4k{s:H UInt8}:KR (.v (.sc (.dat (.str s))))=E (.v (.sc (.dat (.int .i64 s.length)))):=rfl
theorem A0g{rs:Rows}{es:H (H D)}:DT rs (.v (.sc (.dat (.sl es))))=E (.v (.sc (.dat (.int .i64 es.length)))):=rfl
theorem A33{rs:Rows}{es:H (H D)}:Gy rs (.v (.sc (.dat (.sl es))))=(Db es).map fun b=> .v (.sc (.dat (.str b))):=rfl
theorem A32{rs:Rows}{id:L}:Gy rs (.v (.sc (.own id)))=match A7 rs id with | some (_,es)=>(Db es).map fun b=> .v (.sc (.dat (.str b))) | none=>G:=rfl
theorem A0d{rs:Rows}:DT rs (.v (.sc .nil))=E (.v (.sc (.dat (.int .i64 0)))):=rfl
theorem qM{k k':IntKind}{n:Int}:VO k (.v (.sc (.dat (.int k' n))))=E (.v (.sc (.dat (.int k (k.wrap n))))):=rfl
theorem pS{op:BinOp}{k:IntKind}{x y:Int}:CK op (.v (.sc (.dat (.int k x)))) (.v (.sc (.dat (.int k y))))=(B9 op k x y).map fun d=> .v (.sc (.dat d)):=by simp[CK]
theorem pZ{op:BinOp}{x y:H UInt8}:CK op (.v (.sc (.dat (.str x)))) (.v (.sc (.dat (.str y))))=(GB op x y).map fun d=> .v (.sc (.dat d)):=rfl
theorem xj{k:IntKind}{x y:Int}:B9 .add k x y=E (.int k (k.wrap (x+y))):=rfl
theorem ye{k:IntKind}{x y:Int}:B9 .sub k x y=E (.int k (k.wrap (x - y))):=rfl
theorem xu{k:IntKind}{x y:Int}:B9 .mul k x y=E (.int k (k.wrap (x*y))):=rfl
theorem xx{k:IntKind}{x y:Int}:B9 .quo k x y=bif y==0 then G else E (.int k (k.wrap (x.tdiv y))):=by
 by_cases h:y=0
 ·simp[B9,h]
 ·have h':(y==0)=F:=by simpa using h
  simp[B9,h,h']
theorem xy{k:IntKind}{x y:Int}:B9 .rem k x y=bif y==0 then G else E (.int k (k.wrap (x.tmod y))):=by
 by_cases h:y=0
 ·simp[B9,h]
 ·have h':(y==0)=F:=by simpa using h
  simp[B9,h,h']
theorem xn{k:IntKind}{x y:Int}:B9 .eql k x y=E (.bool (x==y)):=rfl
theorem xv{k:IntKind}{x y:Int}:B9 .neq k x y=E (.bool (x !=y)):=rfl
theorem xr{k:IntKind}{x y:Int}:B9 .lss k x y=E (.bool (decide (x<y))):=rfl
theorem xq{k:IntKind}{x y:Int}:B9 .leq k x y=E (.bool (decide (x≤y))):=rfl
theorem xp{k:IntKind}{x y:Int}:B9 .gtr k x y=E (.bool (decide (y<x))):=rfl
theorem xo{k:IntKind}{x y:Int}:B9 .geq k x y=E (.bool (decide (y≤x))):=rfl
theorem A5i{x y:H UInt8}:GB .eql x y=E (.bool (x==y)):=rfl
theorem A5j{x y:H UInt8}:GB .neq x y=E (.bool (!(x==y))):=rfl
theorem A6v{b:Bool}:J5 .not (.v (.sc (.dat (.bool b))))=E (.v (.sc (.dat (.bool (!b))))):=rfl
theorem wy{s:H UInt8}{k:IntKind}{i:Int}:Kt (.v (.sc (.dat (.str s)))) (.v (.sc (.dat (.int k i))))=(ix s i).map fun b=> .v (.sc (.dat (.int .u8 b.toNat))):=rfl
theorem yi{α:Type}{l:H α}{i:L}(h:i<l.length):ix l (i:Int)=E l[i]:=by simp[ix,h]
theorem uB{off:L}{g:Bool}{n:L}{cs:H AC}:Gi off g n (.v (.ag cs))=CV cs off g n:=rfl
theorem py{cs:H AC}{off n:L}:CV cs off F n=(cs[off]?).map fun c=> .v (.sc c):=rfl
theorem xf{env bx rows}{d:L}{rs:H R1}:(St.mk env bx rows).inst d rs=⟨put env d (C7 d rs),bx,Bu rows (C4 d rs)⟩:=rfl
theorem xX{g:L}{r:R1}:C7 g [r]= .v (r.inst g 0):=rfl
theorem xY{g:L}{r r':R1}{rs:H R1}:C7 g (r::r'::rs)= .tup (Dg g 0 (r::r'::rs)):=rfl
theorem xc{g j:L}:Dg g j []= []:=rfl
theorem xb{g j:L}{r:R1}{rs:H R1}:Dg g j (r::rs)=r.inst g j::Dg g (j+r.width) rs:=rfl
theorem B2b{c:RC}:R1.width (.sc c)=1:=rfl
theorem B2a{cs:H RC}:R1.width (.ag cs)=cs.length:=rfl
theorem xi{g j:L}{d:D}:RC.inst g j (.v d)= .dat d:=rfl
theorem xg{g j sz:L}{es:H (H D)}:RC.inst g j (.o sz es)= .own (g*64+j):=rfl
theorem xh{g j:L}{c:RC}:R1.inst g j (.sc c)= .sc (c.inst g j):=rfl
theorem xe{g j:L}{cs:H RC}:R1.inst g j (.ag cs)= .ag (DR g j cs):=rfl
theorem xa{g j:L}:DR g j []= []:=rfl
theorem xZ{g j:L}{c:RC}{cs:H RC}:DR g j (c::cs)=c.inst g j::DR g (j+1) cs:=rfl
theorem A3l{g:L}:C4 g []= []:=rfl
theorem A3m{g:L}{r:R1}:C4 g [r]=BT g 0 r.cells:=by simp[C4]
theorem A3o{g:L}{r r':R1}:C4 g [r,r']=BT g 0 (r.cells++r'.cells):=by simp[C4]
theorem qA{c:RC}:R1.cells (.sc c)= [c]:=rfl
theorem pw{cs:H RC}:R1.cells (.ag cs)=cs:=rfl
theorem A3q{g j:L}:BT g j []= []:=rfl
theorem A3s{g j:L}{d:D}{cs:H RC}:BT g j (.v d::cs)=BT g (j+1) cs:=rfl
theorem A3r{g j sz:L}{es:H (H D)}{cs:H RC}:BT g j (.o sz es::cs)=(g*64+j,sz,es)::BT g (j+1) cs:=rfl
theorem A2w{rows:Rows}:Bu rows []=rows:=rfl
theorem A2v{rows r:Rows}{k:L}{x:L × H (H D)}:Bu rows ((k,x)::r)=put (Bu rows r) k x:=rfl
theorem oZ{α:Type}{l:H α}: []++l=l:=rfl
theorem oY{α:Type}{a:α}{l m:H α}:(a::l)++m=a::(l++m):=rfl
theorem pm{x:Int}:(x !=x)=F:=by simp
theorem pO{x:Int}:(x==x)=T:=by simp
section
variable {P : Program} {k : H Fr} {Q : Xl → St → Prop} {σ : St} {its : H Bk} {n : L} {N : H L}
theorem qn{d x}:go P (.dops ((E [],G,.mv d x)::its)::k) Q .normal (E σ)=go P (.ops [(G,.mv d x)]:: .dops its::k) Q .normal (E σ):=Bt rfl rfl
theorem qp{d c a b}:go P (.dops ((E [],G,.pick d c a b)::its)::k) Q .normal (E σ)=go P (.ops [(G,.pick d c a b)]:: .dops its::k) Q .normal (E σ):=Bt rfl rfl
theorem qY{d zs ps}:go P (.dops ((E [],G,.build d zs ps)::its)::k) Q .normal (E σ)=go P (.ops [(G,.build d zs ps)]:: .dops its::k) Q .normal (E σ):=Bt rfl rfl
theorem qh{d x g n}:go P (.dops ((E [],G,.load d x g n)::its)::k) Q .normal (E σ)=go P (.ops [(G,.load d x g n)]:: .dops its::k) Q .normal (E σ):=Bt rfl rfl
theorem qo{d x}:go P (.dops ((E [],G,.nilc d x)::its)::k) Q .normal (E σ)=go P (.ops [(G,.nilc d x)]:: .dops its::k) Q .normal (E σ):=Bt rfl rfl
theorem qV{d op x y}:go P (.dops ((E [],G,.bin d op x y)::its)::k) Q .normal (E σ)=go P (.ops [(G,.bin d op x y)]:: .dops its::k) Q .normal (E σ):=Bt rfl rfl
theorem qd{d g ks x y}:go P (.dops ((E [],G,.geq d g ks x y)::its)::k) Q .normal (E σ)=go P (.ops [(G,.geq d g ks x y)]:: .dops its::k) Q .normal (E σ):=Bt rfl rfl
theorem qU{d g x y}:go P (.dops ((E [],G,.beq d g x y)::its)::k) Q .normal (E σ)=go P (.ops [(G,.beq d g x y)]:: .dops its::k) Q .normal (E σ):=Bt rfl rfl
theorem qw{d op x}:go P (.dops ((E [],G,.un d op x)::its)::k) Q .normal (E σ)=go P (.ops [(G,.un d op x)]:: .dops its::k) Q .normal (E σ):=Bt rfl rfl
theorem qZ{d kd x}:go P (.dops ((E [],G,.conv d kd x)::its)::k) Q .normal (E σ)=go P (.ops [(G,.conv d kd x)]:: .dops its::k) Q .normal (E σ):=Bt rfl rfl
theorem qr{d sz x lo hi mx}:go P (.dops ((E [],G,.slc d sz x lo hi mx)::its)::k) Q .normal (E σ)=go P (.ops [(G,.slc d sz x lo hi mx)]:: .dops its::k) Q .normal (E σ):=Bt rfl rfl
theorem qu{d x lo hi}:go P (.dops ((E [],G,.sslc d x lo hi)::its)::k) Q .normal (E σ)=go P (.ops [(G,.sslc d x lo hi)]:: .dops its::k) Q .normal (E σ):=Bt rfl rfl
theorem qb{d x off}:go P (.dops ((E [],G,.faddr d x off)::its)::k) Q .normal (E σ)=go P (.ops [(G,.faddr d x off)]:: .dops its::k) Q .normal (E σ):=Bt rfl rfl
theorem qc{d x off g n}:go P (.dops ((E [],G,.field d x off g n)::its)::k) Q .normal (E σ)=go P (.ops [(G,.field d x off g n)]:: .dops its::k) Q .normal (E σ):=Bt rfl rfl
theorem qe{d x i sz}:go P (.dops ((E [],G,.iaddr d x i sz)::its)::k) Q .normal (E σ)=go P (.ops [(G,.iaddr d x i sz)]:: .dops its::k) Q .normal (E σ):=Bt rfl rfl
theorem qS{d x i len sz}:go P (.dops ((E [],G,.aaddr d x i len sz)::its)::k) Q .normal (E σ)=go P (.ops [(G,.aaddr d x i len sz)]:: .dops its::k) Q .normal (E σ):=Bt rfl rfl
theorem qf{d x i}:go P (.dops ((E [],G,.idx d x i)::its)::k) Q .normal (E σ)=go P (.ops [(G,.idx d x i)]:: .dops its::k) Q .normal (E σ):=Bt rfl rfl
theorem qa{d x i}:go P (.dops ((E [],G,.extr d x i)::its)::k) Q .normal (E σ)=go P (.ops [(G,.extr d x i)]:: .dops its::k) Q .normal (E σ):=Bt rfl rfl
theorem qj{d t x}:go P (.dops ((E [],G,.mkif d t x)::its)::k) Q .normal (E σ)=go P (.ops [(G,.mkif d t x)]:: .dops its::k) Q .normal (E σ):=Bt rfl rfl
theorem qv{d x t zc}:go P (.dops ((E [],G,.tass d x t zc)::its)::k) Q .normal (E σ)=go P (.ops [(G,.tass d x t zc)]:: .dops its::k) Q .normal (E σ):=Bt rfl rfl
theorem qg{d x}:go P (.dops ((E [],G,.len d x)::its)::k) Q .normal (E σ)=go P (.ops [(G,.len d x)]:: .dops its::k) Q .normal (E σ):=Bt rfl rfl
theorem qt{d x}:go P (.dops ((E [],G,.slen d x)::its)::k) Q .normal (E σ)=go P (.ops [(G,.slen d x)]:: .dops its::k) Q .normal (E σ):=Bt rfl rfl
theorem qq{d x}:go P (.dops ((E [],G,.sconv d x)::its)::k) Q .normal (E σ)=go P (.ops [(G,.sconv d x)]:: .dops its::k) Q .normal (E σ):=Bt rfl rfl
theorem qm{d m x y}:go P (.dops ((E [],G,.mm d m x y)::its)::k) Q .normal (E σ)=go P (.ops [(G,.mm d m x y)]:: .dops its::k) Q .normal (E σ):=Bt rfl rfl
theorem qi{d f caps}:go P (.dops ((E [],G,.mkf d f caps)::its)::k) Q .normal (E σ)=go P (.ops [(G,.mkf d f caps)]:: .dops its::k) Q .normal (E σ):=Bt rfl rfl
theorem qW{d x}:go P (.dops ((E [],G,.box d x)::its)::k) Q .normal (E σ)=go P (.ops [(G,.box d x)]:: .dops its::k) Q .normal (E σ):=Bt rfl rfl
theorem qT{d cs}:go P (.dops ((E [],G,.alloc d cs)::its)::k) Q .normal (E σ)=go P (.ops [(G,.alloc d cs)]:: .dops its::k) Q .normal (E σ):=Bt rfl rfl
theorem qX{d sz zs len ps}:go P (.dops ((E [],G,.bslice d sz zs len ps)::its)::k) Q .normal (E σ)=go P (.ops [(G,.bslice d sz zs len ps)]:: .dops its::k) Q .normal (E σ):=Bt rfl rfl
theorem qk{d sz b zs x y}:go P (.dops ((E [],G,.mksl d sz b zs x y)::its)::k) Q .normal (E σ)=go P (.ops [(G,.mksl d sz b zs x y)]:: .dops its::k) Q .normal (E σ):=Bt rfl rfl
theorem rQ{d x}:go P (.dops ((E (n::N),G,.mv d x)::its)::k) Q .normal (E σ)=go P (.dops its::k) Q .normal (BC σ (n::N) (E d) ((σ.less (n::N)).step (.mv d x))):=BF rfl
theorem rT{d c a b}:go P (.dops ((E (n::N),G,.pick d c a b)::its)::k) Q .normal (E σ)=go P (.dops its::k) Q .normal (BC σ (n::N) (E d) ((σ.less (n::N)).step (.pick d c a b))):=BF rfl
theorem rA{d zs ps}:go P (.dops ((E (n::N),G,.build d zs ps)::its)::k) Q .normal (E σ)=go P (.dops its::k) Q .normal (BC σ (n::N) (E d) ((σ.less (n::N)).step (.build d zs ps))):=BF rfl
theorem rM{d x g m}:go P (.dops ((E (n::N),G,.load d x g m)::its)::k) Q .normal (E σ)=go P (.dops its::k) Q .normal (BC σ (n::N) (E d) ((σ.less (n::N)).step (.load d x g m))):=BF rfl
theorem rR{d x}:go P (.dops ((E (n::N),G,.nilc d x)::its)::k) Q .normal (E σ)=go P (.dops its::k) Q .normal (BC σ (n::N) (E d) ((σ.less (n::N)).step (.nilc d x))):=BF rfl
theorem qz{d op x y}:go P (.dops ((E (n::N),G,.bin d op x y)::its)::k) Q .normal (E σ)=go P (.dops its::k) Q .normal (BC σ (n::N) (E d) ((σ.less (n::N)).step (.bin d op x y))):=BF rfl
theorem rG{d g ks x y}:go P (.dops ((E (n::N),G,.geq d g ks x y)::its)::k) Q .normal (E σ)=go P (.dops its::k) Q .normal (BC σ (n::N) (E d) ((σ.less (n::N)).step (.geq d g ks x y))):=BF rfl
theorem qy{d g x y}:go P (.dops ((E (n::N),G,.beq d g x y)::its)::k) Q .normal (E σ)=go P (.dops its::k) Q .normal (BC σ (n::N) (E d) ((σ.less (n::N)).step (.beq d g x y))):=BF rfl
theorem ra{d op x}:go P (.dops ((E (n::N),G,.un d op x)::its)::k) Q .normal (E σ)=go P (.dops its::k) Q .normal (BC σ (n::N) (E d) ((σ.less (n::N)).step (.un d op x))):=BF rfl
theorem rC{d kd x}:go P (.dops ((E (n::N),G,.conv d kd x)::its)::k) Q .normal (E σ)=go P (.dops its::k) Q .normal (BC σ (n::N) (E d) ((σ.less (n::N)).step (.conv d kd x))):=BF rfl
theorem rW{d sz x lo hi mx}:go P (.dops ((E (n::N),G,.slc d sz x lo hi mx)::its)::k) Q .normal (E σ)=go P (.dops its::k) Q .normal (BC σ (n::N) (E d) ((σ.less (n::N)).step (.slc d sz x lo hi mx))):=BF rfl
theorem rY{d x lo hi}:go P (.dops ((E (n::N),G,.sslc d x lo hi)::its)::k) Q .normal (E σ)=go P (.dops its::k) Q .normal (BC σ (n::N) (E d) ((σ.less (n::N)).step (.sslc d x lo hi))):=BF rfl
theorem rE{d x off}:go P (.dops ((E (n::N),G,.faddr d x off)::its)::k) Q .normal (E σ)=go P (.dops its::k) Q .normal (BC σ (n::N) (E d) ((σ.less (n::N)).step (.faddr d x off))):=BF rfl
theorem rF{d x off g m}:go P (.dops ((E (n::N),G,.field d x off g m)::its)::k) Q .normal (E σ)=go P (.dops its::k) Q .normal (BC σ (n::N) (E d) ((σ.less (n::N)).step (.field d x off g m))):=BF rfl
theorem rH{d x i sz}:go P (.dops ((E (n::N),G,.iaddr d x i sz)::its)::k) Q .normal (E σ)=go P (.dops its::k) Q .normal (BC σ (n::N) (E d) ((σ.less (n::N)).step (.iaddr d x i sz))):=BF rfl
theorem qx{d x i len sz}:go P (.dops ((E (n::N),G,.aaddr d x i len sz)::its)::k) Q .normal (E σ)=go P (.dops its::k) Q .normal (BC σ (n::N) (E d) ((σ.less (n::N)).step (.aaddr d x i len sz))):=BF rfl
theorem rJ{d x i}:go P (.dops ((E (n::N),G,.idx d x i)::its)::k) Q .normal (E σ)=go P (.dops its::k) Q .normal (BC σ (n::N) (E d) ((σ.less (n::N)).step (.idx d x i))):=BF rfl
theorem rD{d x i}:go P (.dops ((E (n::N),G,.extr d x i)::its)::k) Q .normal (E σ)=go P (.dops its::k) Q .normal (BC σ (n::N) (E d) ((σ.less (n::N)).step (.extr d x i))):=BF rfl
theorem rO{d t x}:go P (.dops ((E (n::N),G,.mkif d t x)::its)::k) Q .normal (E σ)=go P (.dops its::k) Q .normal (BC σ (n::N) (E d) ((σ.less (n::N)).step (.mkif d t x))):=BF rfl
theorem rZ{d x t zc}:go P (.dops ((E (n::N),G,.tass d x t zc)::its)::k) Q .normal (E σ)=go P (.dops its::k) Q .normal (BC σ (n::N) (E d) ((σ.less (n::N)).step (.tass d x t zc))):=BF rfl
theorem rK{d x}:go P (.dops ((E (n::N),G,.len d x)::its)::k) Q .normal (E σ)=go P (.dops its::k) Q .normal (BC σ (n::N) (E d) ((σ.less (n::N)).step (.len d x))):=BF rfl
theorem rX{d x}:go P (.dops ((E (n::N),G,.slen d x)::its)::k) Q .normal (E σ)=go P (.dops its::k) Q .normal (BC σ (n::N) (E d) ((σ.less (n::N)).step (.slen d x))):=BF rfl
theorem rV{d x}:go P (.dops ((E (n::N),G,.sconv d x)::its)::k) Q .normal (E σ)=go P (.dops its::k) Q .normal (BC σ (n::N) (E d) ((σ.less (n::N)).step (.sconv d x))):=BF rfl
theorem rP{d m x y}:go P (.dops ((E (n::N),G,.mm d m x y)::its)::k) Q .normal (E σ)=go P (.dops its::k) Q .normal (BC σ (n::N) (E d) ((σ.less (n::N)).step (.mm d m x y))):=BF rfl
theorem rN{d f caps}:go P (.dops ((E (n::N),G,.mkf d f caps)::its)::k) Q .normal (E σ)=go P (.dops its::k) Q .normal (BC σ (n::N) (E d) ((σ.less (n::N)).step (.mkf d f caps))):=BF rfl
theorem rd{t:L}{o:AOp}{N:H L}:go P (.dops ((E N,E (t,T),o)::its)::k) Q .normal (E σ)=go P (.gdd (σ.get t) T (E N) o its::k) Q .normal (E σ):=by
 show B5 (E (t,T)) σ _ _=_
 rw[Yn];show _=BR _ _ _ _
 simp only[cond_true];congr 1<;>(cases o.dst<;>rfl)
theorem rc{t:L}{o:AOp}{N:H L}:go P (.dops ((E N,E (t,F),o)::its)::k) Q .normal (E σ)=go P (.gdd (σ.get t) F (E N) o its::k) Q .normal (E σ):=by
 show B5 (E (t,F)) σ _ _=_
 rw[Ym];show _=BR _ _ _ _
 simp only[cond_false];congr 1<;>(cases o.dst<;>rfl)
theorem rh{b:Bool}{o:AOp}{N:Option (H L)}:go P (.gdd (.v (.sc (.dat (.bool b)))) b N o its::k) Q .normal (E σ)=go P (.dops ((N,G,o)::its)::k) Q .normal (E σ):=by
 cases b<;>simp[go,B0,BR]
theorem rg{o:AOp}{N:Option (H L)}:go P (.gdd (.v (.sc (.dat (.bool F)))) T N o its::k) Q .normal (E σ)=go P (.dops its::k) Q .normal (CS σ o.dst):=by
 simp only[go,B0,BR,cond_true];cases o.dst<;>simp[Cg,CS]
theorem rf{o:AOp}{N:Option (H L)}:go P (.gdd (.v (.sc (.dat (.bool T)))) F N o its::k) Q .normal (E σ)=go P (.dops its::k) Q .normal (CS σ o.dst):=by
 simp only[go,B0,BR,cond_false];cases o.dst<;>simp[Cg,CS]
theorem re{w:Bool}{o:AOp}{N:Option (H L)}:go P (.gdd .no w N o its::k) Q .normal (E σ)=go P (.dops its::k) Q .normal (CS σ o.dst):=by
 simp only[go,B0,BR];cases o.dst<;>simp[Cg,CS]
theorem vZ{w:Bool}{o:AOp}{its:H AItem}:go P (.gd .no w o its::k) Q .normal (E σ)=go P (.ops its::k) Q .normal (CS σ o.dst):=by
 simp only[go,B0,BR];cases o.dst<;>simp[Cg,CS]
end
def Dz(k:L):H L→Bool
 | []=>F
 | n::r=>bif k==n then T else Dz k r
def Di{α:Type}(f:L→L)(N:H L):H (L × α)→H (L × α)
 | []=> []
 | (k,v)::r=>bif Dz (f k) N then Di f N r else(k,v)::Di f N r
theorem On(k:L):∀N:H L,Dz k N=N.contains k
 | []=>rfl
 | n::r=>by
  simp only[Dz,O,On k r];cases k==n<;>rfl
theorem Wd{α:Type}(f:L→L)(N:H L):∀l:H (L × α),Di f N l=l.filter fun p=> !N.contains (f p.1)
 | []=>rfl
 | (k,v)::r=>by
  simp only[Di,On,List.filter_cons,Wd f N r];cases N.contains (f k)<;>rfl
theorem A0l{env bx rows}{n:L}{N:H L}:(St.mk env bx rows).less (n::N)=⟨env,Di id (n::N) bx,Di (· / 64) (n::N) rows⟩:=by
 rw[Wd,Wd];rfl
theorem A06{k:L}:Dz k []=F:=rfl
theorem A05{k n:L}{r:H L}:Dz k (n::r)=bif k==n then T else Dz k r:=rfl
theorem yl{α:Type}{f:L→L}{N:H L}:Di f N ([]:H (L × α))= []:=rfl
theorem yk{α:Type}{N:H L}{k:L}{v:α}{r:H (L × α)}:Di id N ((k,v)::r)=bif Dz k N then Di id N r else(k,v)::Di id N r:=rfl
theorem yj{α:Type}{N:H L}{k:L}{v:α}{r:H (L × α)}:Di (· / 64) N ((k,v)::r)=bif Dz (k / 64) N then Di (· / 64) N r else(k,v)::Di (· / 64) N r:=rfl
theorem A53{σ τ:St}{N:H L}{d:L}:BC σ N (E d) (E τ)=bif (τ.get d).avoids N then E (σ.set d (τ.get d)) else G:=rfl
theorem A6x{σ:St}{d:L}:CS σ (E d)=E (σ.set d .no):=rfl
theorem om{N:H L}{d:D}:AV.avoids N (.v (.sc (.dat d)))=T:=by simp[AV.avoids,AV.cells,V1.cells,AC.avoids,AC.uses]
theorem oo{N:H L}:AV.avoids N (.v (.sc .nil))=T:=by simp[AV.avoids,AV.cells,V1.cells,AC.avoids,AC.uses]
theorem ot{N:H L}{i:L}:AV.avoids N (.v (.sc (.own i)))= !Dz (i / 64) N:=by
 rw[On]
 induction N with
 | nil=>rfl
 | cons n N ih=>
  simp only[AV.avoids,AV.cells,V1.cells,AC.avoids,AC.uses,U,List.all_nil,V,O] at ih ⊢
  rw[ih];cases(i / 64==n)<;>simp
theorem ou{N:H L}{i o:L}:AV.avoids N (.v (.sc (.pb i o)))= !Dz i N:=by
 rw[On]
 induction N with
 | nil=>rfl
 | cons n N ih=>
  simp only[AV.avoids,AV.cells,V1.cells,AC.avoids,AC.uses,U,List.all_nil,V,O] at ih ⊢
  rw[ih];cases(i==n)<;>simp
theorem ov{N:H L}{i x o:L}:AV.avoids N (.v (.sc (.pe i x o)))= !Dz (i / 64) N:=by
 rw[On]
 induction N with
 | nil=>rfl
 | cons n N ih=>
  simp only[AV.avoids,AV.cells,V1.cells,AC.avoids,AC.uses,U,List.all_nil,V,O] at ih ⊢
  rw[ih];cases(i / 64==n)<;>simp
theorem ol{N:H L}:AV.avoids N (.v (.ag []))=T:=rfl
theorem oj{N:H L}{c:AC}{cs:H AC}:AV.avoids N (.v (.ag (c::cs)))=((AV.v (.sc c)).avoids N&&(AV.v (.ag cs)).avoids N):=by simp[AV.avoids,AV.cells,V1.cells]
theorem A1u:(!F)=T:=rfl
theorem A1v:(!T)=F:=rfl
theorem oS:(T&&T)=T:=rfl
theorem sN{d x}:AOp.dst (.mv d x)=E d:=rfl
theorem sP{d c a b}:AOp.dst (.pick d c a b)=E d:=rfl
theorem rx{d zs ps}:AOp.dst (.build d zs ps)=E d:=rfl
theorem sI{d x g n}:AOp.dst (.load d x g n)=E d:=rfl
theorem sO{d x}:AOp.dst (.nilc d x)=E d:=rfl
theorem rr{d op x y}:AOp.dst (.bin d op x y)=E d:=rfl
theorem sE{d g ks x y}:AOp.dst (.geq d g ks x y)=E d:=rfl
theorem rq{d g x y}:AOp.dst (.beq d g x y)=E d:=rfl
theorem sV{d op x}:AOp.dst (.un d op x)=E d:=rfl
theorem sA{d kd x}:AOp.dst (.conv d kd x)=E d:=rfl
theorem sR{d sz x lo hi mx}:AOp.dst (.slc d sz x lo hi mx)=E d:=rfl
theorem sT{d x lo hi}:AOp.dst (.sslc d x lo hi)=E d:=rfl
theorem sC{d x off}:AOp.dst (.faddr d x off)=E d:=rfl
theorem sD{d x off g n}:AOp.dst (.field d x off g n)=E d:=rfl
theorem sF{d x i sz}:AOp.dst (.iaddr d x i sz)=E d:=rfl
theorem ro{d x i len sz}:AOp.dst (.aaddr d x i len sz)=E d:=rfl
theorem sG{d x i}:AOp.dst (.idx d x i)=E d:=rfl
theorem sB{d x i}:AOp.dst (.extr d x i)=E d:=rfl
theorem sK{d t x}:AOp.dst (.mkif d t x)=E d:=rfl
theorem sU{d x t zc}:AOp.dst (.tass d x t zc)=E d:=rfl
theorem sH{d x}:AOp.dst (.len d x)=E d:=rfl
theorem sS{d x}:AOp.dst (.slen d x)=E d:=rfl
theorem sQ{d x}:AOp.dst (.sconv d x)=E d:=rfl
theorem sM{d m x y}:AOp.dst (.mm d m x y)=E d:=rfl
theorem sJ{d f caps}:AOp.dst (.mkf d f caps)=E d:=rfl
theorem ru{d x}:AOp.dst (.box d x)=E d:=rfl
theorem rp{d cs}:AOp.dst (.alloc d cs)=E d:=rfl
theorem rv{d sz zs len ps}:AOp.dst (.bslice d sz zs len ps)=E d:=rfl
theorem sL{d sz b zs x y}:AOp.dst (.mksl d sz b zs x y)=E d:=rfl
theorem ry{d f args}:AOp.dst (.call d f args)=E d:=rfl
theorem rz{d x args}:AOp.dst (.callv d x args)=E d:=rfl
def uJ(rs:H R1):Bool:=(rs.flatMap R1.cells).all fun | .v d=>d.flat | .o _ _=>F
theorem BK{rs:H R1}(h:uJ rs=T):De rs:=by
 intro c hc;have:=List.all_eq_true.1 h c hc;cases c with
 | v d=>exact this
 | o=>cases this
end Go.Vi
