/-
The value level. No condition.
-/
import Derived.Test.YtpigjggbnclpbaaGreatOVi26
namespace Go.Vi
set_option linter.all false
open List renaming contains_cons → O, all_cons → U
open Bool renaming and_true → V, true → T, false → F
open Option renaming some → E, none → G
open _root_ renaming List → H, Nat → L
section
variable {P : Program}
end
theorem eD{α:Type}{n:L}:A1 ([]:H (L × α)) n=G:=rfl
theorem eC{α:Type}{k n:L}{v:α}{r:H (L × α)}:A1 ((k,v)::r) n=bif k==n then E v else A1 r n:=rfl
theorem mp{α:Type}{n:L}{v:α}:put ([]:H (L × α)) n v= [(n,v)]:=rfl
theorem mn{α:Type}{k n:L}{u v:α}{r:H (L × α)}:put ((k,u)::r) n v=bif k==n then(k,v)::r else(k,u)::put r n v:=rfl
theorem qC{σ:St}{n:L}:σ.val (.t n)=σ.get n:=rfl
theorem qB{σ:St}{v:AV}:σ.val (.c v)=v:=rfl
theorem eh{env bx rows}{k:L}:(St.mk env bx rows).get k=(A1 env k).getD .undef:=rfl
theorem nl{env bx rows}{k:L}{v:AV}:(St.mk env bx rows).set k v=⟨put env k v,bx,rows⟩:=rfl
theorem getD_some{α:Type}{a b:α}:(E a).getD b=a:=rfl
theorem getD_none{α:Type}{b:α}:(G:Option α).getD b=b:=rfl
theorem map_some{α β:Type}{f:α→β}{a:α}:(E a).map f=E (f a):=rfl
theorem map_none{α β:Type}{f:α→β}:(G:Option α).map f=G:=rfl
theorem ZV{α:Type}{a b:α}:cond T a b=a:=rfl
theorem ZU{α:Type}{a b:α}:cond F a b=b:=rfl
theorem ny{s:H UInt8}:IS (.v (.sc (.dat (.str s))))=E (.v (.sc (.dat (.int .i64 s.length)))):=rfl
theorem kf{rs:Rows}{es:H (H D)}:Db rs (.v (.sc (.dat (.sl es))))=E (.v (.sc (.dat (.int .i64 es.length)))):=rfl
theorem nf{rs:Rows}{es:H (H D)}:FA rs (.v (.sc (.dat (.sl es))))=(Cy es).map fun b=> .v (.sc (.dat (.str b))):=rfl
theorem nd{rs:Rows}{id:L}:FA rs (.v (.sc (.own id)))=match A1 rs id with | some (_,es)=>(Cy es).map fun b=> .v (.sc (.dat (.str b))) | none=>G:=rfl
theorem ka{rs:Rows}:Db rs (.v (.sc .nil))=E (.v (.sc (.dat (.int .i64 0)))):=rfl
theorem ZX{k k':IntKind}{n:Int}:Oz k (.v (.sc (.dat (.int k' n))))=E (.v (.sc (.dat (.int k (k.wrap n))))):=rfl
theorem Zq{op:BinOp}{k:IntKind}{x y:Int}:Dj op (.v (.sc (.dat (.int k x)))) (.v (.sc (.dat (.int k y))))=(Ba op k x y).map fun d=> .v (.sc (.dat d)):=by simp[Dj]
theorem Zt{op:BinOp}{x y:H UInt8}:Dj op (.v (.sc (.dat (.str x)))) (.v (.sc (.dat (.str y))))=(FD op x y).map fun d=> .v (.sc (.dat d)):=rfl
theorem io{k:IntKind}{x y:Int}:Ba .add k x y=E (.int k (k.wrap (x+y))):=rfl
theorem jG{k:IntKind}{x y:Int}:Ba .sub k x y=E (.int k (k.wrap (x - y))):=rfl
theorem iz{k:IntKind}{x y:Int}:Ba .mul k x y=E (.int k (k.wrap (x*y))):=rfl
theorem jC{k:IntKind}{x y:Int}:Ba .quo k x y=bif y==0 then G else E (.int k (k.wrap (x.tdiv y))):=by
 by_cases h:y=0
 ·simp[Ba,h]
 ·have h':(y==0)=F:=by simpa using h
  simp[Ba,h,h']
theorem jD{k:IntKind}{x y:Int}:Ba .rem k x y=bif y==0 then G else E (.int k (k.wrap (x.tmod y))):=by
 by_cases h:y=0
 ·simp[Ba,h]
 ·have h':(y==0)=F:=by simpa using h
  simp[Ba,h,h']
theorem ir{k:IntKind}{x y:Int}:Ba .eql k x y=E (.bool (x==y)):=rfl
theorem jA{k:IntKind}{x y:Int}:Ba .neq k x y=E (.bool (x !=y)):=rfl
theorem iy{k:IntKind}{x y:Int}:Ba .lss k x y=E (.bool (decide (x<y))):=rfl
theorem iw{k:IntKind}{x y:Int}:Ba .leq k x y=E (.bool (decide (x≤y))):=rfl
theorem iv{k:IntKind}{x y:Int}:Ba .gtr k x y=E (.bool (decide (y<x))):=rfl
theorem iu{k:IntKind}{x y:Int}:Ba .geq k x y=E (.bool (decide (y≤x))):=rfl
theorem oq{x y:H UInt8}:FD .eql x y=E (.bool (x==y)):=rfl
theorem ot{x y:H UInt8}:FD .neq x y=E (.bool (!(x==y))):=rfl
theorem pr{b:Bool}:Ho .not (.v (.sc (.dat (.bool b))))=E (.v (.sc (.dat (.bool (!b))))):=rfl
theorem hP{s:H UInt8}{k:IntKind}{i:Int}:Iv (.v (.sc (.dat (.str s)))) (.v (.sc (.dat (.int k i))))=(ix s i).map fun b=> .v (.sc (.dat (.int .u8 b.toNat))):=rfl
theorem jJ{α:Type}{l:H α}{i:L}(h:i<l.length):ix l (i:Int)=E l[i]:=by simp[ix,h]
theorem dz{off:L}{g:Bool}{n:L}{cs:H AC}:Fg off g n (.v (.ag cs))=Ci cs off g n:=rfl
theorem ZJ{cs:H AC}{off n:L}:Ci cs off F n=(cs[off]?).map fun c=> .v (.sc c):=rfl
theorem ij{env bx rows}{d:L}{rs:H R1}:(St.mk env bx rows).inst d rs=⟨put env d (Bt d rs),bx,B7 rows (Bq d rs)⟩:=rfl
theorem iV{g:L}{r:R1}:Bt g [r]= .v (r.inst g 0):=rfl
theorem iW{g:L}{r r':R1}{rs:H R1}:Bt g (r::r'::rs)= .tup (CE g 0 (r::r'::rs)):=rfl
theorem ib{g j:L}:CE g j []= []:=rfl
theorem iZ{g j:L}{r:R1}{rs:H R1}:CE g j (r::rs)=r.inst g j::CE g (j+r.width) rs:=rfl
theorem rM{c:RC}:R1.width (.sc c)=1:=rfl
theorem rK{cs:H RC}:R1.width (.ag cs)=cs.length:=rfl
theorem im{g j:L}{d:D}:RC.inst g j (.v d)= .dat d:=rfl
theorem ik{g j sz:L}{es:H (H D)}:RC.inst g j (.o sz es)= .own (g*64+j):=rfl
theorem il{g j:L}{c:RC}:R1.inst g j (.sc c)= .sc (c.inst g j):=rfl
theorem ii{g j:L}{cs:H RC}:R1.inst g j (.ag cs)= .ag (Da g j cs):=rfl
theorem iY{g j:L}:Da g j []= []:=rfl
theorem iX{g j:L}{c:RC}{cs:H RC}:Da g j (c::cs)=c.inst g j::Da g (j+1) cs:=rfl
theorem nO{g:L}:Bq g []= []:=rfl
theorem nP{g:L}{r:R1}:Bq g [r]=Bw g 0 r.cells:=by simp[Bq]
theorem nR{g:L}{r r':R1}:Bq g [r,r']=Bw g 0 (r.cells++r'.cells):=by simp[Bq]
theorem ZL{c:RC}:R1.cells (.sc c)= [c]:=rfl
theorem ZH{cs:H RC}:R1.cells (.ag cs)=cs:=rfl
theorem nS{g j:L}:Bw g j []= []:=rfl
theorem nU{g j:L}{d:D}{cs:H RC}:Bw g j (.v d::cs)=Bw g (j+1) cs:=rfl
theorem nT{g j sz:L}{es:H (H D)}{cs:H RC}:Bw g j (.o sz es::cs)=(g*64+j,sz,es)::Bw g (j+1) cs:=rfl
theorem mf{rows:Rows}:B7 rows []=rows:=rfl
theorem me{rows r:Rows}{k:L}{x:L × H (H D)}:B7 rows ((k,x)::r)=put (B7 rows r) k x:=rfl
theorem YS{α:Type}{l:H α}: []++l=l:=rfl
theorem YR{α:Type}{a:α}{l m:H α}:(a::l)++m=a::(l++m):=rfl
theorem ZB{x:Int}:(x !=x)=F:=by simp
theorem Zl{x:Int}:(x==x)=T:=by simp
section
variable {P : Program} {k : H Fr} {Q : Xg → St → Prop} {σ : St} {its : H AO} {n : L} {N : H L}
theorem aZ{d x}:go P (.dops ((E [],G,.mv d x)::its)::k) Q .normal (E σ)=go P (.ops [(G,.mv d x)]:: .dops its::k) Q .normal (E σ):=Bc rfl rfl
theorem ab{d c a b}:go P (.dops ((E [],G,.pick d c a b)::its)::k) Q .normal (E σ)=go P (.ops [(G,.pick d c a b)]:: .dops its::k) Q .normal (E σ):=Bc rfl rfl
theorem aH{d zs ps}:go P (.dops ((E [],G,.build d zs ps)::its)::k) Q .normal (E σ)=go P (.ops [(G,.build d zs ps)]:: .dops its::k) Q .normal (E σ):=Bc rfl rfl
theorem aU{d x g n}:go P (.dops ((E [],G,.load d x g n)::its)::k) Q .normal (E σ)=go P (.ops [(G,.load d x g n)]:: .dops its::k) Q .normal (E σ):=Bc rfl rfl
theorem aa{d x}:go P (.dops ((E [],G,.nilc d x)::its)::k) Q .normal (E σ)=go P (.ops [(G,.nilc d x)]:: .dops its::k) Q .normal (E σ):=Bc rfl rfl
theorem aE{d op x y}:go P (.dops ((E [],G,.bin d op x y)::its)::k) Q .normal (E σ)=go P (.ops [(G,.bin d op x y)]:: .dops its::k) Q .normal (E σ):=Bc rfl rfl
theorem aP{d g ks x y}:go P (.dops ((E [],G,.geq d g ks x y)::its)::k) Q .normal (E σ)=go P (.ops [(G,.geq d g ks x y)]:: .dops its::k) Q .normal (E σ):=Bc rfl rfl
theorem aD{d g x y}:go P (.dops ((E [],G,.beq d g x y)::its)::k) Q .normal (E σ)=go P (.ops [(G,.beq d g x y)]:: .dops its::k) Q .normal (E σ):=Bc rfl rfl
theorem al{d op x}:go P (.dops ((E [],G,.un d op x)::its)::k) Q .normal (E σ)=go P (.ops [(G,.un d op x)]:: .dops its::k) Q .normal (E σ):=Bc rfl rfl
theorem aJ{d kd x}:go P (.dops ((E [],G,.conv d kd x)::its)::k) Q .normal (E σ)=go P (.ops [(G,.conv d kd x)]:: .dops its::k) Q .normal (E σ):=Bc rfl rfl
theorem af{d sz x lo hi mx}:go P (.dops ((E [],G,.slc d sz x lo hi mx)::its)::k) Q .normal (E σ)=go P (.ops [(G,.slc d sz x lo hi mx)]:: .dops its::k) Q .normal (E σ):=Bc rfl rfl
theorem aj{d x lo hi}:go P (.dops ((E [],G,.sslc d x lo hi)::its)::k) Q .normal (E σ)=go P (.ops [(G,.sslc d x lo hi)]:: .dops its::k) Q .normal (E σ):=Bc rfl rfl
theorem aN{d x off}:go P (.dops ((E [],G,.faddr d x off)::its)::k) Q .normal (E σ)=go P (.ops [(G,.faddr d x off)]:: .dops its::k) Q .normal (E σ):=Bc rfl rfl
theorem aO{d x off g n}:go P (.dops ((E [],G,.field d x off g n)::its)::k) Q .normal (E σ)=go P (.ops [(G,.field d x off g n)]:: .dops its::k) Q .normal (E σ):=Bc rfl rfl
theorem aQ{d x i sz}:go P (.dops ((E [],G,.iaddr d x i sz)::its)::k) Q .normal (E σ)=go P (.ops [(G,.iaddr d x i sz)]:: .dops its::k) Q .normal (E σ):=Bc rfl rfl
theorem aA{d x i len sz}:go P (.dops ((E [],G,.aaddr d x i len sz)::its)::k) Q .normal (E σ)=go P (.ops [(G,.aaddr d x i len sz)]:: .dops its::k) Q .normal (E σ):=Bc rfl rfl
theorem aR{d x i}:go P (.dops ((E [],G,.idx d x i)::its)::k) Q .normal (E σ)=go P (.ops [(G,.idx d x i)]:: .dops its::k) Q .normal (E σ):=Bc rfl rfl
theorem aK{d x i}:go P (.dops ((E [],G,.extr d x i)::its)::k) Q .normal (E σ)=go P (.ops [(G,.extr d x i)]:: .dops its::k) Q .normal (E σ):=Bc rfl rfl
theorem aW{d t x}:go P (.dops ((E [],G,.mkif d t x)::its)::k) Q .normal (E σ)=go P (.ops [(G,.mkif d t x)]:: .dops its::k) Q .normal (E σ):=Bc rfl rfl
theorem ak{d x t zc}:go P (.dops ((E [],G,.tass d x t zc)::its)::k) Q .normal (E σ)=go P (.ops [(G,.tass d x t zc)]:: .dops its::k) Q .normal (E σ):=Bc rfl rfl
theorem aT{d x}:go P (.dops ((E [],G,.len d x)::its)::k) Q .normal (E σ)=go P (.ops [(G,.len d x)]:: .dops its::k) Q .normal (E σ):=Bc rfl rfl
theorem ah{d x}:go P (.dops ((E [],G,.slen d x)::its)::k) Q .normal (E σ)=go P (.ops [(G,.slen d x)]:: .dops its::k) Q .normal (E σ):=Bc rfl rfl
theorem ae{d x}:go P (.dops ((E [],G,.sconv d x)::its)::k) Q .normal (E σ)=go P (.ops [(G,.sconv d x)]:: .dops its::k) Q .normal (E σ):=Bc rfl rfl
theorem aY{d m x y}:go P (.dops ((E [],G,.mm d m x y)::its)::k) Q .normal (E σ)=go P (.ops [(G,.mm d m x y)]:: .dops its::k) Q .normal (E σ):=Bc rfl rfl
theorem aV{d f caps}:go P (.dops ((E [],G,.mkf d f caps)::its)::k) Q .normal (E σ)=go P (.ops [(G,.mkf d f caps)]:: .dops its::k) Q .normal (E σ):=Bc rfl rfl
theorem aF{d x}:go P (.dops ((E [],G,.box d x)::its)::k) Q .normal (E σ)=go P (.ops [(G,.box d x)]:: .dops its::k) Q .normal (E σ):=Bc rfl rfl
theorem aC{d cs}:go P (.dops ((E [],G,.alloc d cs)::its)::k) Q .normal (E σ)=go P (.ops [(G,.alloc d cs)]:: .dops its::k) Q .normal (E σ):=Bc rfl rfl
theorem aG{d sz zs len ps}:go P (.dops ((E [],G,.bslice d sz zs len ps)::its)::k) Q .normal (E σ)=go P (.ops [(G,.bslice d sz zs len ps)]:: .dops its::k) Q .normal (E σ):=Bc rfl rfl
theorem aX{d sz b zs x y}:go P (.dops ((E [],G,.mksl d sz b zs x y)::its)::k) Q .normal (E σ)=go P (.ops [(G,.mksl d sz b zs x y)]:: .dops its::k) Q .normal (E σ):=Bc rfl rfl
theorem bJ{d x}:go P (.dops ((E (n::N),G,.mv d x)::its)::k) Q .normal (E σ)=go P (.dops its::k) Q .normal (Bj σ (n::N) (E d) ((σ.less (n::N)).step (.mv d x))):=Bn rfl
theorem bL{d c a b}:go P (.dops ((E (n::N),G,.pick d c a b)::its)::k) Q .normal (E σ)=go P (.dops its::k) Q .normal (Bj σ (n::N) (E d) ((σ.less (n::N)).step (.pick d c a b))):=Bn rfl
theorem as_{d zs ps}:go P (.dops ((E (n::N),G,.build d zs ps)::its)::k) Q .normal (E σ)=go P (.dops its::k) Q .normal (Bj σ (n::N) (E d) ((σ.less (n::N)).step (.build d zs ps))):=Bn rfl
theorem bF{d x g m}:go P (.dops ((E (n::N),G,.load d x g m)::its)::k) Q .normal (E σ)=go P (.dops its::k) Q .normal (Bj σ (n::N) (E d) ((σ.less (n::N)).step (.load d x g m))):=Bn rfl
theorem bK{d x}:go P (.dops ((E (n::N),G,.nilc d x)::its)::k) Q .normal (E σ)=go P (.dops its::k) Q .normal (Bj σ (n::N) (E d) ((σ.less (n::N)).step (.nilc d x))):=Bn rfl
theorem ar{d op x y}:go P (.dops ((E (n::N),G,.bin d op x y)::its)::k) Q .normal (E σ)=go P (.dops its::k) Q .normal (Bj σ (n::N) (E d) ((σ.less (n::N)).step (.bin d op x y))):=Bn rfl
theorem bB{d g ks x y}:go P (.dops ((E (n::N),G,.geq d g ks x y)::its)::k) Q .normal (E σ)=go P (.dops its::k) Q .normal (Bj σ (n::N) (E d) ((σ.less (n::N)).step (.geq d g ks x y))):=Bn rfl
theorem aq{d g x y}:go P (.dops ((E (n::N),G,.beq d g x y)::its)::k) Q .normal (E σ)=go P (.dops its::k) Q .normal (Bj σ (n::N) (E d) ((σ.less (n::N)).step (.beq d g x y))):=Bn rfl
theorem bR{d op x}:go P (.dops ((E (n::N),G,.un d op x)::its)::k) Q .normal (E σ)=go P (.dops its::k) Q .normal (Bj σ (n::N) (E d) ((σ.less (n::N)).step (.un d op x))):=Bn rfl
theorem au{d kd x}:go P (.dops ((E (n::N),G,.conv d kd x)::its)::k) Q .normal (E σ)=go P (.dops its::k) Q .normal (Bj σ (n::N) (E d) ((σ.less (n::N)).step (.conv d kd x))):=Bn rfl
theorem bN{d sz x lo hi mx}:go P (.dops ((E (n::N),G,.slc d sz x lo hi mx)::its)::k) Q .normal (E σ)=go P (.dops its::k) Q .normal (Bj σ (n::N) (E d) ((σ.less (n::N)).step (.slc d sz x lo hi mx))):=Bn rfl
theorem bP{d x lo hi}:go P (.dops ((E (n::N),G,.sslc d x lo hi)::its)::k) Q .normal (E σ)=go P (.dops its::k) Q .normal (Bj σ (n::N) (E d) ((σ.less (n::N)).step (.sslc d x lo hi))):=Bn rfl
theorem az{d x off}:go P (.dops ((E (n::N),G,.faddr d x off)::its)::k) Q .normal (E σ)=go P (.dops its::k) Q .normal (Bj σ (n::N) (E d) ((σ.less (n::N)).step (.faddr d x off))):=Bn rfl
theorem bA{d x off g m}:go P (.dops ((E (n::N),G,.field d x off g m)::its)::k) Q .normal (E σ)=go P (.dops its::k) Q .normal (Bj σ (n::N) (E d) ((σ.less (n::N)).step (.field d x off g m))):=Bn rfl
theorem bC{d x i sz}:go P (.dops ((E (n::N),G,.iaddr d x i sz)::its)::k) Q .normal (E σ)=go P (.dops its::k) Q .normal (Bj σ (n::N) (E d) ((σ.less (n::N)).step (.iaddr d x i sz))):=Bn rfl
theorem am{d x i len sz}:go P (.dops ((E (n::N),G,.aaddr d x i len sz)::its)::k) Q .normal (E σ)=go P (.dops its::k) Q .normal (Bj σ (n::N) (E d) ((σ.less (n::N)).step (.aaddr d x i len sz))):=Bn rfl
theorem bD{d x i}:go P (.dops ((E (n::N),G,.idx d x i)::its)::k) Q .normal (E σ)=go P (.dops its::k) Q .normal (Bj σ (n::N) (E d) ((σ.less (n::N)).step (.idx d x i))):=Bn rfl
theorem aw{d x i}:go P (.dops ((E (n::N),G,.extr d x i)::its)::k) Q .normal (E σ)=go P (.dops its::k) Q .normal (Bj σ (n::N) (E d) ((σ.less (n::N)).step (.extr d x i))):=Bn rfl
theorem bH{d t x}:go P (.dops ((E (n::N),G,.mkif d t x)::its)::k) Q .normal (E σ)=go P (.dops its::k) Q .normal (Bj σ (n::N) (E d) ((σ.less (n::N)).step (.mkif d t x))):=Bn rfl
theorem bQ{d x t zc}:go P (.dops ((E (n::N),G,.tass d x t zc)::its)::k) Q .normal (E σ)=go P (.dops its::k) Q .normal (Bj σ (n::N) (E d) ((σ.less (n::N)).step (.tass d x t zc))):=Bn rfl
theorem bE{d x}:go P (.dops ((E (n::N),G,.len d x)::its)::k) Q .normal (E σ)=go P (.dops its::k) Q .normal (Bj σ (n::N) (E d) ((σ.less (n::N)).step (.len d x))):=Bn rfl
theorem bO{d x}:go P (.dops ((E (n::N),G,.slen d x)::its)::k) Q .normal (E σ)=go P (.dops its::k) Q .normal (Bj σ (n::N) (E d) ((σ.less (n::N)).step (.slen d x))):=Bn rfl
theorem bM{d x}:go P (.dops ((E (n::N),G,.sconv d x)::its)::k) Q .normal (E σ)=go P (.dops its::k) Q .normal (Bj σ (n::N) (E d) ((σ.less (n::N)).step (.sconv d x))):=Bn rfl
theorem bI{d m x y}:go P (.dops ((E (n::N),G,.mm d m x y)::its)::k) Q .normal (E σ)=go P (.dops its::k) Q .normal (Bj σ (n::N) (E d) ((σ.less (n::N)).step (.mm d m x y))):=Bn rfl
theorem bG{d f caps}:go P (.dops ((E (n::N),G,.mkf d f caps)::its)::k) Q .normal (E σ)=go P (.dops its::k) Q .normal (Bj σ (n::N) (E d) ((σ.less (n::N)).step (.mkf d f caps))):=Bn rfl
theorem bT{t:L}{o:AOp}{N:H L}:go P (.dops ((E N,E (t,T),o)::its)::k) Q .normal (E σ)=go P (.gdd (σ.get t) T (E N) o its::k) Q .normal (E σ):=by
 show AA (E (t,T)) σ _ _=_
 rw[QQ];show _=Bs _ _ _ _
 simp only[cond_true];congr 1<;>(cases o.dst<;>rfl)
theorem bS{t:L}{o:AOp}{N:H L}:go P (.dops ((E N,E (t,F),o)::its)::k) Q .normal (E σ)=go P (.gdd (σ.get t) F (E N) o its::k) Q .normal (E σ):=by
 show AA (E (t,F)) σ _ _=_
 rw[QP];show _=Bs _ _ _ _
 simp only[cond_false];congr 1<;>(cases o.dst<;>rfl)
theorem bX{b:Bool}{o:AOp}{N:Option (H L)}:go P (.gdd (.v (.sc (.dat (.bool b)))) b N o its::k) Q .normal (E σ)=go P (.dops ((N,G,o)::its)::k) Q .normal (E σ):=by
 cases b<;>simp[go,AD,Bs]
theorem bW{o:AOp}{N:Option (H L)}:go P (.gdd (.v (.sc (.dat (.bool F)))) T N o its::k) Q .normal (E σ)=go P (.dops its::k) Q .normal (Ce σ o.dst):=by
 simp only[go,AD,Bs,cond_true];cases o.dst<;>simp[BN,Ce]
theorem bV{o:AOp}{N:Option (H L)}:go P (.gdd (.v (.sc (.dat (.bool T)))) F N o its::k) Q .normal (E σ)=go P (.dops its::k) Q .normal (Ce σ o.dst):=by
 simp only[go,AD,Bs,cond_false];cases o.dst<;>simp[BN,Ce]
theorem bU{w:Bool}{o:AOp}{N:Option (H L)}:go P (.gdd .no w N o its::k) Q .normal (E σ)=go P (.dops its::k) Q .normal (Ce σ o.dst):=by
 simp only[go,AD,Bs];cases o.dst<;>simp[BN,Ce]
theorem fh{w:Bool}{o:AOp}{its:H AItem}:go P (.gd .no w o its::k) Q .normal (E σ)=go P (.ops its::k) Q .normal (Ce σ o.dst):=by
 simp only[go,AD,Bs];cases o.dst<;>simp[BN,Ce]
end
def CS(k:L):H L→Bool
 | []=>F
 | n::r=>bif k==n then T else CS k r
def CF{α:Type}(f:L→L)(N:H L):H (L × α)→H (L × α)
 | []=> []
 | (k,v)::r=>bif CS (f k) N then CF f N r else(k,v)::CF f N r
theorem Ln(k:L):∀N:H L,CS k N=N.contains k
 | []=>rfl
 | n::r=>by
  simp only[CS,O,Ln k r];cases k==n<;>rfl
theorem Pf{α:Type}(f:L→L)(N:H L):∀l:H (L × α),CF f N l=l.filter fun p=> !N.contains (f p.1)
 | []=>rfl
 | (k,v)::r=>by
  simp only[CF,Ln,List.filter_cons,Pf f N r];cases N.contains (f k)<;>rfl
theorem kk{env bx rows}{n:L}{N:H L}:(St.mk env bx rows).less (n::N)=⟨env,CF id (n::N) bx,CF (· / 64) (n::N) rows⟩:=by
 rw[Pf,Pf];rfl
theorem lL{k:L}:CS k []=F:=rfl
theorem lK{k n:L}{r:H L}:CS k (n::r)=bif k==n then T else CS k r:=rfl
theorem jM{α:Type}{f:L→L}{N:H L}:CF f N ([]:H (L × α))= []:=rfl
theorem jL{α:Type}{N:H L}{k:L}{v:α}{r:H (L × α)}:CF id N ((k,v)::r)=bif CS k N then CF id N r else(k,v)::CF id N r:=rfl
theorem jK{α:Type}{N:H L}{k:L}{v:α}{r:H (L × α)}:CF (· / 64) N ((k,v)::r)=bif CS (k / 64) N then CF (· / 64) N r else(k,v)::CF (· / 64) N r:=rfl
theorem pO{σ τ:St}{N:H L}{d:L}:Bj σ N (E d) (E τ)=bif (τ.get d).avoids N then E (σ.set d (τ.get d)) else G:=rfl
theorem pv{σ:St}{d:L}:Ce σ (E d)=E (σ.set d .no):=rfl
theorem Z0{N:H L}{d:D}:AV.avoids N (.v (.sc (.dat d)))=T:=by simp[AV.avoids,AV.cells,V1.cells,AC.avoids,AC.uses]
theorem Z1{N:H L}:AV.avoids N (.v (.sc .nil))=T:=by simp[AV.avoids,AV.cells,V1.cells,AC.avoids,AC.uses]
theorem Z3{N:H L}{i:L}:AV.avoids N (.v (.sc (.own i)))= !CS (i / 64) N:=by
 rw[Ln]
 induction N with
 | nil=>rfl
 | cons n N ih=>
  simp only[AV.avoids,AV.cells,V1.cells,AC.avoids,AC.uses,U,List.all_nil,V,O] at ih ⊢
  rw[ih];cases(i / 64==n)<;>simp
theorem Z4{N:H L}{i o:L}:AV.avoids N (.v (.sc (.pb i o)))= !CS i N:=by
 rw[Ln]
 induction N with
 | nil=>rfl
 | cons n N ih=>
  simp only[AV.avoids,AV.cells,V1.cells,AC.avoids,AC.uses,U,List.all_nil,V,O] at ih ⊢
  rw[ih];cases(i==n)<;>simp
theorem Z5{N:H L}{i x o:L}:AV.avoids N (.v (.sc (.pe i x o)))= !CS (i / 64) N:=by
 rw[Ln]
 induction N with
 | nil=>rfl
 | cons n N ih=>
  simp only[AV.avoids,AV.cells,V1.cells,AC.avoids,AC.uses,U,List.all_nil,V,O] at ih ⊢
  rw[ih];cases(i / 64==n)<;>simp
theorem YZ{N:H L}:AV.avoids N (.v (.ag []))=T:=rfl
theorem YY{N:H L}{c:AC}{cs:H AC}:AV.avoids N (.v (.ag (c::cs)))=((AV.v (.sc c)).avoids N&&(AV.v (.ag cs)).avoids N):=by simp[AV.avoids,AV.cells,V1.cells]
theorem lr:(!F)=T:=rfl
theorem ls:(!T)=F:=rfl
theorem YM:(T&&T)=T:=rfl
theorem cM{d x}:AOp.dst (.mv d x)=E d:=rfl
theorem cO{d c a b}:AOp.dst (.pick d c a b)=E d:=rfl
theorem bt{d zs ps}:AOp.dst (.build d zs ps)=E d:=rfl
theorem cH{d x g n}:AOp.dst (.load d x g n)=E d:=rfl
theorem cN{d x}:AOp.dst (.nilc d x)=E d:=rfl
theorem bp{d op x y}:AOp.dst (.bin d op x y)=E d:=rfl
theorem cD{d g ks x y}:AOp.dst (.geq d g ks x y)=E d:=rfl
theorem bl{d g x y}:AOp.dst (.beq d g x y)=E d:=rfl
theorem cU{d op x}:AOp.dst (.un d op x)=E d:=rfl
theorem bw{d kd x}:AOp.dst (.conv d kd x)=E d:=rfl
theorem cQ{d sz x lo hi mx}:AOp.dst (.slc d sz x lo hi mx)=E d:=rfl
theorem cS{d x lo hi}:AOp.dst (.sslc d x lo hi)=E d:=rfl
theorem cB{d x off}:AOp.dst (.faddr d x off)=E d:=rfl
theorem cC{d x off g n}:AOp.dst (.field d x off g n)=E d:=rfl
theorem cE{d x i sz}:AOp.dst (.iaddr d x i sz)=E d:=rfl
theorem bj{d x i len sz}:AOp.dst (.aaddr d x i len sz)=E d:=rfl
theorem cF{d x i}:AOp.dst (.idx d x i)=E d:=rfl
theorem cA{d x i}:AOp.dst (.extr d x i)=E d:=rfl
theorem cJ{d t x}:AOp.dst (.mkif d t x)=E d:=rfl
theorem cT{d x t zc}:AOp.dst (.tass d x t zc)=E d:=rfl
theorem cG{d x}:AOp.dst (.len d x)=E d:=rfl
theorem cR{d x}:AOp.dst (.slen d x)=E d:=rfl
theorem cP{d x}:AOp.dst (.sconv d x)=E d:=rfl
theorem cL{d m x y}:AOp.dst (.mm d m x y)=E d:=rfl
theorem cI{d f caps}:AOp.dst (.mkf d f caps)=E d:=rfl
theorem bq{d x}:AOp.dst (.box d x)=E d:=rfl
theorem bk{d cs}:AOp.dst (.alloc d cs)=E d:=rfl
theorem br{d sz zs len ps}:AOp.dst (.bslice d sz zs len ps)=E d:=rfl
theorem cK{d sz b zs x y}:AOp.dst (.mksl d sz b zs x y)=E d:=rfl
theorem bu{d f args}:AOp.dst (.call d f args)=E d:=rfl
theorem bv{d x args}:AOp.dst (.callv d x args)=E d:=rfl
def eG(rs:H R1):Bool:=(rs.flatMap R1.cells).all fun | .v d=>d.flat | .o _ _=>F
theorem Bg{rs:H R1}(h:eG rs=T):C7 rs:=by
 intro c hc;have:=List.all_eq_true.1 h c hc;cases c with
 | v d=>exact this
 | o=>cases this
end Go.Vi
