/-
The value level. No condition.
-/
import Derived.Test.YtmgfndipofbbaaaGreatFVi26
namespace Go.Vi
set_option linter.all false
open List renaming contains_cons → O, all_cons → U
open Bool renaming and_true → V, true → T, false → F
open Option renaming some → E, none → G
open _root_ renaming List → H, Nat → L
section
variable {P : Program}
end
theorem D7i{α:Type}{n:L}:A3 ([]:H (L × α)) n=G:=rfl
theorem D3n{α:Type}{k n:L}{v:α}{r:H (L × α)}:A3 ((k,v)::r) n=bif k==n then E v else A3 r n:=rfl
theorem D85{α:Type}{n:L}{v:α}:put ([]:H (L × α)) n v= [(n,v)]:=rfl
theorem D5n{α:Type}{k n:L}{u v:α}{r:H (L × α)}:put ((k,u)::r) n v=bif k==n then(k,v)::r else(k,u)::put r n v:=rfl
theorem F0z{σ:St}{n:L}:σ.val (.t n)=σ.get n:=rfl
theorem F1z{σ:St}{v:AV}:σ.val (.c v)=v:=rfl
theorem E5m{env bx rows}{k:L}:(St.mk env bx rows).get k=(A3 env k).getD .undef:=rfl
theorem E5e{env bx rows}{k:L}{v:AV}:(St.mk env bx rows).set k v=⟨put env k v,bx,rows⟩:=rfl
theorem getD_some{α:Type}{a b:α}:(E a).getD b=a:=rfl
theorem D2b{α:Type}{b:α}:(G:Option α).getD b=b:=rfl
theorem map_some{α β:Type}{f:α→β}{a:α}:(E a).map f=E (f a):=rfl
theorem map_none{α β:Type}{f:α→β}:(G:Option α).map f=G:=rfl
theorem F0f{α:Type}{a b:α}:cond T a b=a:=rfl
theorem E60{α:Type}{a b:α}:cond F a b=b:=rfl
theorem D6e{s:H UInt8}:B4q (.v (.sc (.dat (.str s))))=E (.v (.sc (.dat (.int .i64 s.length)))):=rfl
theorem E40{rs:Rows}{es:H (H D)}:A9t rs (.v (.sc (.dat (.sl es))))=E (.v (.sc (.dat (.int .i64 es.length)))):=rfl
theorem D45{rs:Rows}{es:H (H D)}:A8a rs (.v (.sc (.dat (.sl es))))=(A14 es).map fun b=> .v (.sc (.dat (.str b))):=rfl
theorem D2o{rs:Rows}{id:L}:A8a rs (.v (.sc (.own id)))=match A3 rs id with | some (_,es)=>(A14 es).map fun b=> .v (.sc (.dat (.str b))) | none=>G:=rfl
theorem D94{rs:Rows}:A9t rs (.v (.sc .nil))=E (.v (.sc (.dat (.int .i64 0)))):=rfl
theorem D6t{k k':IntKind}{n:Int}:C98 k (.v (.sc (.dat (.int k' n))))=E (.v (.sc (.dat (.int k (k.wrap n))))):=rfl
theorem E01{op:BinOp}{k:IntKind}{x y:Int}:A4b op (.v (.sc (.dat (.int k x)))) (.v (.sc (.dat (.int k y))))=(L6 op k x y).map fun d=> .v (.sc (.dat d)):=by simp[A4b]
theorem E14{op:BinOp}{x y:H UInt8}:A4b op (.v (.sc (.dat (.str x)))) (.v (.sc (.dat (.str y))))=(B36 op x y).map fun d=> .v (.sc (.dat d)):=rfl
theorem D86{k:IntKind}{x y:Int}:L6 .add k x y=E (.int k (k.wrap (x+y))):=rfl
theorem D90{k:IntKind}{x y:Int}:L6 .sub k x y=E (.int k (k.wrap (x - y))):=rfl
theorem D8m{k:IntKind}{x y:Int}:L6 .mul k x y=E (.int k (k.wrap (x*y))):=rfl
theorem D9t{k:IntKind}{x y:Int}:L6 .quo k x y=bif y==0 then G else E (.int k (k.wrap (x.tdiv y))):=by
 by_cases h:y=0
 ·simp[L6,h]
 ·have h':(y==0)=F:=by simpa using h
  simp[L6,h,h']
theorem E0b{k:IntKind}{x y:Int}:L6 .rem k x y=bif y==0 then G else E (.int k (k.wrap (x.tmod y))):=by
 by_cases h:y=0
 ·simp[L6,h]
 ·have h':(y==0)=F:=by simpa using h
  simp[L6,h,h']
theorem D89{k:IntKind}{x y:Int}:L6 .eql k x y=E (.bool (x==y)):=rfl
theorem E05{k:IntKind}{x y:Int}:L6 .neq k x y=E (.bool (x !=y)):=rfl
theorem D9c{k:IntKind}{x y:Int}:L6 .lss k x y=E (.bool (decide (x<y))):=rfl
theorem E0n{k:IntKind}{x y:Int}:L6 .leq k x y=E (.bool (decide (x≤y))):=rfl
theorem E1q{k:IntKind}{x y:Int}:L6 .gtr k x y=E (.bool (decide (y<x))):=rfl
theorem E15{k:IntKind}{x y:Int}:L6 .geq k x y=E (.bool (decide (y≤x))):=rfl
theorem E2k{x y:H UInt8}:B36 .eql x y=E (.bool (x==y)):=rfl
theorem E1l{x y:H UInt8}:B36 .neq x y=E (.bool (!(x==y))):=rfl
theorem E4f{b:Bool}:unV .not (.v (.sc (.dat (.bool b))))=E (.v (.sc (.dat (.bool (!b))))):=rfl
theorem E1w{s:H UInt8}{k:IntKind}{i:Int}:B89 (.v (.sc (.dat (.str s)))) (.v (.sc (.dat (.int k i))))=(ix s i).map fun b=> .v (.sc (.dat (.int .u8 b.toNat))):=rfl
theorem E6b{α:Type}{l:H α}{i:L}(h:i<l.length):ix l (i:Int)=E l[i]:=by simp[ix,h]
theorem D5r{off:L}{g:Bool}{n:L}{cs:H AC}:A8b off g n (.v (.ag cs))=A2e cs off g n:=rfl
theorem E0a{cs:H AC}{off n:L}:A2e cs off F n=(cs[off]?).map fun c=> .v (.sc c):=rfl
theorem E1s{env bx rows}{d:L}{rs:H R1}:(St.mk env bx rows).inst d rs=⟨put env d (N4 d rs),bx,L5 rows (O8 d rs)⟩:=rfl
theorem C6f{g:L}{r:R1}:N4 g [r]= .v (r.inst g 0):=rfl
theorem C6i{g:L}{r r':R1}{rs:H R1}:N4 g (r::r'::rs)= .tup (A0v g 0 (r::r'::rs)):=rfl
theorem C4i{g j:L}:A0v g j []= []:=rfl
theorem C1a{g j:L}{r:R1}{rs:H R1}:A0v g j (r::rs)=r.inst g j::A0v g (j+r.width) rs:=rfl
theorem D4b{c:RC}:R1.width (.sc c)=1:=rfl
theorem D4t{cs:H RC}:R1.width (.ag cs)=cs.length:=rfl
theorem E36{g j:L}{d:D}:RC.inst g j (.v d)= .dat d:=rfl
theorem E38{g j sz:L}{es:H (H D)}:RC.inst g j (.o sz es)= .own (g*64+j):=rfl
theorem E0i{g j:L}{c:RC}:R1.inst g j (.sc c)= .sc (c.inst g j):=rfl
theorem E0y{g j:L}{cs:H RC}:R1.inst g j (.ag cs)= .ag (A05 g j cs):=rfl
theorem C1d{g j:L}:A05 g j []= []:=rfl
theorem B9b{g j:L}{c:RC}{cs:H RC}:A05 g j (c::cs)=c.inst g j::A05 g (j+1) cs:=rfl
theorem C59{g:L}:O8 g []= []:=rfl
theorem C6d{g:L}{r:R1}:O8 g [r]=J2 g 0 r.cells:=by simp[O8]
theorem C5o{g:L}{r r':R1}:O8 g [r,r']=J2 g 0 (r.cells++r'.cells):=by simp[O8]
theorem D3t{c:RC}:R1.cells (.sc c)= [c]:=rfl
theorem D5f{cs:H RC}:R1.cells (.ag cs)=cs:=rfl
theorem C08{g j:L}:J2 g j []= []:=rfl
theorem C5j{g j:L}{d:D}{cs:H RC}:J2 g j (.v d::cs)=J2 g (j+1) cs:=rfl
theorem C5v{g j sz:L}{es:H (H D)}{cs:H RC}:J2 g j (.o sz es::cs)=(g*64+j,sz,es)::J2 g (j+1) cs:=rfl
theorem D0g{rows:Rows}:L5 rows []=rows:=rfl
theorem C5q{rows r:Rows}{k:L}{x:L × H (H D)}:L5 rows ((k,x)::r)=put (L5 rows r) k x:=rfl
theorem E0k{α:Type}{l:H α}: []++l=l:=rfl
theorem D4z{α:Type}{a:α}{l m:H α}:(a::l)++m=a::(l++m):=rfl
theorem D6j{x:Int}:(x !=x)=F:=by simp
theorem D52{x:Int}:(x==x)=T:=by simp
section
variable {P : Program} {k : H Fr} {Q : Xm → St → Prop} {σ : St} {its : H N6} {n : L} {N : H L}
theorem F04{d x}:go P (.dops ((E [],G,.mv d x)::its)::k) Q .normal (E σ)=go P (.ops [(G,.mv d x)]:: .dops its::k) Q .normal (E σ):=I8 rfl rfl
theorem E0f{d c a b}:go P (.dops ((E [],G,.pick d c a b)::its)::k) Q .normal (E σ)=go P (.ops [(G,.pick d c a b)]:: .dops its::k) Q .normal (E σ):=I8 rfl rfl
theorem D34{d zs ps}:go P (.dops ((E [],G,.build d zs ps)::its)::k) Q .normal (E σ)=go P (.ops [(G,.build d zs ps)]:: .dops its::k) Q .normal (E σ):=I8 rfl rfl
theorem E16{d x g n}:go P (.dops ((E [],G,.load d x g n)::its)::k) Q .normal (E σ)=go P (.ops [(G,.load d x g n)]:: .dops its::k) Q .normal (E σ):=I8 rfl rfl
theorem D9z{d x}:go P (.dops ((E [],G,.nilc d x)::its)::k) Q .normal (E σ)=go P (.ops [(G,.nilc d x)]:: .dops its::k) Q .normal (E σ):=I8 rfl rfl
theorem E5k{d op x y}:go P (.dops ((E [],G,.bin d op x y)::its)::k) Q .normal (E σ)=go P (.ops [(G,.bin d op x y)]:: .dops its::k) Q .normal (E σ):=I8 rfl rfl
theorem E2n{d g ks x y}:go P (.dops ((E [],G,.geq d g ks x y)::its)::k) Q .normal (E σ)=go P (.ops [(G,.geq d g ks x y)]:: .dops its::k) Q .normal (E σ):=I8 rfl rfl
theorem E4q{d g x y}:go P (.dops ((E [],G,.beq d g x y)::its)::k) Q .normal (E σ)=go P (.ops [(G,.beq d g x y)]:: .dops its::k) Q .normal (E σ):=I8 rfl rfl
theorem F2r{d op x}:go P (.dops ((E [],G,.un d op x)::its)::k) Q .normal (E σ)=go P (.ops [(G,.un d op x)]:: .dops its::k) Q .normal (E σ):=I8 rfl rfl
theorem D8l{d kd x}:go P (.dops ((E [],G,.conv d kd x)::its)::k) Q .normal (E σ)=go P (.ops [(G,.conv d kd x)]:: .dops its::k) Q .normal (E σ):=I8 rfl rfl
theorem E3v{d sz x lo hi mx}:go P (.dops ((E [],G,.slc d sz x lo hi mx)::its)::k) Q .normal (E σ)=go P (.ops [(G,.slc d sz x lo hi mx)]:: .dops its::k) Q .normal (E σ):=I8 rfl rfl
theorem E10{d x lo hi}:go P (.dops ((E [],G,.sslc d x lo hi)::its)::k) Q .normal (E σ)=go P (.ops [(G,.sslc d x lo hi)]:: .dops its::k) Q .normal (E σ):=I8 rfl rfl
theorem D36{d x off}:go P (.dops ((E [],G,.faddr d x off)::its)::k) Q .normal (E σ)=go P (.ops [(G,.faddr d x off)]:: .dops its::k) Q .normal (E σ):=I8 rfl rfl
theorem D62{d x off g n}:go P (.dops ((E [],G,.field d x off g n)::its)::k) Q .normal (E σ)=go P (.ops [(G,.field d x off g n)]:: .dops its::k) Q .normal (E σ):=I8 rfl rfl
theorem D5k{d x i sz}:go P (.dops ((E [],G,.iaddr d x i sz)::its)::k) Q .normal (E σ)=go P (.ops [(G,.iaddr d x i sz)]:: .dops its::k) Q .normal (E σ):=I8 rfl rfl
theorem D4j{d x i len sz}:go P (.dops ((E [],G,.aaddr d x i len sz)::its)::k) Q .normal (E σ)=go P (.ops [(G,.aaddr d x i len sz)]:: .dops its::k) Q .normal (E σ):=I8 rfl rfl
theorem E3d{d x i}:go P (.dops ((E [],G,.idx d x i)::its)::k) Q .normal (E σ)=go P (.ops [(G,.idx d x i)]:: .dops its::k) Q .normal (E σ):=I8 rfl rfl
theorem E04{d x i}:go P (.dops ((E [],G,.extr d x i)::its)::k) Q .normal (E σ)=go P (.ops [(G,.extr d x i)]:: .dops its::k) Q .normal (E σ):=I8 rfl rfl
theorem D8i{d t x}:go P (.dops ((E [],G,.mkif d t x)::its)::k) Q .normal (E σ)=go P (.ops [(G,.mkif d t x)]:: .dops its::k) Q .normal (E σ):=I8 rfl rfl
theorem E1v{d x t zc}:go P (.dops ((E [],G,.tass d x t zc)::its)::k) Q .normal (E σ)=go P (.ops [(G,.tass d x t zc)]:: .dops its::k) Q .normal (E σ):=I8 rfl rfl
theorem E3a{d x}:go P (.dops ((E [],G,.len d x)::its)::k) Q .normal (E σ)=go P (.ops [(G,.len d x)]:: .dops its::k) Q .normal (E σ):=I8 rfl rfl
theorem E1o{d x}:go P (.dops ((E [],G,.slen d x)::its)::k) Q .normal (E σ)=go P (.ops [(G,.slen d x)]:: .dops its::k) Q .normal (E σ):=I8 rfl rfl
theorem D5j{d x}:go P (.dops ((E [],G,.sconv d x)::its)::k) Q .normal (E σ)=go P (.ops [(G,.sconv d x)]:: .dops its::k) Q .normal (E σ):=I8 rfl rfl
theorem E9t{d m x y}:go P (.dops ((E [],G,.mm d m x y)::its)::k) Q .normal (E σ)=go P (.ops [(G,.mm d m x y)]:: .dops its::k) Q .normal (E σ):=I8 rfl rfl
theorem E3j{d f caps}:go P (.dops ((E [],G,.mkf d f caps)::its)::k) Q .normal (E σ)=go P (.ops [(G,.mkf d f caps)]:: .dops its::k) Q .normal (E σ):=I8 rfl rfl
theorem E55{d x}:go P (.dops ((E [],G,.box d x)::its)::k) Q .normal (E σ)=go P (.ops [(G,.box d x)]:: .dops its::k) Q .normal (E σ):=I8 rfl rfl
theorem D37{d cs}:go P (.dops ((E [],G,.alloc d cs)::its)::k) Q .normal (E σ)=go P (.ops [(G,.alloc d cs)]:: .dops its::k) Q .normal (E σ):=I8 rfl rfl
theorem D29{d sz zs len ps}:go P (.dops ((E [],G,.bslice d sz zs len ps)::its)::k) Q .normal (E σ)=go P (.ops [(G,.bslice d sz zs len ps)]:: .dops its::k) Q .normal (E σ):=I8 rfl rfl
theorem D9j{d sz b zs x y}:go P (.dops ((E [],G,.mksl d sz b zs x y)::its)::k) Q .normal (E σ)=go P (.ops [(G,.mksl d sz b zs x y)]:: .dops its::k) Q .normal (E σ):=I8 rfl rfl
theorem F1t{d x}:go P (.dops ((E (n::N),G,.mv d x)::its)::k) Q .normal (E σ)=go P (.dops its::k) Q .normal (T1 σ (n::N) (E d) ((σ.less (n::N)).step (.mv d x))):=L1 rfl
theorem E1t{d c a b}:go P (.dops ((E (n::N),G,.pick d c a b)::its)::k) Q .normal (E σ)=go P (.dops its::k) Q .normal (T1 σ (n::N) (E d) ((σ.less (n::N)).step (.pick d c a b))):=L1 rfl
theorem D3v{d zs ps}:go P (.dops ((E (n::N),G,.build d zs ps)::its)::k) Q .normal (E σ)=go P (.dops its::k) Q .normal (T1 σ (n::N) (E d) ((σ.less (n::N)).step (.build d zs ps))):=L1 rfl
theorem D97{d x g m}:go P (.dops ((E (n::N),G,.load d x g m)::its)::k) Q .normal (E σ)=go P (.dops its::k) Q .normal (T1 σ (n::N) (E d) ((σ.less (n::N)).step (.load d x g m))):=L1 rfl
theorem E1b{d x}:go P (.dops ((E (n::N),G,.nilc d x)::its)::k) Q .normal (E σ)=go P (.dops its::k) Q .normal (T1 σ (n::N) (E d) ((σ.less (n::N)).step (.nilc d x))):=L1 rfl
theorem E41{d op x y}:go P (.dops ((E (n::N),G,.bin d op x y)::its)::k) Q .normal (E σ)=go P (.dops its::k) Q .normal (T1 σ (n::N) (E d) ((σ.less (n::N)).step (.bin d op x y))):=L1 rfl
theorem E3k{d g ks x y}:go P (.dops ((E (n::N),G,.geq d g ks x y)::its)::k) Q .normal (E σ)=go P (.dops its::k) Q .normal (T1 σ (n::N) (E d) ((σ.less (n::N)).step (.geq d g ks x y))):=L1 rfl
theorem E4a{d g x y}:go P (.dops ((E (n::N),G,.beq d g x y)::its)::k) Q .normal (E σ)=go P (.dops its::k) Q .normal (T1 σ (n::N) (E d) ((σ.less (n::N)).step (.beq d g x y))):=L1 rfl
theorem E91{d op x}:go P (.dops ((E (n::N),G,.un d op x)::its)::k) Q .normal (E σ)=go P (.dops its::k) Q .normal (T1 σ (n::N) (E d) ((σ.less (n::N)).step (.un d op x))):=L1 rfl
theorem E02{d kd x}:go P (.dops ((E (n::N),G,.conv d kd x)::its)::k) Q .normal (E σ)=go P (.dops its::k) Q .normal (T1 σ (n::N) (E d) ((σ.less (n::N)).step (.conv d kd x))):=L1 rfl
theorem E4c{d sz x lo hi mx}:go P (.dops ((E (n::N),G,.slc d sz x lo hi mx)::its)::k) Q .normal (E σ)=go P (.dops its::k) Q .normal (T1 σ (n::N) (E d) ((σ.less (n::N)).step (.slc d sz x lo hi mx))):=L1 rfl
theorem E0v{d x lo hi}:go P (.dops ((E (n::N),G,.sslc d x lo hi)::its)::k) Q .normal (E σ)=go P (.dops its::k) Q .normal (T1 σ (n::N) (E d) ((σ.less (n::N)).step (.sslc d x lo hi))):=L1 rfl
theorem D6v{d x off}:go P (.dops ((E (n::N),G,.faddr d x off)::its)::k) Q .normal (E σ)=go P (.dops its::k) Q .normal (T1 σ (n::N) (E d) ((σ.less (n::N)).step (.faddr d x off))):=L1 rfl
theorem D4q{d x off g m}:go P (.dops ((E (n::N),G,.field d x off g m)::its)::k) Q .normal (E σ)=go P (.dops its::k) Q .normal (T1 σ (n::N) (E d) ((σ.less (n::N)).step (.field d x off g m))):=L1 rfl
theorem D59{d x i sz}:go P (.dops ((E (n::N),G,.iaddr d x i sz)::its)::k) Q .normal (E σ)=go P (.dops its::k) Q .normal (T1 σ (n::N) (E d) ((σ.less (n::N)).step (.iaddr d x i sz))):=L1 rfl
theorem D5g{d x i len sz}:go P (.dops ((E (n::N),G,.aaddr d x i len sz)::its)::k) Q .normal (E σ)=go P (.dops its::k) Q .normal (T1 σ (n::N) (E d) ((σ.less (n::N)).step (.aaddr d x i len sz))):=L1 rfl
theorem E3z{d x i}:go P (.dops ((E (n::N),G,.idx d x i)::its)::k) Q .normal (E σ)=go P (.dops its::k) Q .normal (T1 σ (n::N) (E d) ((σ.less (n::N)).step (.idx d x i))):=L1 rfl
theorem E0h{d x i}:go P (.dops ((E (n::N),G,.extr d x i)::its)::k) Q .normal (E σ)=go P (.dops its::k) Q .normal (T1 σ (n::N) (E d) ((σ.less (n::N)).step (.extr d x i))):=L1 rfl
theorem E00{d t x}:go P (.dops ((E (n::N),G,.mkif d t x)::its)::k) Q .normal (E σ)=go P (.dops its::k) Q .normal (T1 σ (n::N) (E d) ((σ.less (n::N)).step (.mkif d t x))):=L1 rfl
theorem E2c{d x t zc}:go P (.dops ((E (n::N),G,.tass d x t zc)::its)::k) Q .normal (E σ)=go P (.dops its::k) Q .normal (T1 σ (n::N) (E d) ((σ.less (n::N)).step (.tass d x t zc))):=L1 rfl
theorem E5y{d x}:go P (.dops ((E (n::N),G,.len d x)::its)::k) Q .normal (E σ)=go P (.dops its::k) Q .normal (T1 σ (n::N) (E d) ((σ.less (n::N)).step (.len d x))):=L1 rfl
theorem E0e{d x}:go P (.dops ((E (n::N),G,.slen d x)::its)::k) Q .normal (E σ)=go P (.dops its::k) Q .normal (T1 σ (n::N) (E d) ((σ.less (n::N)).step (.slen d x))):=L1 rfl
theorem D5e{d x}:go P (.dops ((E (n::N),G,.sconv d x)::its)::k) Q .normal (E σ)=go P (.dops its::k) Q .normal (T1 σ (n::N) (E d) ((σ.less (n::N)).step (.sconv d x))):=L1 rfl
theorem E7k{d m x y}:go P (.dops ((E (n::N),G,.mm d m x y)::its)::k) Q .normal (E σ)=go P (.dops its::k) Q .normal (T1 σ (n::N) (E d) ((σ.less (n::N)).step (.mm d m x y))):=L1 rfl
theorem E3s{d f caps}:go P (.dops ((E (n::N),G,.mkf d f caps)::its)::k) Q .normal (E σ)=go P (.dops its::k) Q .normal (T1 σ (n::N) (E d) ((σ.less (n::N)).step (.mkf d f caps))):=L1 rfl
theorem D3x{t:L}{o:AOp}{N:H L}:go P (.dops ((E N,E (t,T),o)::its)::k) Q .normal (E σ)=go P (.gdd (σ.get t) T (E N) o its::k) Q .normal (E σ):=by
 show G2 (E (t,T)) σ _ _=_
 rw[C66]
 show _=Y6 _ _ _ _
 simp only[cond_true]
 congr 1<;>(cases o.dst<;>rfl)
theorem D6d{t:L}{o:AOp}{N:H L}:go P (.dops ((E N,E (t,F),o)::its)::k) Q .normal (E σ)=go P (.gdd (σ.get t) F (E N) o its::k) Q .normal (E σ):=by
 show G2 (E (t,F)) σ _ _=_
 rw[C67]
 show _=Y6 _ _ _ _
 simp only[cond_false]
 congr 1<;>(cases o.dst<;>rfl)
theorem E7e{b:Bool}{o:AOp}{N:Option (H L)}:go P (.gdd (.v (.sc (.dat (.bool b)))) b N o its::k) Q .normal (E σ)=go P (.dops ((N,G,o)::its)::k) Q .normal (E σ):=by
 cases b<;>simp[go,go0,Y6]
theorem F2k{o:AOp}{N:Option (H L)}:go P (.gdd (.v (.sc (.dat (.bool F)))) T N o its::k) Q .normal (E σ)=go P (.dops its::k) Q .normal (unw σ o.dst):=by
 simp only[go,go0,Y6,cond_true]
 cases o.dst<;>simp[Y4,unw]
theorem E7w{o:AOp}{N:Option (H L)}:go P (.gdd (.v (.sc (.dat (.bool T)))) F N o its::k) Q .normal (E σ)=go P (.dops its::k) Q .normal (unw σ o.dst):=by
 simp only[go,go0,Y6,cond_false]
 cases o.dst<;>simp[Y4,unw]
theorem E6h{w:Bool}{o:AOp}{N:Option (H L)}:go P (.gdd .no w N o its::k) Q .normal (E σ)=go P (.dops its::k) Q .normal (unw σ o.dst):=by
 simp only[go,go0,Y6]
 cases o.dst<;>simp[Y4,unw]
theorem D1l{w:Bool}{o:AOp}{its:H AItem}:go P (.gd .no w o its::k) Q .normal (E σ)=go P (.ops its::k) Q .normal (unw σ o.dst):=by
 simp only[go,go0,Y6]
 cases o.dst<;>simp[Y4,unw]
end
def A8k(k:L):H L→Bool
 | []=>F
 | n::r=>bif k==n then T else A8k k r
def A5n{α:Type}(f:L→L)(N:H L):H (L × α)→H (L × α)
 | []=> []
 | (k,v)::r=>bif A8k (f k) N then A5n f N r else(k,v)::A5n f N r
theorem B1s(k:L):∀N:H L,A8k k N=N.contains k
 | []=>rfl
 | n::r=>by
  simp only[A8k,O,B1s k r]
  cases k==n<;>rfl
theorem B6q{α:Type}(f:L→L)(N:H L):∀l:H (L × α),A5n f N l=l.filter fun p=> !N.contains (f p.1)
 | []=>rfl
 | (k,v)::r=>by
  simp only[A5n,B1s,List.filter_cons,B6q f N r]
  cases N.contains (f k)<;>rfl
theorem E2l{env bx rows}{n:L}{N:H L}:(St.mk env bx rows).less (n::N)=⟨env,A5n id (n::N) bx,A5n (· / 64) (n::N) rows⟩:=by
 rw[B6q,B6q]
 rfl
theorem D5m{k:L}:A8k k []=F:=rfl
theorem D3q{k n:L}{r:H L}:A8k k (n::r)=bif k==n then T else A8k k r:=rfl
theorem D50{α:Type}{f:L→L}{N:H L}:A5n f N ([]:H (L × α))= []:=rfl
theorem E0q{α:Type}{N:H L}{k:L}{v:α}{r:H (L × α)}:A5n id N ((k,v)::r)=bif A8k k N then A5n id N r else(k,v)::A5n id N r:=rfl
theorem D92{α:Type}{N:H L}{k:L}{v:α}{r:H (L × α)}:A5n (· / 64) N ((k,v)::r)=bif A8k (k / 64) N then A5n (· / 64) N r else(k,v)::A5n (· / 64) N r:=rfl
theorem D2t{σ τ:St}{N:H L}{d:L}:T1 σ N (E d) (E τ)=bif (τ.get d).avoids N then E (σ.set d (τ.get d)) else G:=rfl
theorem D3w{σ:St}{d:L}:unw σ (E d)=E (σ.set d .no):=rfl
theorem E32{N:H L}{d:D}:AV.avoids N (.v (.sc (.dat d)))=T:=by simp[AV.avoids,AV.cells,V1.cells,AC.avoids,AC.uses]
theorem E2s{N:H L}:AV.avoids N (.v (.sc .nil))=T:=by simp[AV.avoids,AV.cells,V1.cells,AC.avoids,AC.uses]
theorem E4v{N:H L}{i:L}:AV.avoids N (.v (.sc (.own i)))= !A8k (i / 64) N:=by
 rw[B1s]
 induction N with
 | nil=>rfl
 | cons n N ih=>
  simp only[AV.avoids,AV.cells,V1.cells,AC.avoids,AC.uses,U,List.all_nil,V,O] at ih ⊢
  rw[ih]
  cases(i / 64==n)<;>simp
theorem F21{N:H L}{i o:L}:AV.avoids N (.v (.sc (.pb i o)))= !A8k i N:=by
 rw[B1s]
 induction N with
 | nil=>rfl
 | cons n N ih=>
  simp only[AV.avoids,AV.cells,V1.cells,AC.avoids,AC.uses,U,List.all_nil,V,O] at ih ⊢
  rw[ih]
  cases(i==n)<;>simp
theorem E81{N:H L}{i x o:L}:AV.avoids N (.v (.sc (.pe i x o)))= !A8k (i / 64) N:=by
 rw[B1s]
 induction N with
 | nil=>rfl
 | cons n N ih=>
  simp only[AV.avoids,AV.cells,V1.cells,AC.avoids,AC.uses,U,List.all_nil,V,O] at ih ⊢
  rw[ih]
  cases(i / 64==n)<;>simp
theorem E22{N:H L}:AV.avoids N (.v (.ag []))=T:=rfl
theorem E7o{N:H L}{c:AC}{cs:H AC}:AV.avoids N (.v (.ag (c::cs)))=((AV.v (.sc c)).avoids N&&(AV.v (.ag cs)).avoids N):=by simp[AV.avoids,AV.cells,V1.cells]
theorem C7p:(!F)=T:=rfl
theorem D1g:(!T)=F:=rfl
theorem E4p:(T&&T)=T:=rfl
theorem E5r{d x}:AOp.dst (.mv d x)=E d:=rfl
theorem D4a{d c a b}:AOp.dst (.pick d c a b)=E d:=rfl
theorem D1u{d zs ps}:AOp.dst (.build d zs ps)=E d:=rfl
theorem D6w{d x g n}:AOp.dst (.load d x g n)=E d:=rfl
theorem D5s{d x}:AOp.dst (.nilc d x)=E d:=rfl
theorem E08{d op x y}:AOp.dst (.bin d op x y)=E d:=rfl
theorem D9w{d g ks x y}:AOp.dst (.geq d g ks x y)=E d:=rfl
theorem E19{d g x y}:AOp.dst (.beq d g x y)=E d:=rfl
theorem E6c{d op x}:AOp.dst (.un d op x)=E d:=rfl
theorem D4y{d kd x}:AOp.dst (.conv d kd x)=E d:=rfl
theorem E0s{d sz x lo hi mx}:AOp.dst (.slc d sz x lo hi mx)=E d:=rfl
theorem D4m{d x lo hi}:AOp.dst (.sslc d x lo hi)=E d:=rfl
theorem D25{d x off}:AOp.dst (.faddr d x off)=E d:=rfl
theorem D1c{d x off g n}:AOp.dst (.field d x off g n)=E d:=rfl
theorem D18{d x i sz}:AOp.dst (.iaddr d x i sz)=E d:=rfl
theorem D1h{d x i len sz}:AOp.dst (.aaddr d x i len sz)=E d:=rfl
theorem D9e{d x i}:AOp.dst (.idx d x i)=E d:=rfl
theorem D7a{d x i}:AOp.dst (.extr d x i)=E d:=rfl
theorem D60{d t x}:AOp.dst (.mkif d t x)=E d:=rfl
theorem D53{d x t zc}:AOp.dst (.tass d x t zc)=E d:=rfl
theorem D8v{d x}:AOp.dst (.len d x)=E d:=rfl
theorem D47{d x}:AOp.dst (.slen d x)=E d:=rfl
theorem D12{d x}:AOp.dst (.sconv d x)=E d:=rfl
theorem E3l{d m x y}:AOp.dst (.mm d m x y)=E d:=rfl
theorem E1a{d f caps}:AOp.dst (.mkf d f caps)=E d:=rfl
theorem E0t{d x}:AOp.dst (.box d x)=E d:=rfl
theorem D3m{d cs}:AOp.dst (.alloc d cs)=E d:=rfl
theorem C73{d sz zs len ps}:AOp.dst (.bslice d sz zs len ps)=E d:=rfl
theorem D5v{d sz b zs x y}:AOp.dst (.mksl d sz b zs x y)=E d:=rfl
theorem D31{d f args}:AOp.dst (.call d f args)=E d:=rfl
theorem D2v{d x args}:AOp.dst (.callv d x args)=E d:=rfl
def E8u(rs:H R1):Bool:=(rs.flatMap R1.cells).all fun | .v d=>d.flat | .o _ _=>F
theorem A0d{rs:H R1}(h:E8u rs=T):A26 rs:=by
 intro c hc
 have:=List.all_eq_true.1 h c hc
 cases c with
 | v d=>exact this
 | o=>cases this
end Go.Vi
