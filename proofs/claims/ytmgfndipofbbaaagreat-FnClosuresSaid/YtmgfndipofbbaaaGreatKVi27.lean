/-
The value level. No condition.
-/
import Derived.Test.YtmgfndipofbbaaaGreatKVi26
namespace Go.Vi
set_option linter.all false
open List renaming contains_cons → O, all_cons → U
open Bool renaming and_true → V, true → T, false → F
open Option renaming some → E, none → G
open _root_ renaming List → H, Nat → L
section
variable {P : Program}
end
theorem D8o{α:Type}{n:L}:A3 ([]:H (L × α)) n=G:=rfl
theorem D75{α:Type}{k n:L}{v:α}{r:H (L × α)}:A3 ((k,v)::r) n=bif k==n then E v else A3 r n:=rfl
theorem E56{α:Type}{n:L}{v:α}:put ([]:H (L × α)) n v= [(n,v)]:=rfl
theorem D8j{α:Type}{k n:L}{u v:α}{r:H (L × α)}:put ((k,u)::r) n v=bif k==n then(k,v)::r else(k,u)::put r n v:=rfl
theorem F2s{σ:St}{n:L}:σ.val (.t n)=σ.get n:=rfl
theorem F5m{σ:St}{v:AV}:σ.val (.c v)=v:=rfl
theorem E74{env bx rows}{k:L}:(St.mk env bx rows).get k=(A3 env k).getD .undef:=rfl
theorem E7k{env bx rows}{k:L}{v:AV}:(St.mk env bx rows).set k v=⟨put env k v,bx,rows⟩:=rfl
theorem getD_some{α:Type}{a b:α}:(E a).getD b=a:=rfl
theorem D7m{α:Type}{b:α}:(G:Option α).getD b=b:=rfl
theorem map_some{α β:Type}{f:α→β}{a:α}:(E a).map f=E (f a):=rfl
theorem map_none{α β:Type}{f:α→β}:(G:Option α).map f=G:=rfl
theorem F52{α:Type}{a b:α}:cond T a b=a:=rfl
theorem F2m{α:Type}{a b:α}:cond F a b=b:=rfl
theorem E11{s:H UInt8}:B7n (.v (.sc (.dat (.str s))))=E (.v (.sc (.dat (.int .i64 s.length)))):=rfl
theorem E8i{rs:Rows}{es:H (H D)}:B19 rs (.v (.sc (.dat (.sl es))))=E (.v (.sc (.dat (.int .i64 es.length)))):=rfl
theorem E1s{rs:Rows}{es:H (H D)}:A9x rs (.v (.sc (.dat (.sl es))))=(A3d es).map fun b=> .v (.sc (.dat (.str b))):=rfl
theorem D5t{rs:Rows}{id:L}:A9x rs (.v (.sc (.own id)))=match A3 rs id with | some (_,es)=>(A3d es).map fun b=> .v (.sc (.dat (.str b))) | none=>G:=rfl
theorem E4r{rs:Rows}:B19 rs (.v (.sc .nil))=E (.v (.sc (.dat (.int .i64 0)))):=rfl
theorem E0n{k k':IntKind}{n:Int}:D41 k (.v (.sc (.dat (.int k' n))))=E (.v (.sc (.dat (.int k (k.wrap n))))):=rfl
theorem E55{op:BinOp}{k:IntKind}{x y:Int}:A5q op (.v (.sc (.dat (.int k x)))) (.v (.sc (.dat (.int k y))))=(N2 op k x y).map fun d=> .v (.sc (.dat d)):=by simp[A5q]
theorem E4t{op:BinOp}{x y:H UInt8}:A5q op (.v (.sc (.dat (.str x)))) (.v (.sc (.dat (.str y))))=(B66 op x y).map fun d=> .v (.sc (.dat d)):=rfl
theorem E42{k:IntKind}{x y:Int}:N2 .add k x y=E (.int k (k.wrap (x+y))):=rfl
theorem E3e{k:IntKind}{x y:Int}:N2 .sub k x y=E (.int k (k.wrap (x - y))):=rfl
theorem E5w{k:IntKind}{x y:Int}:N2 .mul k x y=E (.int k (k.wrap (x*y))):=rfl
theorem E63{k:IntKind}{x y:Int}:N2 .quo k x y=bif y==0 then G else E (.int k (k.wrap (x.tdiv y))):=by
 by_cases h:y=0
 ·simp[N2,h]
 ·have h':(y==0)=F:=by simpa using h
  simp[N2,h,h']
theorem E5c{k:IntKind}{x y:Int}:N2 .rem k x y=bif y==0 then G else E (.int k (k.wrap (x.tmod y))):=by
 by_cases h:y=0
 ·simp[N2,h]
 ·have h':(y==0)=F:=by simpa using h
  simp[N2,h,h']
theorem E6j{k:IntKind}{x y:Int}:N2 .eql k x y=E (.bool (x==y)):=rfl
theorem E69{k:IntKind}{x y:Int}:N2 .neq k x y=E (.bool (x !=y)):=rfl
theorem E4z{k:IntKind}{x y:Int}:N2 .lss k x y=E (.bool (decide (x<y))):=rfl
theorem E7d{k:IntKind}{x y:Int}:N2 .leq k x y=E (.bool (decide (x≤y))):=rfl
theorem E6d{k:IntKind}{x y:Int}:N2 .gtr k x y=E (.bool (decide (y<x))):=rfl
theorem E53{k:IntKind}{x y:Int}:N2 .geq k x y=E (.bool (decide (y≤x))):=rfl
theorem E5k{x y:H UInt8}:B66 .eql x y=E (.bool (x==y)):=rfl
theorem E3j{x y:H UInt8}:B66 .neq x y=E (.bool (!(x==y))):=rfl
theorem E9j{b:Bool}:unV .not (.v (.sc (.dat (.bool b))))=E (.v (.sc (.dat (.bool (!b))))):=rfl
theorem E4p{s:H UInt8}{k:IntKind}{i:Int}:C2s (.v (.sc (.dat (.str s)))) (.v (.sc (.dat (.int k i))))=(ix s i).map fun b=> .v (.sc (.dat (.int .u8 b.toNat))):=rfl
theorem F0m{α:Type}{l:H α}{i:L}(h:i<l.length):ix l (i:Int)=E l[i]:=by simp[ix,h]
theorem E1a{off:L}{g:Bool}{n:L}{cs:H AC}:A9s off g n (.v (.ag cs))=A3p cs off g n:=rfl
theorem E6w{cs:H AC}{off n:L}:A3p cs off F n=(cs[off]?).map fun c=> .v (.sc c):=rfl
theorem E39{env bx rows}{d:L}{rs:H R1}:(St.mk env bx rows).inst d rs=⟨put env d (O9 d rs),bx,N1 rows (P0 d rs)⟩:=rfl
theorem C9j{g:L}{r:R1}:O9 g [r]= .v (r.inst g 0):=rfl
theorem C94{g:L}{r r':R1}{rs:H R1}:O9 g (r::r'::rs)= .tup (A10 g 0 (r::r'::rs)):=rfl
theorem C74{g j:L}:A10 g j []= []:=rfl
theorem C4p{g j:L}{r:R1}{rs:H R1}:A10 g j (r::rs)=r.inst g j::A10 g (j+r.width) rs:=rfl
theorem D9u{c:RC}:R1.width (.sc c)=1:=rfl
theorem D9e{cs:H RC}:R1.width (.ag cs)=cs.length:=rfl
theorem F1c{g j:L}{d:D}:RC.inst g j (.v d)= .dat d:=rfl
theorem E8j{g j sz:L}{es:H (H D)}:RC.inst g j (.o sz es)= .own (g*64+j):=rfl
theorem E6e{g j:L}{c:RC}:R1.inst g j (.sc c)= .sc (c.inst g j):=rfl
theorem E6z{g j:L}{cs:H RC}:R1.inst g j (.ag cs)= .ag (A2k g j cs):=rfl
theorem C4s{g j:L}:A2k g j []= []:=rfl
theorem C2v{g j:L}{c:RC}{cs:H RC}:A2k g j (c::cs)=c.inst g j::A2k g (j+1) cs:=rfl
theorem C9q{g:L}:P0 g []= []:=rfl
theorem C9l{g:L}{r:R1}:P0 g [r]=J5 g 0 r.cells:=by simp[P0]
theorem C99{g:L}{r r':R1}:P0 g [r,r']=J5 g 0 (r.cells++r'.cells):=by simp[P0]
theorem E0i{c:RC}:R1.cells (.sc c)= [c]:=rfl
theorem D8i{cs:H RC}:R1.cells (.ag cs)=cs:=rfl
theorem C4n{g j:L}:J5 g j []= []:=rfl
theorem C9x{g j:L}{d:D}{cs:H RC}:J5 g j (.v d::cs)=J5 g (j+1) cs:=rfl
theorem C9m{g j sz:L}{es:H (H D)}{cs:H RC}:J5 g j (.o sz es::cs)=(g*64+j,sz,es)::J5 g (j+1) cs:=rfl
theorem D24{rows:Rows}:N1 rows []=rows:=rfl
theorem C9e{rows r:Rows}{k:L}{x:L × H (H D)}:N1 rows ((k,x)::r)=put (N1 rows r) k x:=rfl
theorem E50{α:Type}{l:H α}: []++l=l:=rfl
theorem D9g{α:Type}{a:α}{l m:H α}:(a::l)++m=a::(l++m):=rfl
theorem E0u{x:Int}:(x !=x)=F:=by simp
theorem E2a{x:Int}:(x==x)=T:=by simp
section
variable {P : Program} {k : H Fr} {Q : Xm → St → Prop} {σ : St} {its : H P2} {n : L} {N : H L}
theorem F3p{d x}:go P (.dops ((E [],G,.mv d x)::its)::k) Q .normal (E σ)=go P (.ops [(G,.mv d x)]:: .dops its::k) Q .normal (E σ):=J8 rfl rfl
theorem E60{d c a b}:go P (.dops ((E [],G,.pick d c a b)::its)::k) Q .normal (E σ)=go P (.ops [(G,.pick d c a b)]:: .dops its::k) Q .normal (E σ):=J8 rfl rfl
theorem D9l{d zs ps}:go P (.dops ((E [],G,.build d zs ps)::its)::k) Q .normal (E σ)=go P (.ops [(G,.build d zs ps)]:: .dops its::k) Q .normal (E σ):=J8 rfl rfl
theorem E4h{d x g n}:go P (.dops ((E [],G,.load d x g n)::its)::k) Q .normal (E σ)=go P (.ops [(G,.load d x g n)]:: .dops its::k) Q .normal (E σ):=J8 rfl rfl
theorem E6r{d x}:go P (.dops ((E [],G,.nilc d x)::its)::k) Q .normal (E σ)=go P (.ops [(G,.nilc d x)]:: .dops its::k) Q .normal (E σ):=J8 rfl rfl
theorem E7v{d op x y}:go P (.dops ((E [],G,.bin d op x y)::its)::k) Q .normal (E σ)=go P (.ops [(G,.bin d op x y)]:: .dops its::k) Q .normal (E σ):=J8 rfl rfl
theorem E9o{d g ks x y}:go P (.dops ((E [],G,.geq d g ks x y)::its)::k) Q .normal (E σ)=go P (.ops [(G,.geq d g ks x y)]:: .dops its::k) Q .normal (E σ):=J8 rfl rfl
theorem F0e{d g x y}:go P (.dops ((E [],G,.beq d g x y)::its)::k) Q .normal (E σ)=go P (.ops [(G,.beq d g x y)]:: .dops its::k) Q .normal (E σ):=J8 rfl rfl
theorem F74{d op x}:go P (.dops ((E [],G,.un d op x)::its)::k) Q .normal (E σ)=go P (.ops [(G,.un d op x)]:: .dops its::k) Q .normal (E σ):=J8 rfl rfl
theorem E54{d kd x}:go P (.dops ((E [],G,.conv d kd x)::its)::k) Q .normal (E σ)=go P (.ops [(G,.conv d kd x)]:: .dops its::k) Q .normal (E σ):=J8 rfl rfl
theorem E9p{d sz x lo hi mx}:go P (.dops ((E [],G,.slc d sz x lo hi mx)::its)::k) Q .normal (E σ)=go P (.ops [(G,.slc d sz x lo hi mx)]:: .dops its::k) Q .normal (E σ):=J8 rfl rfl
theorem E4b{d x lo hi}:go P (.dops ((E [],G,.sslc d x lo hi)::its)::k) Q .normal (E σ)=go P (.ops [(G,.sslc d x lo hi)]:: .dops its::k) Q .normal (E σ):=J8 rfl rfl
theorem D8l{d x off}:go P (.dops ((E [],G,.faddr d x off)::its)::k) Q .normal (E σ)=go P (.ops [(G,.faddr d x off)]:: .dops its::k) Q .normal (E σ):=J8 rfl rfl
theorem E1u{d x off g n}:go P (.dops ((E [],G,.field d x off g n)::its)::k) Q .normal (E σ)=go P (.ops [(G,.field d x off g n)]:: .dops its::k) Q .normal (E σ):=J8 rfl rfl
theorem E1r{d x i sz}:go P (.dops ((E [],G,.iaddr d x i sz)::its)::k) Q .normal (E σ)=go P (.ops [(G,.iaddr d x i sz)]:: .dops its::k) Q .normal (E σ):=J8 rfl rfl
theorem E0p{d x i len sz}:go P (.dops ((E [],G,.aaddr d x i len sz)::its)::k) Q .normal (E σ)=go P (.ops [(G,.aaddr d x i len sz)]:: .dops its::k) Q .normal (E σ):=J8 rfl rfl
theorem E8r{d x i}:go P (.dops ((E [],G,.idx d x i)::its)::k) Q .normal (E σ)=go P (.ops [(G,.idx d x i)]:: .dops its::k) Q .normal (E σ):=J8 rfl rfl
theorem E4w{d x i}:go P (.dops ((E [],G,.extr d x i)::its)::k) Q .normal (E σ)=go P (.ops [(G,.extr d x i)]:: .dops its::k) Q .normal (E σ):=J8 rfl rfl
theorem E49{d t x}:go P (.dops ((E [],G,.mkif d t x)::its)::k) Q .normal (E σ)=go P (.ops [(G,.mkif d t x)]:: .dops its::k) Q .normal (E σ):=J8 rfl rfl
theorem E5g{d x t zc}:go P (.dops ((E [],G,.tass d x t zc)::its)::k) Q .normal (E σ)=go P (.ops [(G,.tass d x t zc)]:: .dops its::k) Q .normal (E σ):=J8 rfl rfl
theorem E8n{d x}:go P (.dops ((E [],G,.len d x)::its)::k) Q .normal (E σ)=go P (.ops [(G,.len d x)]:: .dops its::k) Q .normal (E σ):=J8 rfl rfl
theorem E6y{d x}:go P (.dops ((E [],G,.slen d x)::its)::k) Q .normal (E σ)=go P (.ops [(G,.slen d x)]:: .dops its::k) Q .normal (E σ):=J8 rfl rfl
theorem E05{d x}:go P (.dops ((E [],G,.sconv d x)::its)::k) Q .normal (E σ)=go P (.ops [(G,.sconv d x)]:: .dops its::k) Q .normal (E σ):=J8 rfl rfl
theorem F2i{d m x y}:go P (.dops ((E [],G,.mm d m x y)::its)::k) Q .normal (E σ)=go P (.ops [(G,.mm d m x y)]:: .dops its::k) Q .normal (E σ):=J8 rfl rfl
theorem E7y{d f caps}:go P (.dops ((E [],G,.mkf d f caps)::its)::k) Q .normal (E σ)=go P (.ops [(G,.mkf d f caps)]:: .dops its::k) Q .normal (E σ):=J8 rfl rfl
theorem E73{d x}:go P (.dops ((E [],G,.box d x)::its)::k) Q .normal (E σ)=go P (.ops [(G,.box d x)]:: .dops its::k) Q .normal (E σ):=J8 rfl rfl
theorem E0f{d cs}:go P (.dops ((E [],G,.alloc d cs)::its)::k) Q .normal (E σ)=go P (.ops [(G,.alloc d cs)]:: .dops its::k) Q .normal (E σ):=J8 rfl rfl
theorem D57{d sz zs len ps}:go P (.dops ((E [],G,.bslice d sz zs len ps)::its)::k) Q .normal (E σ)=go P (.ops [(G,.bslice d sz zs len ps)]:: .dops its::k) Q .normal (E σ):=J8 rfl rfl
theorem E40{d sz b zs x y}:go P (.dops ((E [],G,.mksl d sz b zs x y)::its)::k) Q .normal (E σ)=go P (.ops [(G,.mksl d sz b zs x y)]:: .dops its::k) Q .normal (E σ):=J8 rfl rfl
theorem F8n{d x}:go P (.dops ((E (n::N),G,.mv d x)::its)::k) Q .normal (E σ)=go P (.dops its::k) Q .normal (W0 σ (n::N) (E d) ((σ.less (n::N)).step (.mv d x))):=M8 rfl
theorem E4j{d c a b}:go P (.dops ((E (n::N),G,.pick d c a b)::its)::k) Q .normal (E σ)=go P (.dops its::k) Q .normal (W0 σ (n::N) (E d) ((σ.less (n::N)).step (.pick d c a b))):=M8 rfl
theorem E0v{d zs ps}:go P (.dops ((E (n::N),G,.build d zs ps)::its)::k) Q .normal (E σ)=go P (.dops its::k) Q .normal (W0 σ (n::N) (E d) ((σ.less (n::N)).step (.build d zs ps))):=M8 rfl
theorem E5u{d x g m}:go P (.dops ((E (n::N),G,.load d x g m)::its)::k) Q .normal (E σ)=go P (.dops its::k) Q .normal (W0 σ (n::N) (E d) ((σ.less (n::N)).step (.load d x g m))):=M8 rfl
theorem E7g{d x}:go P (.dops ((E (n::N),G,.nilc d x)::its)::k) Q .normal (E σ)=go P (.dops its::k) Q .normal (W0 σ (n::N) (E d) ((σ.less (n::N)).step (.nilc d x))):=M8 rfl
theorem E9k{d op x y}:go P (.dops ((E (n::N),G,.bin d op x y)::its)::k) Q .normal (E σ)=go P (.dops its::k) Q .normal (W0 σ (n::N) (E d) ((σ.less (n::N)).step (.bin d op x y))):=M8 rfl
theorem E9d{d g ks x y}:go P (.dops ((E (n::N),G,.geq d g ks x y)::its)::k) Q .normal (E σ)=go P (.dops its::k) Q .normal (W0 σ (n::N) (E d) ((σ.less (n::N)).step (.geq d g ks x y))):=M8 rfl
theorem E9n{d g x y}:go P (.dops ((E (n::N),G,.beq d g x y)::its)::k) Q .normal (E σ)=go P (.dops its::k) Q .normal (W0 σ (n::N) (E d) ((σ.less (n::N)).step (.beq d g x y))):=M8 rfl
theorem F4s{d op x}:go P (.dops ((E (n::N),G,.un d op x)::its)::k) Q .normal (E σ)=go P (.dops its::k) Q .normal (W0 σ (n::N) (E d) ((σ.less (n::N)).step (.un d op x))):=M8 rfl
theorem E3i{d kd x}:go P (.dops ((E (n::N),G,.conv d kd x)::its)::k) Q .normal (E σ)=go P (.dops its::k) Q .normal (W0 σ (n::N) (E d) ((σ.less (n::N)).step (.conv d kd x))):=M8 rfl
theorem E7p{d sz x lo hi mx}:go P (.dops ((E (n::N),G,.slc d sz x lo hi mx)::its)::k) Q .normal (E σ)=go P (.dops its::k) Q .normal (W0 σ (n::N) (E d) ((σ.less (n::N)).step (.slc d sz x lo hi mx))):=M8 rfl
theorem E5p{d x lo hi}:go P (.dops ((E (n::N),G,.sslc d x lo hi)::its)::k) Q .normal (E σ)=go P (.dops its::k) Q .normal (W0 σ (n::N) (E d) ((σ.less (n::N)).step (.sslc d x lo hi))):=M8 rfl
theorem D9n{d x off}:go P (.dops ((E (n::N),G,.faddr d x off)::its)::k) Q .normal (E σ)=go P (.dops its::k) Q .normal (W0 σ (n::N) (E d) ((σ.less (n::N)).step (.faddr d x off))):=M8 rfl
theorem D84{d x off g m}:go P (.dops ((E (n::N),G,.field d x off g m)::its)::k) Q .normal (E σ)=go P (.dops its::k) Q .normal (W0 σ (n::N) (E d) ((σ.less (n::N)).step (.field d x off g m))):=M8 rfl
theorem E07{d x i sz}:go P (.dops ((E (n::N),G,.iaddr d x i sz)::its)::k) Q .normal (E σ)=go P (.dops its::k) Q .normal (W0 σ (n::N) (E d) ((σ.less (n::N)).step (.iaddr d x i sz))):=M8 rfl
theorem E0c{d x i len sz}:go P (.dops ((E (n::N),G,.aaddr d x i len sz)::its)::k) Q .normal (E σ)=go P (.dops its::k) Q .normal (W0 σ (n::N) (E d) ((σ.less (n::N)).step (.aaddr d x i len sz))):=M8 rfl
theorem E9z{d x i}:go P (.dops ((E (n::N),G,.idx d x i)::its)::k) Q .normal (E σ)=go P (.dops its::k) Q .normal (W0 σ (n::N) (E d) ((σ.less (n::N)).step (.idx d x i))):=M8 rfl
theorem E7i{d x i}:go P (.dops ((E (n::N),G,.extr d x i)::its)::k) Q .normal (E σ)=go P (.dops its::k) Q .normal (W0 σ (n::N) (E d) ((σ.less (n::N)).step (.extr d x i))):=M8 rfl
theorem E35{d t x}:go P (.dops ((E (n::N),G,.mkif d t x)::its)::k) Q .normal (E σ)=go P (.dops its::k) Q .normal (W0 σ (n::N) (E d) ((σ.less (n::N)).step (.mkif d t x))):=M8 rfl
theorem E6o{d x t zc}:go P (.dops ((E (n::N),G,.tass d x t zc)::its)::k) Q .normal (E σ)=go P (.dops its::k) Q .normal (W0 σ (n::N) (E d) ((σ.less (n::N)).step (.tass d x t zc))):=M8 rfl
theorem E8u{d x}:go P (.dops ((E (n::N),G,.len d x)::its)::k) Q .normal (E σ)=go P (.dops its::k) Q .normal (W0 σ (n::N) (E d) ((σ.less (n::N)).step (.len d x))):=M8 rfl
theorem E41{d x}:go P (.dops ((E (n::N),G,.slen d x)::its)::k) Q .normal (E σ)=go P (.dops its::k) Q .normal (W0 σ (n::N) (E d) ((σ.less (n::N)).step (.slen d x))):=M8 rfl
theorem E1z{d x}:go P (.dops ((E (n::N),G,.sconv d x)::its)::k) Q .normal (E σ)=go P (.dops its::k) Q .normal (W0 σ (n::N) (E d) ((σ.less (n::N)).step (.sconv d x))):=M8 rfl
theorem F1g{d m x y}:go P (.dops ((E (n::N),G,.mm d m x y)::its)::k) Q .normal (E σ)=go P (.dops its::k) Q .normal (W0 σ (n::N) (E d) ((σ.less (n::N)).step (.mm d m x y))):=M8 rfl
theorem E81{d f caps}:go P (.dops ((E (n::N),G,.mkf d f caps)::its)::k) Q .normal (E σ)=go P (.dops its::k) Q .normal (W0 σ (n::N) (E d) ((σ.less (n::N)).step (.mkf d f caps))):=M8 rfl
theorem D88{t:L}{o:AOp}{N:H L}:go P (.dops ((E N,E (t,T),o)::its)::k) Q .normal (E σ)=go P (.gdd (σ.get t) T (E N) o its::k) Q .normal (E σ):=by
 show G4 (E (t,T)) σ _ _=_
 rw[D02]
 show _=A0u _ _ _ _
 simp only[cond_true]
 congr 1<;>(cases o.dst<;>rfl)
theorem E2b{t:L}{o:AOp}{N:H L}:go P (.dops ((E N,E (t,F),o)::its)::k) Q .normal (E σ)=go P (.gdd (σ.get t) F (E N) o its::k) Q .normal (E σ):=by
 show G4 (E (t,F)) σ _ _=_
 rw[D0h]
 show _=A0u _ _ _ _
 simp only[cond_false]
 congr 1<;>(cases o.dst<;>rfl)
theorem F8h{b:Bool}{o:AOp}{N:Option (H L)}:go P (.gdd (.v (.sc (.dat (.bool b)))) b N o its::k) Q .normal (E σ)=go P (.dops ((N,G,o)::its)::k) Q .normal (E σ):=by
 cases b<;>simp[go,go0,A0u]
theorem F6d{o:AOp}{N:Option (H L)}:go P (.gdd (.v (.sc (.dat (.bool F)))) T N o its::k) Q .normal (E σ)=go P (.dops its::k) Q .normal (unw σ o.dst):=by
 simp only[go,go0,A0u,cond_true]
 cases o.dst<;>simp[A1a,unw]
theorem F6f{o:AOp}{N:Option (H L)}:go P (.gdd (.v (.sc (.dat (.bool T)))) F N o its::k) Q .normal (E σ)=go P (.dops its::k) Q .normal (unw σ o.dst):=by
 simp only[go,go0,A0u,cond_false]
 cases o.dst<;>simp[A1a,unw]
theorem F8g{w:Bool}{o:AOp}{N:Option (H L)}:go P (.gdd .no w N o its::k) Q .normal (E σ)=go P (.dops its::k) Q .normal (unw σ o.dst):=by
 simp only[go,go0,A0u]
 cases o.dst<;>simp[A1a,unw]
theorem D7h{w:Bool}{o:AOp}{its:H AItem}:go P (.gd .no w o its::k) Q .normal (E σ)=go P (.ops its::k) Q .normal (unw σ o.dst):=by
 simp only[go,go0,A0u]
 cases o.dst<;>simp[A1a,unw]
end
def A99(k:L):H L→Bool
 | []=>F
 | n::r=>bif k==n then T else A99 k r
def A7g{α:Type}(f:L→L)(N:H L):H (L × α)→H (L × α)
 | []=> []
 | (k,v)::r=>bif A99 (f k) N then A7g f N r else(k,v)::A7g f N r
theorem B3p(k:L):∀N:H L,A99 k N=N.contains k
 | []=>rfl
 | n::r=>by
  simp only[A99,O,B3p k r]
  cases k==n<;>rfl
theorem B9w{α:Type}(f:L→L)(N:H L):∀l:H (L × α),A7g f N l=l.filter fun p=> !N.contains (f p.1)
 | []=>rfl
 | (k,v)::r=>by
  simp only[A7g,B3p,List.filter_cons,B9w f N r]
  cases N.contains (f k)<;>rfl
theorem E6a{env bx rows}{n:L}{N:H L}:(St.mk env bx rows).less (n::N)=⟨env,A7g id (n::N) bx,A7g (· / 64) (n::N) rows⟩:=by
 rw[B9w,B9w]
 rfl
theorem E0s{k:L}:A99 k []=F:=rfl
theorem D8c{k n:L}{r:H L}:A99 k (n::r)=bif k==n then T else A99 k r:=rfl
theorem D96{α:Type}{f:L→L}{N:H L}:A7g f N ([]:H (L × α))= []:=rfl
theorem E5i{α:Type}{N:H L}{k:L}{v:α}{r:H (L × α)}:A7g id N ((k,v)::r)=bif A99 k N then A7g id N r else(k,v)::A7g id N r:=rfl
theorem E5y{α:Type}{N:H L}{k:L}{v:α}{r:H (L × α)}:A7g (· / 64) N ((k,v)::r)=bif A99 (k / 64) N then A7g (· / 64) N r else(k,v)::A7g (· / 64) N r:=rfl
theorem D7f{σ τ:St}{N:H L}{d:L}:W0 σ N (E d) (E τ)=bif (τ.get d).avoids N then E (σ.set d (τ.get d)) else G:=rfl
theorem D9a{σ:St}{d:L}:unw σ (E d)=E (σ.set d .no):=rfl
theorem E8t{N:H L}{d:D}:AV.avoids N (.v (.sc (.dat d)))=T:=by simp[AV.avoids,AV.cells,V1.cells,AC.avoids,AC.uses]
theorem F1a{N:H L}:AV.avoids N (.v (.sc .nil))=T:=by simp[AV.avoids,AV.cells,V1.cells,AC.avoids,AC.uses]
theorem E80{N:H L}{i:L}:AV.avoids N (.v (.sc (.own i)))= !A99 (i / 64) N:=by
 rw[B3p]
 induction N with
 | nil=>rfl
 | cons n N ih=>
  simp only[AV.avoids,AV.cells,V1.cells,AC.avoids,AC.uses,U,List.all_nil,V,O] at ih ⊢
  rw[ih]
  cases(i / 64==n)<;>simp
theorem F10{N:H L}{i o:L}:AV.avoids N (.v (.sc (.pb i o)))= !A99 i N:=by
 rw[B3p]
 induction N with
 | nil=>rfl
 | cons n N ih=>
  simp only[AV.avoids,AV.cells,V1.cells,AC.avoids,AC.uses,U,List.all_nil,V,O] at ih ⊢
  rw[ih]
  cases(i==n)<;>simp
theorem F3o{N:H L}{i x o:L}:AV.avoids N (.v (.sc (.pe i x o)))= !A99 (i / 64) N:=by
 rw[B3p]
 induction N with
 | nil=>rfl
 | cons n N ih=>
  simp only[AV.avoids,AV.cells,V1.cells,AC.avoids,AC.uses,U,List.all_nil,V,O] at ih ⊢
  rw[ih]
  cases(i / 64==n)<;>simp
theorem F0t{N:H L}:AV.avoids N (.v (.ag []))=T:=rfl
theorem F6t{N:H L}{c:AC}{cs:H AC}:AV.avoids N (.v (.ag (c::cs)))=((AV.v (.sc c)).avoids N&&(AV.v (.ag cs)).avoids N):=by simp[AV.avoids,AV.cells,V1.cells]
theorem D3q:(!F)=T:=rfl
theorem D7q:(!T)=F:=rfl
theorem E89:(T&&T)=T:=rfl
theorem E9r{d x}:AOp.dst (.mv d x)=E d:=rfl
theorem E18{d c a b}:AOp.dst (.pick d c a b)=E d:=rfl
theorem D72{d zs ps}:AOp.dst (.build d zs ps)=E d:=rfl
theorem D9j{d x g n}:AOp.dst (.load d x g n)=E d:=rfl
theorem E1q{d x}:AOp.dst (.nilc d x)=E d:=rfl
theorem E5b{d op x y}:AOp.dst (.bin d op x y)=E d:=rfl
theorem E34{d g ks x y}:AOp.dst (.geq d g ks x y)=E d:=rfl
theorem E3s{d g x y}:AOp.dst (.beq d g x y)=E d:=rfl
theorem E84{d op x}:AOp.dst (.un d op x)=E d:=rfl
theorem E0y{d kd x}:AOp.dst (.conv d kd x)=E d:=rfl
theorem E5f{d sz x lo hi mx}:AOp.dst (.slc d sz x lo hi mx)=E d:=rfl
theorem E19{d x lo hi}:AOp.dst (.sslc d x lo hi)=E d:=rfl
theorem D8a{d x off}:AOp.dst (.faddr d x off)=E d:=rfl
theorem D6x{d x off g n}:AOp.dst (.field d x off g n)=E d:=rfl
theorem D6a{d x i sz}:AOp.dst (.iaddr d x i sz)=E d:=rfl
theorem D6h{d x i len sz}:AOp.dst (.aaddr d x i len sz)=E d:=rfl
theorem E43{d x i}:AOp.dst (.idx d x i)=E d:=rfl
theorem E1x{d x i}:AOp.dst (.extr d x i)=E d:=rfl
theorem E1j{d t x}:AOp.dst (.mkif d t x)=E d:=rfl
theorem D87{d x t zc}:AOp.dst (.tass d x t zc)=E d:=rfl
theorem E30{d x}:AOp.dst (.len d x)=E d:=rfl
theorem D9o{d x}:AOp.dst (.slen d x)=E d:=rfl
theorem D7z{d x}:AOp.dst (.sconv d x)=E d:=rfl
theorem E8k{d m x y}:AOp.dst (.mm d m x y)=E d:=rfl
theorem E64{d f caps}:AOp.dst (.mkf d f caps)=E d:=rfl
theorem E5x{d x}:AOp.dst (.box d x)=E d:=rfl
theorem D7o{d cs}:AOp.dst (.alloc d cs)=E d:=rfl
theorem D2s{d sz zs len ps}:AOp.dst (.bslice d sz zs len ps)=E d:=rfl
theorem D8p{d sz b zs x y}:AOp.dst (.mksl d sz b zs x y)=E d:=rfl
theorem D8t{d f args}:AOp.dst (.call d f args)=E d:=rfl
theorem D7e{d x args}:AOp.dst (.callv d x args)=E d:=rfl
def F59(rs:H R1):Bool:=(rs.flatMap R1.cells).all fun | .v d=>d.flat | .o _ _=>F
theorem R5{rs:H R1}(h:F59 rs=T):A4s rs:=by
 intro c hc
 have:=List.all_eq_true.1 h c hc
 cases c with
 | v d=>exact this
 | o=>cases this
end Go.Vi
