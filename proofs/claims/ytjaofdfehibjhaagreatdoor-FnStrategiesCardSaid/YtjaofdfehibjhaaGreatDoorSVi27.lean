/-
The value level. No condition.
-/
import Derived.Test.YtjaofdfehibjhaaGreatDoorSVi26
namespace Go.Vi
set_option linter.all false
open List renaming contains_cons → O, all_cons → U
open Bool renaming and_true → V, true → T, false → F
open Option renaming some → E, none → G
open _root_ renaming List → H, Nat → L
section
variable {P : Program}
end
theorem E00{α:Type}{n:L}:A3 ([]:H (L × α)) n=G:=rfl
theorem D7r{α:Type}{k n:L}{v:α}{r:H (L × α)}:A3 ((k,v)::r) n=bif k==n then E v else A3 r n:=rfl
theorem E6a{α:Type}{n:L}{v:α}:put ([]:H (L × α)) n v= [(n,v)]:=rfl
theorem E1v{α:Type}{k n:L}{u v:α}{r:H (L × α)}:put ((k,u)::r) n v=bif k==n then(k,v)::r else(k,u)::put r n v:=rfl
theorem F7q{σ:St}{n:L}:σ.val (.t n)=σ.get n:=rfl
theorem F10{σ:St}{v:AV}:σ.val (.c v)=v:=rfl
theorem F1g{env bx rows}{k:L}:(St.mk env bx rows).get k=(A3 env k).getD .undef:=rfl
theorem F1j{env bx rows}{k:L}{v:AV}:(St.mk env bx rows).set k v=⟨put env k v,bx,rows⟩:=rfl
theorem getD_some{α:Type}{a b:α}:(E a).getD b=a:=rfl
theorem D6k{α:Type}{b:α}:(G:Option α).getD b=b:=rfl
theorem map_some{α β:Type}{f:α→β}{a:α}:(E a).map f=E (f a):=rfl
theorem map_none{α β:Type}{f:α→β}:(G:Option α).map f=G:=rfl
theorem F7h{α:Type}{a b:α}:cond T a b=a:=rfl
theorem F7a{α:Type}{a b:α}:cond F a b=b:=rfl
theorem E1y{s:H UInt8}:B7m (.v (.sc (.dat (.str s))))=E (.v (.sc (.dat (.int .i64 s.length)))):=rfl
theorem F0p{rs:Rows}{es:H (H D)}:B1u rs (.v (.sc (.dat (.sl es))))=E (.v (.sc (.dat (.int .i64 es.length)))):=rfl
theorem D82{rs:Rows}{es:H (H D)}:B0e rs (.v (.sc (.dat (.sl es))))=(A3z es).map fun b=> .v (.sc (.dat (.str b))):=rfl
theorem D7x{rs:Rows}{id:L}:B0e rs (.v (.sc (.own id)))=match A3 rs id with | some (_,es)=>(A3z es).map fun b=> .v (.sc (.dat (.str b))) | none=>G:=rfl
theorem E4z{rs:Rows}:B1u rs (.v (.sc .nil))=E (.v (.sc (.dat (.int .i64 0)))):=rfl
theorem D8q{k k':IntKind}{n:Int}:D2m k (.v (.sc (.dat (.int k' n))))=E (.v (.sc (.dat (.int k (k.wrap n))))):=rfl
theorem E6g{op:BinOp}{k:IntKind}{x y:Int}:A55 op (.v (.sc (.dat (.int k x)))) (.v (.sc (.dat (.int k y))))=(N6 op k x y).map fun d=> .v (.sc (.dat d)):=by simp[A55]
theorem E3x{op:BinOp}{x y:H UInt8}:A55 op (.v (.sc (.dat (.str x)))) (.v (.sc (.dat (.str y))))=(B6z op x y).map fun d=> .v (.sc (.dat d)):=rfl
theorem E3z{k:IntKind}{x y:Int}:N6 .add k x y=E (.int k (k.wrap (x+y))):=rfl
theorem E6v{k:IntKind}{x y:Int}:N6 .sub k x y=E (.int k (k.wrap (x - y))):=rfl
theorem E4j{k:IntKind}{x y:Int}:N6 .mul k x y=E (.int k (k.wrap (x*y))):=rfl
theorem E5o{k:IntKind}{x y:Int}:N6 .quo k x y=bif y==0 then G else E (.int k (k.wrap (x.tdiv y))):=by
 by_cases h:y=0
 ·simp[N6,h]
 ·have h':(y==0)=F:=by simpa using h
  simp[N6,h,h']
theorem E67{k:IntKind}{x y:Int}:N6 .rem k x y=bif y==0 then G else E (.int k (k.wrap (x.tmod y))):=by
 by_cases h:y=0
 ·simp[N6,h]
 ·have h':(y==0)=F:=by simpa using h
  simp[N6,h,h']
theorem E4t{k:IntKind}{x y:Int}:N6 .eql k x y=E (.bool (x==y)):=rfl
theorem E7l{k:IntKind}{x y:Int}:N6 .neq k x y=E (.bool (x !=y)):=rfl
theorem E5g{k:IntKind}{x y:Int}:N6 .lss k x y=E (.bool (decide (x<y))):=rfl
theorem E5j{k:IntKind}{x y:Int}:N6 .leq k x y=E (.bool (decide (x≤y))):=rfl
theorem E34{k:IntKind}{x y:Int}:N6 .gtr k x y=E (.bool (decide (y<x))):=rfl
theorem E42{k:IntKind}{x y:Int}:N6 .geq k x y=E (.bool (decide (y≤x))):=rfl
theorem E7n{x y:H UInt8}:B6z .eql x y=E (.bool (x==y)):=rfl
theorem E7v{x y:H UInt8}:B6z .neq x y=E (.bool (!(x==y))):=rfl
theorem E74{b:Bool}:unV .not (.v (.sc (.dat (.bool b))))=E (.v (.sc (.dat (.bool (!b))))):=rfl
theorem E6u{s:H UInt8}{k:IntKind}{i:Int}:C2g (.v (.sc (.dat (.str s)))) (.v (.sc (.dat (.int k i))))=(ix s i).map fun b=> .v (.sc (.dat (.int .u8 b.toNat))):=rfl
theorem F1c{α:Type}{l:H α}{i:L}(h:i<l.length):ix l (i:Int)=E l[i]:=by simp[ix,h]
theorem E0w{off:L}{g:Bool}{n:L}{cs:H AC}:B0p off g n (.v (.ag cs))=A39 cs off g n:=rfl
theorem E5e{cs:H AC}{off n:L}:A39 cs off F n=(cs[off]?).map fun c=> .v (.sc c):=rfl
theorem E5b{env bx rows}{d:L}{rs:H R1}:(St.mk env bx rows).inst d rs=⟨put env d (P7 d rs),bx,N5 rows (S9 d rs)⟩:=rfl
theorem C9k{g:L}{r:R1}:P7 g [r]= .v (r.inst g 0):=rfl
theorem C9x{g:L}{r r':R1}{rs:H R1}:P7 g (r::r'::rs)= .tup (A18 g 0 (r::r'::rs)):=rfl
theorem C80{g j:L}:A18 g j []= []:=rfl
theorem C4x{g j:L}{r:R1}{rs:H R1}:A18 g j (r::rs)=r.inst g j::A18 g (j+r.width) rs:=rfl
theorem E1b{c:RC}:R1.width (.sc c)=1:=rfl
theorem E1q{cs:H RC}:R1.width (.ag cs)=cs.length:=rfl
theorem F0d{g j:L}{d:D}:RC.inst g j (.v d)= .dat d:=rfl
theorem E8v{g j sz:L}{es:H (H D)}:RC.inst g j (.o sz es)= .own (g*64+j):=rfl
theorem E5p{g j:L}{c:RC}:R1.inst g j (.sc c)= .sc (c.inst g j):=rfl
theorem E7i{g j:L}{cs:H RC}:R1.inst g j (.ag cs)= .ag (A2s g j cs):=rfl
theorem C4y{g j:L}:A2s g j []= []:=rfl
theorem C2y{g j:L}{c:RC}{cs:H RC}:A2s g j (c::cs)=c.inst g j::A2s g (j+1) cs:=rfl
theorem D0j{g:L}:S9 g []= []:=rfl
theorem C90{g:L}{r:R1}:S9 g [r]=K5 g 0 r.cells:=by simp[S9]
theorem C9u{g:L}{r r':R1}:S9 g [r,r']=K5 g 0 (r.cells++r'.cells):=by simp[S9]
theorem D9y{c:RC}:R1.cells (.sc c)= [c]:=rfl
theorem E0t{cs:H RC}:R1.cells (.ag cs)=cs:=rfl
theorem C40{g j:L}:K5 g j []= []:=rfl
theorem C9o{g j:L}{d:D}{cs:H RC}:K5 g j (.v d::cs)=K5 g (j+1) cs:=rfl
theorem C92{g j sz:L}{es:H (H D)}{cs:H RC}:K5 g j (.o sz es::cs)=(g*64+j,sz,es)::K5 g (j+1) cs:=rfl
theorem D1o{rows:Rows}:N5 rows []=rows:=rfl
theorem D0d{rows r:Rows}{k:L}{x:L × H (H D)}:N5 rows ((k,x)::r)=put (N5 rows r) k x:=rfl
theorem E5i{α:Type}{l:H α}: []++l=l:=rfl
theorem D9d{α:Type}{a:α}{l m:H α}:(a::l)++m=a::(l++m):=rfl
theorem D8t{x:Int}:(x !=x)=F:=by simp
theorem E0s{x:Int}:(x==x)=T:=by simp
section
variable {P : Program} {k : H Fr} {Q : Xo → St → Prop} {σ : St} {its : H Q7} {n : L} {N : H L}
theorem F9g{d x}:go P (.dops ((E [],G,.mv d x)::its)::k) Q .normal (E σ)=go P (.ops [(G,.mv d x)]:: .dops its::k) Q .normal (E σ):=J8 rfl rfl
theorem E36{d c a b}:go P (.dops ((E [],G,.pick d c a b)::its)::k) Q .normal (E σ)=go P (.ops [(G,.pick d c a b)]:: .dops its::k) Q .normal (E σ):=J8 rfl rfl
theorem E2e{d zs ps}:go P (.dops ((E [],G,.build d zs ps)::its)::k) Q .normal (E σ)=go P (.ops [(G,.build d zs ps)]:: .dops its::k) Q .normal (E σ):=J8 rfl rfl
theorem E4d{d x g n}:go P (.dops ((E [],G,.load d x g n)::its)::k) Q .normal (E σ)=go P (.ops [(G,.load d x g n)]:: .dops its::k) Q .normal (E σ):=J8 rfl rfl
theorem E50{d x}:go P (.dops ((E [],G,.nilc d x)::its)::k) Q .normal (E σ)=go P (.ops [(G,.nilc d x)]:: .dops its::k) Q .normal (E σ):=J8 rfl rfl
theorem E8a{d op x y}:go P (.dops ((E [],G,.bin d op x y)::its)::k) Q .normal (E σ)=go P (.ops [(G,.bin d op x y)]:: .dops its::k) Q .normal (E σ):=J8 rfl rfl
theorem E98{d g ks x y}:go P (.dops ((E [],G,.geq d g ks x y)::its)::k) Q .normal (E σ)=go P (.ops [(G,.geq d g ks x y)]:: .dops its::k) Q .normal (E σ):=J8 rfl rfl
theorem F09{d g x y}:go P (.dops ((E [],G,.beq d g x y)::its)::k) Q .normal (E σ)=go P (.ops [(G,.beq d g x y)]:: .dops its::k) Q .normal (E σ):=J8 rfl rfl
theorem F7z{d op x}:go P (.dops ((E [],G,.un d op x)::its)::k) Q .normal (E σ)=go P (.ops [(G,.un d op x)]:: .dops its::k) Q .normal (E σ):=J8 rfl rfl
theorem E41{d kd x}:go P (.dops ((E [],G,.conv d kd x)::its)::k) Q .normal (E σ)=go P (.ops [(G,.conv d kd x)]:: .dops its::k) Q .normal (E σ):=J8 rfl rfl
theorem E78{d sz x lo hi mx}:go P (.dops ((E [],G,.slc d sz x lo hi mx)::its)::k) Q .normal (E σ)=go P (.ops [(G,.slc d sz x lo hi mx)]:: .dops its::k) Q .normal (E σ):=J8 rfl rfl
theorem E7z{d x lo hi}:go P (.dops ((E [],G,.sslc d x lo hi)::its)::k) Q .normal (E σ)=go P (.ops [(G,.sslc d x lo hi)]:: .dops its::k) Q .normal (E σ):=J8 rfl rfl
theorem E1p{d x off}:go P (.dops ((E [],G,.faddr d x off)::its)::k) Q .normal (E σ)=go P (.ops [(G,.faddr d x off)]:: .dops its::k) Q .normal (E σ):=J8 rfl rfl
theorem E0g{d x off g n}:go P (.dops ((E [],G,.field d x off g n)::its)::k) Q .normal (E σ)=go P (.ops [(G,.field d x off g n)]:: .dops its::k) Q .normal (E σ):=J8 rfl rfl
theorem D9z{d x i sz}:go P (.dops ((E [],G,.iaddr d x i sz)::its)::k) Q .normal (E σ)=go P (.ops [(G,.iaddr d x i sz)]:: .dops its::k) Q .normal (E σ):=J8 rfl rfl
theorem D8p{d x i len sz}:go P (.dops ((E [],G,.aaddr d x i len sz)::its)::k) Q .normal (E σ)=go P (.ops [(G,.aaddr d x i len sz)]:: .dops its::k) Q .normal (E σ):=J8 rfl rfl
theorem E8w{d x i}:go P (.dops ((E [],G,.idx d x i)::its)::k) Q .normal (E σ)=go P (.ops [(G,.idx d x i)]:: .dops its::k) Q .normal (E σ):=J8 rfl rfl
theorem E5v{d x i}:go P (.dops ((E [],G,.extr d x i)::its)::k) Q .normal (E σ)=go P (.ops [(G,.extr d x i)]:: .dops its::k) Q .normal (E σ):=J8 rfl rfl
theorem E7j{d t x}:go P (.dops ((E [],G,.mkif d t x)::its)::k) Q .normal (E σ)=go P (.ops [(G,.mkif d t x)]:: .dops its::k) Q .normal (E σ):=J8 rfl rfl
theorem E7d{d x t zc}:go P (.dops ((E [],G,.tass d x t zc)::its)::k) Q .normal (E σ)=go P (.ops [(G,.tass d x t zc)]:: .dops its::k) Q .normal (E σ):=J8 rfl rfl
theorem F0j{d x}:go P (.dops ((E [],G,.len d x)::its)::k) Q .normal (E σ)=go P (.ops [(G,.len d x)]:: .dops its::k) Q .normal (E σ):=J8 rfl rfl
theorem E6c{d x}:go P (.dops ((E [],G,.slen d x)::its)::k) Q .normal (E σ)=go P (.ops [(G,.slen d x)]:: .dops its::k) Q .normal (E σ):=J8 rfl rfl
theorem E05{d x}:go P (.dops ((E [],G,.sconv d x)::its)::k) Q .normal (E σ)=go P (.ops [(G,.sconv d x)]:: .dops its::k) Q .normal (E σ):=J8 rfl rfl
theorem F19{d m x y}:go P (.dops ((E [],G,.mm d m x y)::its)::k) Q .normal (E σ)=go P (.ops [(G,.mm d m x y)]:: .dops its::k) Q .normal (E σ):=J8 rfl rfl
theorem E8n{d f caps}:go P (.dops ((E [],G,.mkf d f caps)::its)::k) Q .normal (E σ)=go P (.ops [(G,.mkf d f caps)]:: .dops its::k) Q .normal (E σ):=J8 rfl rfl
theorem E88{d x}:go P (.dops ((E [],G,.box d x)::its)::k) Q .normal (E σ)=go P (.ops [(G,.box d x)]:: .dops its::k) Q .normal (E σ):=J8 rfl rfl
theorem D8w{d cs}:go P (.dops ((E [],G,.alloc d cs)::its)::k) Q .normal (E σ)=go P (.ops [(G,.alloc d cs)]:: .dops its::k) Q .normal (E σ):=J8 rfl rfl
theorem D6x{d sz zs len ps}:go P (.dops ((E [],G,.bslice d sz zs len ps)::its)::k) Q .normal (E σ)=go P (.ops [(G,.bslice d sz zs len ps)]:: .dops its::k) Q .normal (E σ):=J8 rfl rfl
theorem E3y{d sz b zs x y}:go P (.dops ((E [],G,.mksl d sz b zs x y)::its)::k) Q .normal (E σ)=go P (.ops [(G,.mksl d sz b zs x y)]:: .dops its::k) Q .normal (E σ):=J8 rfl rfl
theorem F3s{d x}:go P (.dops ((E (n::N),G,.mv d x)::its)::k) Q .normal (E σ)=go P (.dops its::k) Q .normal (Y5 σ (n::N) (E d) ((σ.less (n::N)).step (.mv d x))):=N0 rfl
theorem E43{d c a b}:go P (.dops ((E (n::N),G,.pick d c a b)::its)::k) Q .normal (E σ)=go P (.dops its::k) Q .normal (Y5 σ (n::N) (E d) ((σ.less (n::N)).step (.pick d c a b))):=N0 rfl
theorem D83{d zs ps}:go P (.dops ((E (n::N),G,.build d zs ps)::its)::k) Q .normal (E σ)=go P (.dops its::k) Q .normal (Y5 σ (n::N) (E d) ((σ.less (n::N)).step (.build d zs ps))):=N0 rfl
theorem E52{d x g m}:go P (.dops ((E (n::N),G,.load d x g m)::its)::k) Q .normal (E σ)=go P (.dops its::k) Q .normal (Y5 σ (n::N) (E d) ((σ.less (n::N)).step (.load d x g m))):=N0 rfl
theorem E7t{d x}:go P (.dops ((E (n::N),G,.nilc d x)::its)::k) Q .normal (E σ)=go P (.dops its::k) Q .normal (Y5 σ (n::N) (E d) ((σ.less (n::N)).step (.nilc d x))):=N0 rfl
theorem F1b{d op x y}:go P (.dops ((E (n::N),G,.bin d op x y)::its)::k) Q .normal (E σ)=go P (.dops its::k) Q .normal (Y5 σ (n::N) (E d) ((σ.less (n::N)).step (.bin d op x y))):=N0 rfl
theorem E9n{d g ks x y}:go P (.dops ((E (n::N),G,.geq d g ks x y)::its)::k) Q .normal (E σ)=go P (.dops its::k) Q .normal (Y5 σ (n::N) (E d) ((σ.less (n::N)).step (.geq d g ks x y))):=N0 rfl
theorem F1q{d g x y}:go P (.dops ((E (n::N),G,.beq d g x y)::its)::k) Q .normal (E σ)=go P (.dops its::k) Q .normal (Y5 σ (n::N) (E d) ((σ.less (n::N)).step (.beq d g x y))):=N0 rfl
theorem F7g{d op x}:go P (.dops ((E (n::N),G,.un d op x)::its)::k) Q .normal (E σ)=go P (.dops its::k) Q .normal (Y5 σ (n::N) (E d) ((σ.less (n::N)).step (.un d op x))):=N0 rfl
theorem E5f{d kd x}:go P (.dops ((E (n::N),G,.conv d kd x)::its)::k) Q .normal (E σ)=go P (.dops its::k) Q .normal (Y5 σ (n::N) (E d) ((σ.less (n::N)).step (.conv d kd x))):=N0 rfl
theorem E9k{d sz x lo hi mx}:go P (.dops ((E (n::N),G,.slc d sz x lo hi mx)::its)::k) Q .normal (E σ)=go P (.dops its::k) Q .normal (Y5 σ (n::N) (E d) ((σ.less (n::N)).step (.slc d sz x lo hi mx))):=N0 rfl
theorem E6f{d x lo hi}:go P (.dops ((E (n::N),G,.sslc d x lo hi)::its)::k) Q .normal (E σ)=go P (.dops its::k) Q .normal (Y5 σ (n::N) (E d) ((σ.less (n::N)).step (.sslc d x lo hi))):=N0 rfl
theorem E17{d x off}:go P (.dops ((E (n::N),G,.faddr d x off)::its)::k) Q .normal (E σ)=go P (.dops its::k) Q .normal (Y5 σ (n::N) (E d) ((σ.less (n::N)).step (.faddr d x off))):=N0 rfl
theorem E10{d x off g m}:go P (.dops ((E (n::N),G,.field d x off g m)::its)::k) Q .normal (E σ)=go P (.dops its::k) Q .normal (Y5 σ (n::N) (E d) ((σ.less (n::N)).step (.field d x off g m))):=N0 rfl
theorem D9r{d x i sz}:go P (.dops ((E (n::N),G,.iaddr d x i sz)::its)::k) Q .normal (E σ)=go P (.dops its::k) Q .normal (Y5 σ (n::N) (E d) ((σ.less (n::N)).step (.iaddr d x i sz))):=N0 rfl
theorem E1o{d x i len sz}:go P (.dops ((E (n::N),G,.aaddr d x i len sz)::its)::k) Q .normal (E σ)=go P (.dops its::k) Q .normal (Y5 σ (n::N) (E d) ((σ.less (n::N)).step (.aaddr d x i len sz))):=N0 rfl
theorem E8l{d x i}:go P (.dops ((E (n::N),G,.idx d x i)::its)::k) Q .normal (E σ)=go P (.dops its::k) Q .normal (Y5 σ (n::N) (E d) ((σ.less (n::N)).step (.idx d x i))):=N0 rfl
theorem E45{d x i}:go P (.dops ((E (n::N),G,.extr d x i)::its)::k) Q .normal (E σ)=go P (.dops its::k) Q .normal (Y5 σ (n::N) (E d) ((σ.less (n::N)).step (.extr d x i))):=N0 rfl
theorem E4f{d t x}:go P (.dops ((E (n::N),G,.mkif d t x)::its)::k) Q .normal (E σ)=go P (.dops its::k) Q .normal (Y5 σ (n::N) (E d) ((σ.less (n::N)).step (.mkif d t x))):=N0 rfl
theorem E5u{d x t zc}:go P (.dops ((E (n::N),G,.tass d x t zc)::its)::k) Q .normal (E σ)=go P (.dops its::k) Q .normal (Y5 σ (n::N) (E d) ((σ.less (n::N)).step (.tass d x t zc))):=N0 rfl
theorem F0f{d x}:go P (.dops ((E (n::N),G,.len d x)::its)::k) Q .normal (E σ)=go P (.dops its::k) Q .normal (Y5 σ (n::N) (E d) ((σ.less (n::N)).step (.len d x))):=N0 rfl
theorem E7k{d x}:go P (.dops ((E (n::N),G,.slen d x)::its)::k) Q .normal (E σ)=go P (.dops its::k) Q .normal (Y5 σ (n::N) (E d) ((σ.less (n::N)).step (.slen d x))):=N0 rfl
theorem D8x{d x}:go P (.dops ((E (n::N),G,.sconv d x)::its)::k) Q .normal (E σ)=go P (.dops its::k) Q .normal (Y5 σ (n::N) (E d) ((σ.less (n::N)).step (.sconv d x))):=N0 rfl
theorem F2m{d m x y}:go P (.dops ((E (n::N),G,.mm d m x y)::its)::k) Q .normal (E σ)=go P (.dops its::k) Q .normal (Y5 σ (n::N) (E d) ((σ.less (n::N)).step (.mm d m x y))):=N0 rfl
theorem E9h{d f caps}:go P (.dops ((E (n::N),G,.mkf d f caps)::its)::k) Q .normal (E σ)=go P (.dops its::k) Q .normal (Y5 σ (n::N) (E d) ((σ.less (n::N)).step (.mkf d f caps))):=N0 rfl
theorem E2c{t:L}{o:AOp}{N:H L}:go P (.dops ((E N,E (t,T),o)::its)::k) Q .normal (E σ)=go P (.gdd (σ.get t) T (E N) o its::k) Q .normal (E σ):=by
 show G7 (E (t,T)) σ _ _=_
 rw[D06]
 show _=A09 _ _ _ _
 simp only[cond_true]
 congr 1<;>(cases o.dst<;>rfl)
theorem D98{t:L}{o:AOp}{N:H L}:go P (.dops ((E N,E (t,F),o)::its)::k) Q .normal (E σ)=go P (.gdd (σ.get t) F (E N) o its::k) Q .normal (E σ):=by
 show G7 (E (t,F)) σ _ _=_
 rw[D0r]
 show _=A09 _ _ _ _
 simp only[cond_false]
 congr 1<;>(cases o.dst<;>rfl)
theorem F2x{b:Bool}{o:AOp}{N:Option (H L)}:go P (.gdd (.v (.sc (.dat (.bool b)))) b N o its::k) Q .normal (E σ)=go P (.dops ((N,G,o)::its)::k) Q .normal (E σ):=by
 cases b<;>simp[go,go0,A09]
theorem F5r{o:AOp}{N:Option (H L)}:go P (.gdd (.v (.sc (.dat (.bool F)))) T N o its::k) Q .normal (E σ)=go P (.dops its::k) Q .normal (unw σ o.dst):=by
 simp only[go,go0,A09,cond_true]
 cases o.dst<;>simp[A1k,unw]
theorem F45{o:AOp}{N:Option (H L)}:go P (.gdd (.v (.sc (.dat (.bool T)))) F N o its::k) Q .normal (E σ)=go P (.dops its::k) Q .normal (unw σ o.dst):=by
 simp only[go,go0,A09,cond_false]
 cases o.dst<;>simp[A1k,unw]
theorem F8y{w:Bool}{o:AOp}{N:Option (H L)}:go P (.gdd .no w N o its::k) Q .normal (E σ)=go P (.dops its::k) Q .normal (unw σ o.dst):=by
 simp only[go,go0,A09]
 cases o.dst<;>simp[A1k,unw]
theorem D7s{w:Bool}{o:AOp}{its:H AItem}:go P (.gd .no w o its::k) Q .normal (E σ)=go P (.ops its::k) Q .normal (unw σ o.dst):=by
 simp only[go,go0,A09]
 cases o.dst<;>simp[A1k,unw]
end
def B0x(k:L):H L→Bool
 | []=>F
 | n::r=>bif k==n then T else B0x k r
def A78{α:Type}(f:L→L)(N:H L):H (L × α)→H (L × α)
 | []=> []
 | (k,v)::r=>bif B0x (f k) N then A78 f N r else(k,v)::A78 f N r
theorem B3z(k:L):∀N:H L,B0x k N=N.contains k
 | []=>rfl
 | n::r=>by
  simp only[B0x,O,B3z k r]
  cases k==n<;>rfl
theorem B9y{α:Type}(f:L→L)(N:H L):∀l:H (L × α),A78 f N l=l.filter fun p=> !N.contains (f p.1)
 | []=>rfl
 | (k,v)::r=>by
  simp only[A78,B3z,List.filter_cons,B9y f N r]
  cases N.contains (f k)<;>rfl
theorem E6t{env bx rows}{n:L}{N:H L}:(St.mk env bx rows).less (n::N)=⟨env,A78 id (n::N) bx,A78 (· / 64) (n::N) rows⟩:=by
 rw[B9y,B9y]
 rfl
theorem E0b{k:L}:B0x k []=F:=rfl
theorem D57{k n:L}{r:H L}:B0x k (n::r)=bif k==n then T else B0x k r:=rfl
theorem E2b{α:Type}{f:L→L}{N:H L}:A78 f N ([]:H (L × α))= []:=rfl
theorem E4x{α:Type}{N:H L}{k:L}{v:α}{r:H (L × α)}:A78 id N ((k,v)::r)=bif B0x k N then A78 id N r else(k,v)::A78 id N r:=rfl
theorem E6y{α:Type}{N:H L}{k:L}{v:α}{r:H (L × α)}:A78 (· / 64) N ((k,v)::r)=bif B0x (k / 64) N then A78 (· / 64) N r else(k,v)::A78 (· / 64) N r:=rfl
theorem D8l{σ τ:St}{N:H L}{d:L}:Y5 σ N (E d) (E τ)=bif (τ.get d).avoids N then E (σ.set d (τ.get d)) else G:=rfl
theorem D80{σ:St}{d:L}:unw σ (E d)=E (σ.set d .no):=rfl
theorem E8x{N:H L}{d:D}:AV.avoids N (.v (.sc (.dat d)))=T:=by simp[AV.avoids,AV.cells,V1.cells,AC.avoids,AC.uses]
theorem E79{N:H L}:AV.avoids N (.v (.sc .nil))=T:=by simp[AV.avoids,AV.cells,V1.cells,AC.avoids,AC.uses]
theorem F0m{N:H L}{i:L}:AV.avoids N (.v (.sc (.own i)))= !B0x (i / 64) N:=by
 rw[B3z]
 induction N with
 | nil=>rfl
 | cons n N ih=>
  simp only[AV.avoids,AV.cells,V1.cells,AC.avoids,AC.uses,U,List.all_nil,V,O] at ih ⊢
  rw[ih]
  cases(i / 64==n)<;>simp
theorem F3x{N:H L}{i o:L}:AV.avoids N (.v (.sc (.pb i o)))= !B0x i N:=by
 rw[B3z]
 induction N with
 | nil=>rfl
 | cons n N ih=>
  simp only[AV.avoids,AV.cells,V1.cells,AC.avoids,AC.uses,U,List.all_nil,V,O] at ih ⊢
  rw[ih]
  cases(i==n)<;>simp
theorem F3i{N:H L}{i x o:L}:AV.avoids N (.v (.sc (.pe i x o)))= !B0x (i / 64) N:=by
 rw[B3z]
 induction N with
 | nil=>rfl
 | cons n N ih=>
  simp only[AV.avoids,AV.cells,V1.cells,AC.avoids,AC.uses,U,List.all_nil,V,O] at ih ⊢
  rw[ih]
  cases(i / 64==n)<;>simp
theorem E9c{N:H L}:AV.avoids N (.v (.ag []))=T:=rfl
theorem F73{N:H L}{c:AC}{cs:H AC}:AV.avoids N (.v (.ag (c::cs)))=((AV.v (.sc c)).avoids N&&(AV.v (.ag cs)).avoids N):=by simp[AV.avoids,AV.cells,V1.cells]
theorem D4v:(!F)=T:=rfl
theorem D7t:(!T)=F:=rfl
theorem F0h:(T&&T)=T:=rfl
theorem E76{d x}:AOp.dst (.mv d x)=E d:=rfl
theorem E1c{d c a b}:AOp.dst (.pick d c a b)=E d:=rfl
theorem D78{d zs ps}:AOp.dst (.build d zs ps)=E d:=rfl
theorem E11{d x g n}:AOp.dst (.load d x g n)=E d:=rfl
theorem D8u{d x}:AOp.dst (.nilc d x)=E d:=rfl
theorem E7m{d op x y}:AOp.dst (.bin d op x y)=E d:=rfl
theorem E46{d g ks x y}:AOp.dst (.geq d g ks x y)=E d:=rfl
theorem E4s{d g x y}:AOp.dst (.beq d g x y)=E d:=rfl
theorem F00{d op x}:AOp.dst (.un d op x)=E d:=rfl
theorem D8z{d kd x}:AOp.dst (.conv d kd x)=E d:=rfl
theorem E61{d sz x lo hi mx}:AOp.dst (.slc d sz x lo hi mx)=E d:=rfl
theorem D97{d x lo hi}:AOp.dst (.sslc d x lo hi)=E d:=rfl
theorem D59{d x off}:AOp.dst (.faddr d x off)=E d:=rfl
theorem D64{d x off g n}:AOp.dst (.field d x off g n)=E d:=rfl
theorem D7j{d x i sz}:AOp.dst (.iaddr d x i sz)=E d:=rfl
theorem D6f{d x i len sz}:AOp.dst (.aaddr d x i len sz)=E d:=rfl
theorem E5y{d x i}:AOp.dst (.idx d x i)=E d:=rfl
theorem E2k{d x i}:AOp.dst (.extr d x i)=E d:=rfl
theorem D9q{d t x}:AOp.dst (.mkif d t x)=E d:=rfl
theorem D96{d x t zc}:AOp.dst (.tass d x t zc)=E d:=rfl
theorem E58{d x}:AOp.dst (.len d x)=E d:=rfl
theorem D9b{d x}:AOp.dst (.slen d x)=E d:=rfl
theorem D6n{d x}:AOp.dst (.sconv d x)=E d:=rfl
theorem E9o{d m x y}:AOp.dst (.mm d m x y)=E d:=rfl
theorem E7f{d f caps}:AOp.dst (.mkf d f caps)=E d:=rfl
theorem E5q{d x}:AOp.dst (.box d x)=E d:=rfl
theorem D63{d cs}:AOp.dst (.alloc d cs)=E d:=rfl
theorem D1v{d sz zs len ps}:AOp.dst (.bslice d sz zs len ps)=E d:=rfl
theorem E2d{d sz b zs x y}:AOp.dst (.mksl d sz b zs x y)=E d:=rfl
theorem D90{d f args}:AOp.dst (.call d f args)=E d:=rfl
theorem D7p{d x args}:AOp.dst (.callv d x args)=E d:=rfl
def F8b(rs:H R1):Bool:=(rs.flatMap R1.cells).all fun | .v d=>d.flat | .o _ _=>F
theorem N9{rs:H R1}(h:F8b rs=T):A5c rs:=by
 intro c hc
 have:=List.all_eq_true.1 h c hc
 cases c with
 | v d=>exact this
 | o=>cases this
end Go.Vi
