/-
The value level. No condition.
-/
import Derived.Test.YtmgfndipofbbaaaGreatCVi26
namespace Go.Vi
set_option linter.all false
open List renaming contains_cons → O, all_cons → U
open Bool renaming and_true → V, true → T, false → F
open Option renaming some → E, none → G
open _root_ renaming List → H, Nat → L
section
variable {P : Program}
end
theorem D5v{α:Type}{n:L}:A4 ([]:H (L × α)) n=G:=rfl
theorem D4m{α:Type}{k n:L}{v:α}{r:H (L × α)}:A4 ((k,v)::r) n=bif k==n then E v else A4 r n:=rfl
theorem D96{α:Type}{n:L}{v:α}:put ([]:H (L × α)) n v= [(n,v)]:=rfl
theorem D5n{α:Type}{k n:L}{u v:α}{r:H (L × α)}:put ((k,u)::r) n v=bif k==n then(k,v)::r else(k,u)::put r n v:=rfl
theorem F35{σ:St}{n:L}:σ.val (.t n)=σ.get n:=rfl
theorem E8h{σ:St}{v:AV}:σ.val (.c v)=v:=rfl
theorem E7s{env bx rows}{k:L}:(St.mk env bx rows).get k=(A4 env k).getD .undef:=rfl
theorem E5v{env bx rows}{k:L}{v:AV}:(St.mk env bx rows).set k v=⟨put env k v,bx,rows⟩:=rfl
theorem getD_some{α:Type}{a b:α}:(E a).getD b=a:=rfl
theorem D48{α:Type}{b:α}:(G:Option α).getD b=b:=rfl
theorem map_some{α β:Type}{f:α→β}{a:α}:(E a).map f=E (f a):=rfl
theorem map_none{α β:Type}{f:α→β}:(G:Option α).map f=G:=rfl
theorem F3b{α:Type}{a b:α}:cond T a b=a:=rfl
theorem F48{α:Type}{a b:α}:cond F a b=b:=rfl
theorem D6n{s:H UInt8}:B47 (.v (.sc (.dat (.str s))))=E (.v (.sc (.dat (.int .i64 s.length)))):=rfl
theorem E5u{rs:Rows}{es:H (H D)}:B0g rs (.v (.sc (.dat (.sl es))))=E (.v (.sc (.dat (.int .i64 es.length)))):=rfl
theorem D8r{rs:Rows}{es:H (H D)}:A81 rs (.v (.sc (.dat (.sl es))))=(A2l es).map fun b=> .v (.sc (.dat (.str b))):=rfl
theorem D3y{rs:Rows}{id:L}:A81 rs (.v (.sc (.own id)))=match A4 rs id with | some (_,es)=>(A2l es).map fun b=> .v (.sc (.dat (.str b))) | none=>G:=rfl
theorem E15{rs:Rows}:B0g rs (.v (.sc .nil))=E (.v (.sc (.dat (.int .i64 0)))):=rfl
theorem D8a{k k':IntKind}{n:Int}:D0b k (.v (.sc (.dat (.int k' n))))=E (.v (.sc (.dat (.int k (k.wrap n))))):=rfl
theorem E3m{op:BinOp}{k:IntKind}{x y:Int}:A4o op (.v (.sc (.dat (.int k x)))) (.v (.sc (.dat (.int k y))))=(M0 op k x y).map fun d=> .v (.sc (.dat d)):=by simp[A4o]
theorem E1i{op:BinOp}{x y:H UInt8}:A4o op (.v (.sc (.dat (.str x)))) (.v (.sc (.dat (.str y))))=(B30 op x y).map fun d=> .v (.sc (.dat d)):=rfl
theorem E33{k:IntKind}{x y:Int}:M0 .add k x y=E (.int k (k.wrap (x+y))):=rfl
theorem E1n{k:IntKind}{x y:Int}:M0 .sub k x y=E (.int k (k.wrap (x - y))):=rfl
theorem D94{k:IntKind}{x y:Int}:M0 .mul k x y=E (.int k (k.wrap (x*y))):=rfl
theorem E05{k:IntKind}{x y:Int}:M0 .quo k x y=bif y==0 then G else E (.int k (k.wrap (x.tdiv y))):=by
 by_cases h:y=0
 ·simp[M0,h]
 ·have h':(y==0)=F:=by simpa using h
  simp[M0,h,h']
theorem E04{k:IntKind}{x y:Int}:M0 .rem k x y=bif y==0 then G else E (.int k (k.wrap (x.tmod y))):=by
 by_cases h:y=0
 ·simp[M0,h]
 ·have h':(y==0)=F:=by simpa using h
  simp[M0,h,h']
theorem E2a{k:IntKind}{x y:Int}:M0 .eql k x y=E (.bool (x==y)):=rfl
theorem E2z{k:IntKind}{x y:Int}:M0 .neq k x y=E (.bool (x !=y)):=rfl
theorem E3s{k:IntKind}{x y:Int}:M0 .lss k x y=E (.bool (decide (x<y))):=rfl
theorem E28{k:IntKind}{x y:Int}:M0 .leq k x y=E (.bool (decide (x≤y))):=rfl
theorem E30{k:IntKind}{x y:Int}:M0 .gtr k x y=E (.bool (decide (y<x))):=rfl
theorem E3p{k:IntKind}{x y:Int}:M0 .geq k x y=E (.bool (decide (y≤x))):=rfl
theorem E0d{x y:H UInt8}:B30 .eql x y=E (.bool (x==y)):=rfl
theorem E31{x y:H UInt8}:B30 .neq x y=E (.bool (!(x==y))):=rfl
theorem E4i{b:Bool}:unV .not (.v (.sc (.dat (.bool b))))=E (.v (.sc (.dat (.bool (!b))))):=rfl
theorem E1b{s:H UInt8}{k:IntKind}{i:Int}:C0n (.v (.sc (.dat (.str s)))) (.v (.sc (.dat (.int k i))))=(ix s i).map fun b=> .v (.sc (.dat (.int .u8 b.toNat))):=rfl
theorem E5r{α:Type}{l:H α}{i:L}(h:i<l.length):ix l (i:Int)=E l[i]:=by simp[ix,h]
theorem D73{off:L}{g:Bool}{n:L}{cs:H AC}:A84 off g n (.v (.ag cs))=A27 cs off g n:=rfl
theorem E34{cs:H AC}{off n:L}:A27 cs off F n=(cs[off]?).map fun c=> .v (.sc c):=rfl
theorem E3d{env bx rows}{d:L}{rs:H R1}:(St.mk env bx rows).inst d rs=⟨put env d (N8 d rs),bx,L9 rows (P9 d rs)⟩:=rfl
theorem C7l{g:L}{r:R1}:N8 g [r]= .v (r.inst g 0):=rfl
theorem C64{g:L}{r r':R1}{rs:H R1}:N8 g (r::r'::rs)= .tup (A09 g 0 (r::r'::rs)):=rfl
theorem C51{g j:L}:A09 g j []= []:=rfl
theorem C12{g j:L}{r:R1}{rs:H R1}:A09 g j (r::rs)=r.inst g j::A09 g (j+r.width) rs:=rfl
theorem D7u{c:RC}:R1.width (.sc c)=1:=rfl
theorem D7x{cs:H RC}:R1.width (.ag cs)=cs.length:=rfl
theorem E57{g j:L}{d:D}:RC.inst g j (.v d)= .dat d:=rfl
theorem E63{g j sz:L}{es:H (H D)}:RC.inst g j (.o sz es)= .own (g*64+j):=rfl
theorem E3n{g j:L}{c:RC}:R1.inst g j (.sc c)= .sc (c.inst g j):=rfl
theorem E2v{g j:L}{cs:H RC}:R1.inst g j (.ag cs)= .ag (A1k g j cs):=rfl
theorem C2l{g j:L}:A1k g j []= []:=rfl
theorem C0e{g j:L}{c:RC}{cs:H RC}:A1k g j (c::cs)=c.inst g j::A1k g (j+1) cs:=rfl
theorem C7b{g:L}:P9 g []= []:=rfl
theorem C6s{g:L}{r:R1}:P9 g [r]=J5 g 0 r.cells:=by simp[P9]
theorem C6y{g:L}{r r':R1}:P9 g [r,r']=J5 g 0 (r.cells++r'.cells):=by simp[P9]
theorem D63{c:RC}:R1.cells (.sc c)= [c]:=rfl
theorem D6e{cs:H RC}:R1.cells (.ag cs)=cs:=rfl
theorem C16{g j:L}:J5 g j []= []:=rfl
theorem C65{g j:L}{d:D}{cs:H RC}:J5 g j (.v d::cs)=J5 g (j+1) cs:=rfl
theorem C6x{g j sz:L}{es:H (H D)}{cs:H RC}:J5 g j (.o sz es::cs)=(g*64+j,sz,es)::J5 g (j+1) cs:=rfl
theorem C9h{rows:Rows}:L9 rows []=rows:=rfl
theorem C68{rows r:Rows}{k:L}{x:L × H (H D)}:L9 rows ((k,x)::r)=put (L9 rows r) k x:=rfl
theorem E0x{α:Type}{l:H α}: []++l=l:=rfl
theorem D8u{α:Type}{a:α}{l m:H α}:(a::l)++m=a::(l++m):=rfl
theorem D70{x:Int}:(x !=x)=F:=by simp
theorem D5d{x:Int}:(x==x)=T:=by simp
section
variable {P : Program} {k : H Fr} {Q : Xn → St → Prop} {σ : St} {its : H O0} {n : L} {N : H L}
theorem F12{d x}:go P (.dops ((E [],G,.mv d x)::its)::k) Q .normal (E σ)=go P (.ops [(G,.mv d x)]:: .dops its::k) Q .normal (E σ):=J1 rfl rfl
theorem E2t{d c a b}:go P (.dops ((E [],G,.pick d c a b)::its)::k) Q .normal (E σ)=go P (.ops [(G,.pick d c a b)]:: .dops its::k) Q .normal (E σ):=J1 rfl rfl
theorem D74{d zs ps}:go P (.dops ((E [],G,.build d zs ps)::its)::k) Q .normal (E σ)=go P (.ops [(G,.build d zs ps)]:: .dops its::k) Q .normal (E σ):=J1 rfl rfl
theorem E0y{d x g n}:go P (.dops ((E [],G,.load d x g n)::its)::k) Q .normal (E σ)=go P (.ops [(G,.load d x g n)]:: .dops its::k) Q .normal (E σ):=J1 rfl rfl
theorem E3g{d x}:go P (.dops ((E [],G,.nilc d x)::its)::k) Q .normal (E σ)=go P (.ops [(G,.nilc d x)]:: .dops its::k) Q .normal (E σ):=J1 rfl rfl
theorem E5w{d op x y}:go P (.dops ((E [],G,.bin d op x y)::its)::k) Q .normal (E σ)=go P (.ops [(G,.bin d op x y)]:: .dops its::k) Q .normal (E σ):=J1 rfl rfl
theorem E46{d g ks x y}:go P (.dops ((E [],G,.geq d g ks x y)::its)::k) Q .normal (E σ)=go P (.ops [(G,.geq d g ks x y)]:: .dops its::k) Q .normal (E σ):=J1 rfl rfl
theorem E6e{d g x y}:go P (.dops ((E [],G,.beq d g x y)::its)::k) Q .normal (E σ)=go P (.ops [(G,.beq d g x y)]:: .dops its::k) Q .normal (E σ):=J1 rfl rfl
theorem F2q{d op x}:go P (.dops ((E [],G,.un d op x)::its)::k) Q .normal (E σ)=go P (.ops [(G,.un d op x)]:: .dops its::k) Q .normal (E σ):=J1 rfl rfl
theorem E24{d kd x}:go P (.dops ((E [],G,.conv d kd x)::its)::k) Q .normal (E σ)=go P (.ops [(G,.conv d kd x)]:: .dops its::k) Q .normal (E σ):=J1 rfl rfl
theorem E7h{d sz x lo hi mx}:go P (.dops ((E [],G,.slc d sz x lo hi mx)::its)::k) Q .normal (E σ)=go P (.ops [(G,.slc d sz x lo hi mx)]:: .dops its::k) Q .normal (E σ):=J1 rfl rfl
theorem E1g{d x lo hi}:go P (.dops ((E [],G,.sslc d x lo hi)::its)::k) Q .normal (E σ)=go P (.ops [(G,.sslc d x lo hi)]:: .dops its::k) Q .normal (E σ):=J1 rfl rfl
theorem D68{d x off}:go P (.dops ((E [],G,.faddr d x off)::its)::k) Q .normal (E σ)=go P (.ops [(G,.faddr d x off)]:: .dops its::k) Q .normal (E σ):=J1 rfl rfl
theorem D6w{d x off g n}:go P (.dops ((E [],G,.field d x off g n)::its)::k) Q .normal (E σ)=go P (.ops [(G,.field d x off g n)]:: .dops its::k) Q .normal (E σ):=J1 rfl rfl
theorem D8w{d x i sz}:go P (.dops ((E [],G,.iaddr d x i sz)::its)::k) Q .normal (E σ)=go P (.ops [(G,.iaddr d x i sz)]:: .dops its::k) Q .normal (E σ):=J1 rfl rfl
theorem D71{d x i len sz}:go P (.dops ((E [],G,.aaddr d x i len sz)::its)::k) Q .normal (E σ)=go P (.ops [(G,.aaddr d x i len sz)]:: .dops its::k) Q .normal (E σ):=J1 rfl rfl
theorem E4n{d x i}:go P (.dops ((E [],G,.idx d x i)::its)::k) Q .normal (E σ)=go P (.ops [(G,.idx d x i)]:: .dops its::k) Q .normal (E σ):=J1 rfl rfl
theorem E0c{d x i}:go P (.dops ((E [],G,.extr d x i)::its)::k) Q .normal (E σ)=go P (.ops [(G,.extr d x i)]:: .dops its::k) Q .normal (E σ):=J1 rfl rfl
theorem E1f{d t x}:go P (.dops ((E [],G,.mkif d t x)::its)::k) Q .normal (E σ)=go P (.ops [(G,.mkif d t x)]:: .dops its::k) Q .normal (E σ):=J1 rfl rfl
theorem E1o{d x t zc}:go P (.dops ((E [],G,.tass d x t zc)::its)::k) Q .normal (E σ)=go P (.ops [(G,.tass d x t zc)]:: .dops its::k) Q .normal (E σ):=J1 rfl rfl
theorem E5b{d x}:go P (.dops ((E [],G,.len d x)::its)::k) Q .normal (E σ)=go P (.ops [(G,.len d x)]:: .dops its::k) Q .normal (E σ):=J1 rfl rfl
theorem E1d{d x}:go P (.dops ((E [],G,.slen d x)::its)::k) Q .normal (E σ)=go P (.ops [(G,.slen d x)]:: .dops its::k) Q .normal (E σ):=J1 rfl rfl
theorem D84{d x}:go P (.dops ((E [],G,.sconv d x)::its)::k) Q .normal (E σ)=go P (.ops [(G,.sconv d x)]:: .dops its::k) Q .normal (E σ):=J1 rfl rfl
theorem F4c{d m x y}:go P (.dops ((E [],G,.mm d m x y)::its)::k) Q .normal (E σ)=go P (.ops [(G,.mm d m x y)]:: .dops its::k) Q .normal (E σ):=J1 rfl rfl
theorem E4c{d f caps}:go P (.dops ((E [],G,.mkf d f caps)::its)::k) Q .normal (E σ)=go P (.ops [(G,.mkf d f caps)]:: .dops its::k) Q .normal (E σ):=J1 rfl rfl
theorem E6r{d x}:go P (.dops ((E [],G,.box d x)::its)::k) Q .normal (E σ)=go P (.ops [(G,.box d x)]:: .dops its::k) Q .normal (E σ):=J1 rfl rfl
theorem D8k{d cs}:go P (.dops ((E [],G,.alloc d cs)::its)::k) Q .normal (E σ)=go P (.ops [(G,.alloc d cs)]:: .dops its::k) Q .normal (E σ):=J1 rfl rfl
theorem D4s{d sz zs len ps}:go P (.dops ((E [],G,.bslice d sz zs len ps)::its)::k) Q .normal (E σ)=go P (.ops [(G,.bslice d sz zs len ps)]:: .dops its::k) Q .normal (E σ):=J1 rfl rfl
theorem E0m{d sz b zs x y}:go P (.dops ((E [],G,.mksl d sz b zs x y)::its)::k) Q .normal (E σ)=go P (.ops [(G,.mksl d sz b zs x y)]:: .dops its::k) Q .normal (E σ):=J1 rfl rfl
theorem E90{d x}:go P (.dops ((E (n::N),G,.mv d x)::its)::k) Q .normal (E σ)=go P (.dops its::k) Q .normal (U4 σ (n::N) (E d) ((σ.less (n::N)).step (.mv d x))):=L5 rfl
theorem E2j{d c a b}:go P (.dops ((E (n::N),G,.pick d c a b)::its)::k) Q .normal (E σ)=go P (.dops its::k) Q .normal (U4 σ (n::N) (E d) ((σ.less (n::N)).step (.pick d c a b))):=L5 rfl
theorem D5m{d zs ps}:go P (.dops ((E (n::N),G,.build d zs ps)::its)::k) Q .normal (E σ)=go P (.dops its::k) Q .normal (U4 σ (n::N) (E d) ((σ.less (n::N)).step (.build d zs ps))):=L5 rfl
theorem E3z{d x g m}:go P (.dops ((E (n::N),G,.load d x g m)::its)::k) Q .normal (E σ)=go P (.dops its::k) Q .normal (U4 σ (n::N) (E d) ((σ.less (n::N)).step (.load d x g m))):=L5 rfl
theorem E19{d x}:go P (.dops ((E (n::N),G,.nilc d x)::its)::k) Q .normal (E σ)=go P (.dops its::k) Q .normal (U4 σ (n::N) (E d) ((σ.less (n::N)).step (.nilc d x))):=L5 rfl
theorem E4t{d op x y}:go P (.dops ((E (n::N),G,.bin d op x y)::its)::k) Q .normal (E σ)=go P (.dops its::k) Q .normal (U4 σ (n::N) (E d) ((σ.less (n::N)).step (.bin d op x y))):=L5 rfl
theorem E39{d g ks x y}:go P (.dops ((E (n::N),G,.geq d g ks x y)::its)::k) Q .normal (E σ)=go P (.dops its::k) Q .normal (U4 σ (n::N) (E d) ((σ.less (n::N)).step (.geq d g ks x y))):=L5 rfl
theorem E54{d g x y}:go P (.dops ((E (n::N),G,.beq d g x y)::its)::k) Q .normal (E σ)=go P (.dops its::k) Q .normal (U4 σ (n::N) (E d) ((σ.less (n::N)).step (.beq d g x y))):=L5 rfl
theorem E79{d op x}:go P (.dops ((E (n::N),G,.un d op x)::its)::k) Q .normal (E σ)=go P (.dops its::k) Q .normal (U4 σ (n::N) (E d) ((σ.less (n::N)).step (.un d op x))):=L5 rfl
theorem E38{d kd x}:go P (.dops ((E (n::N),G,.conv d kd x)::its)::k) Q .normal (E σ)=go P (.dops its::k) Q .normal (U4 σ (n::N) (E d) ((σ.less (n::N)).step (.conv d kd x))):=L5 rfl
theorem E45{d sz x lo hi mx}:go P (.dops ((E (n::N),G,.slc d sz x lo hi mx)::its)::k) Q .normal (E σ)=go P (.dops its::k) Q .normal (U4 σ (n::N) (E d) ((σ.less (n::N)).step (.slc d sz x lo hi mx))):=L5 rfl
theorem E0a{d x lo hi}:go P (.dops ((E (n::N),G,.sslc d x lo hi)::its)::k) Q .normal (E σ)=go P (.dops its::k) Q .normal (U4 σ (n::N) (E d) ((σ.less (n::N)).step (.sslc d x lo hi))):=L5 rfl
theorem D5c{d x off}:go P (.dops ((E (n::N),G,.faddr d x off)::its)::k) Q .normal (E σ)=go P (.dops its::k) Q .normal (U4 σ (n::N) (E d) ((σ.less (n::N)).step (.faddr d x off))):=L5 rfl
theorem D5r{d x off g m}:go P (.dops ((E (n::N),G,.field d x off g m)::its)::k) Q .normal (E σ)=go P (.dops its::k) Q .normal (U4 σ (n::N) (E d) ((σ.less (n::N)).step (.field d x off g m))):=L5 rfl
theorem D7m{d x i sz}:go P (.dops ((E (n::N),G,.iaddr d x i sz)::its)::k) Q .normal (E σ)=go P (.dops its::k) Q .normal (U4 σ (n::N) (E d) ((σ.less (n::N)).step (.iaddr d x i sz))):=L5 rfl
theorem D6t{d x i len sz}:go P (.dops ((E (n::N),G,.aaddr d x i len sz)::its)::k) Q .normal (E σ)=go P (.dops its::k) Q .normal (U4 σ (n::N) (E d) ((σ.less (n::N)).step (.aaddr d x i len sz))):=L5 rfl
theorem E4m{d x i}:go P (.dops ((E (n::N),G,.idx d x i)::its)::k) Q .normal (E σ)=go P (.dops its::k) Q .normal (U4 σ (n::N) (E d) ((σ.less (n::N)).step (.idx d x i))):=L5 rfl
theorem E2x{d x i}:go P (.dops ((E (n::N),G,.extr d x i)::its)::k) Q .normal (E σ)=go P (.dops its::k) Q .normal (U4 σ (n::N) (E d) ((σ.less (n::N)).step (.extr d x i))):=L5 rfl
theorem E2e{d t x}:go P (.dops ((E (n::N),G,.mkif d t x)::its)::k) Q .normal (E σ)=go P (.dops its::k) Q .normal (U4 σ (n::N) (E d) ((σ.less (n::N)).step (.mkif d t x))):=L5 rfl
theorem E01{d x t zc}:go P (.dops ((E (n::N),G,.tass d x t zc)::its)::k) Q .normal (E σ)=go P (.dops its::k) Q .normal (U4 σ (n::N) (E d) ((σ.less (n::N)).step (.tass d x t zc))):=L5 rfl
theorem E6d{d x}:go P (.dops ((E (n::N),G,.len d x)::its)::k) Q .normal (E σ)=go P (.dops its::k) Q .normal (U4 σ (n::N) (E d) ((σ.less (n::N)).step (.len d x))):=L5 rfl
theorem E0b{d x}:go P (.dops ((E (n::N),G,.slen d x)::its)::k) Q .normal (E σ)=go P (.dops its::k) Q .normal (U4 σ (n::N) (E d) ((σ.less (n::N)).step (.slen d x))):=L5 rfl
theorem D7l{d x}:go P (.dops ((E (n::N),G,.sconv d x)::its)::k) Q .normal (E σ)=go P (.dops its::k) Q .normal (U4 σ (n::N) (E d) ((σ.less (n::N)).step (.sconv d x))):=L5 rfl
theorem F0f{d m x y}:go P (.dops ((E (n::N),G,.mm d m x y)::its)::k) Q .normal (E σ)=go P (.dops its::k) Q .normal (U4 σ (n::N) (E d) ((σ.less (n::N)).step (.mm d m x y))):=L5 rfl
theorem E7j{d f caps}:go P (.dops ((E (n::N),G,.mkf d f caps)::its)::k) Q .normal (E σ)=go P (.dops its::k) Q .normal (U4 σ (n::N) (E d) ((σ.less (n::N)).step (.mkf d f caps))):=L5 rfl
theorem D6b{t:L}{o:AOp}{N:H L}:go P (.dops ((E N,E (t,T),o)::its)::k) Q .normal (E σ)=go P (.gdd (σ.get t) T (E N) o its::k) Q .normal (E σ):=by
 show G5 (E (t,T)) σ _ _=_
 rw[C7t]
 show _=A0c _ _ _ _
 simp only[cond_true]
 congr 1<;>(cases o.dst<;>rfl)
theorem D64{t:L}{o:AOp}{N:H L}:go P (.dops ((E N,E (t,F),o)::its)::k) Q .normal (E σ)=go P (.gdd (σ.get t) F (E N) o its::k) Q .normal (E σ):=by
 show G5 (E (t,F)) σ _ _=_
 rw[C7p]
 show _=A0c _ _ _ _
 simp only[cond_false]
 congr 1<;>(cases o.dst<;>rfl)
theorem E9r{b:Bool}{o:AOp}{N:Option (H L)}:go P (.gdd (.v (.sc (.dat (.bool b)))) b N o its::k) Q .normal (E σ)=go P (.dops ((N,G,o)::its)::k) Q .normal (E σ):=by
 cases b<;>simp[go,go0,A0c]
theorem F22{o:AOp}{N:Option (H L)}:go P (.gdd (.v (.sc (.dat (.bool F)))) T N o its::k) Q .normal (E σ)=go P (.dops its::k) Q .normal (unw σ o.dst):=by
 simp only[go,go0,A0c,cond_true]
 cases o.dst<;>simp[A0e,unw]
theorem E9z{o:AOp}{N:Option (H L)}:go P (.gdd (.v (.sc (.dat (.bool T)))) F N o its::k) Q .normal (E σ)=go P (.dops its::k) Q .normal (unw σ o.dst):=by
 simp only[go,go0,A0c,cond_false]
 cases o.dst<;>simp[A0e,unw]
theorem F2b{w:Bool}{o:AOp}{N:Option (H L)}:go P (.gdd .no w N o its::k) Q .normal (E σ)=go P (.dops its::k) Q .normal (unw σ o.dst):=by
 simp only[go,go0,A0c]
 cases o.dst<;>simp[A0e,unw]
theorem D3o{w:Bool}{o:AOp}{its:H AItem}:go P (.gd .no w o its::k) Q .normal (E σ)=go P (.ops its::k) Q .normal (unw σ o.dst):=by
 simp only[go,go0,A0c]
 cases o.dst<;>simp[A0e,unw]
end
def A86(k:L):H L→Bool
 | []=>F
 | n::r=>bif k==n then T else A86 k r
def A6h{α:Type}(f:L→L)(N:H L):H (L × α)→H (L × α)
 | []=> []
 | (k,v)::r=>bif A86 (f k) N then A6h f N r else(k,v)::A6h f N r
theorem B14(k:L):∀N:H L,A86 k N=N.contains k
 | []=>rfl
 | n::r=>by
  simp only[A86,O,B14 k r]
  cases k==n<;>rfl
theorem B6t{α:Type}(f:L→L)(N:H L):∀l:H (L × α),A6h f N l=l.filter fun p=> !N.contains (f p.1)
 | []=>rfl
 | (k,v)::r=>by
  simp only[A6h,B14,List.filter_cons,B6t f N r]
  cases N.contains (f k)<;>rfl
theorem E1a{env bx rows}{n:L}{N:H L}:(St.mk env bx rows).less (n::N)=⟨env,A6h id (n::N) bx,A6h (· / 64) (n::N) rows⟩:=by
 rw[B6t,B6t]
 rfl
theorem D6c{k:L}:A86 k []=F:=rfl
theorem D46{k n:L}{r:H L}:A86 k (n::r)=bif k==n then T else A86 k r:=rfl
theorem D5w{α:Type}{f:L→L}{N:H L}:A6h f N ([]:H (L × α))= []:=rfl
theorem E0w{α:Type}{N:H L}{k:L}{v:α}{r:H (L × α)}:A6h id N ((k,v)::r)=bif A86 k N then A6h id N r else(k,v)::A6h id N r:=rfl
theorem E0h{α:Type}{N:H L}{k:L}{v:α}{r:H (L × α)}:A6h (· / 64) N ((k,v)::r)=bif A86 (k / 64) N then A6h (· / 64) N r else(k,v)::A6h (· / 64) N r:=rfl
theorem D4x{σ τ:St}{N:H L}{d:L}:U4 σ N (E d) (E τ)=bif (τ.get d).avoids N then E (σ.set d (τ.get d)) else G:=rfl
theorem D8z{σ:St}{d:L}:unw σ (E d)=E (σ.set d .no):=rfl
theorem E4b{N:H L}{d:D}:AV.avoids N (.v (.sc (.dat d)))=T:=by simp[AV.avoids,AV.cells,V1.cells,AC.avoids,AC.uses]
theorem E49{N:H L}:AV.avoids N (.v (.sc .nil))=T:=by simp[AV.avoids,AV.cells,V1.cells,AC.avoids,AC.uses]
theorem E7b{N:H L}{i:L}:AV.avoids N (.v (.sc (.own i)))= !A86 (i / 64) N:=by
 rw[B14]
 induction N with
 | nil=>rfl
 | cons n N ih=>
  simp only[AV.avoids,AV.cells,V1.cells,AC.avoids,AC.uses,U,List.all_nil,V,O] at ih ⊢
  rw[ih]
  cases(i / 64==n)<;>simp
theorem F0u{N:H L}{i o:L}:AV.avoids N (.v (.sc (.pb i o)))= !A86 i N:=by
 rw[B14]
 induction N with
 | nil=>rfl
 | cons n N ih=>
  simp only[AV.avoids,AV.cells,V1.cells,AC.avoids,AC.uses,U,List.all_nil,V,O] at ih ⊢
  rw[ih]
  cases(i==n)<;>simp
theorem F06{N:H L}{i x o:L}:AV.avoids N (.v (.sc (.pe i x o)))= !A86 (i / 64) N:=by
 rw[B14]
 induction N with
 | nil=>rfl
 | cons n N ih=>
  simp only[AV.avoids,AV.cells,V1.cells,AC.avoids,AC.uses,U,List.all_nil,V,O] at ih ⊢
  rw[ih]
  cases(i / 64==n)<;>simp
theorem E7m{N:H L}:AV.avoids N (.v (.ag []))=T:=rfl
theorem F2y{N:H L}{c:AC}{cs:H AC}:AV.avoids N (.v (.ag (c::cs)))=((AV.v (.sc c)).avoids N&&(AV.v (.ag cs)).avoids N):=by simp[AV.avoids,AV.cells,V1.cells]
theorem D1w:(!F)=T:=rfl
theorem D43:(!T)=F:=rfl
theorem E4v:(T&&T)=T:=rfl
theorem E60{d x}:AOp.dst (.mv d x)=E d:=rfl
theorem D6u{d c a b}:AOp.dst (.pick d c a b)=E d:=rfl
theorem D44{d zs ps}:AOp.dst (.build d zs ps)=E d:=rfl
theorem D61{d x g n}:AOp.dst (.load d x g n)=E d:=rfl
theorem D7y{d x}:AOp.dst (.nilc d x)=E d:=rfl
theorem E20{d op x y}:AOp.dst (.bin d op x y)=E d:=rfl
theorem E0p{d g ks x y}:AOp.dst (.geq d g ks x y)=E d:=rfl
theorem E35{d g x y}:AOp.dst (.beq d g x y)=E d:=rfl
theorem E53{d op x}:AOp.dst (.un d op x)=E d:=rfl
theorem D59{d kd x}:AOp.dst (.conv d kd x)=E d:=rfl
theorem E2r{d sz x lo hi mx}:AOp.dst (.slc d sz x lo hi mx)=E d:=rfl
theorem D8q{d x lo hi}:AOp.dst (.sslc d x lo hi)=E d:=rfl
theorem D2p{d x off}:AOp.dst (.faddr d x off)=E d:=rfl
theorem D3s{d x off g n}:AOp.dst (.field d x off g n)=E d:=rfl
theorem D4q{d x i sz}:AOp.dst (.iaddr d x i sz)=E d:=rfl
theorem D4g{d x i len sz}:AOp.dst (.aaddr d x i len sz)=E d:=rfl
theorem E29{d x i}:AOp.dst (.idx d x i)=E d:=rfl
theorem D6a{d x i}:AOp.dst (.extr d x i)=E d:=rfl
theorem D5z{d t x}:AOp.dst (.mkif d t x)=E d:=rfl
theorem D7t{d x t zc}:AOp.dst (.tass d x t zc)=E d:=rfl
theorem E2b{d x}:AOp.dst (.len d x)=E d:=rfl
theorem D7d{d x}:AOp.dst (.slen d x)=E d:=rfl
theorem D2w{d x}:AOp.dst (.sconv d x)=E d:=rfl
theorem E7k{d m x y}:AOp.dst (.mm d m x y)=E d:=rfl
theorem E2i{d f caps}:AOp.dst (.mkf d f caps)=E d:=rfl
theorem E3q{d x}:AOp.dst (.box d x)=E d:=rfl
theorem D4c{d cs}:AOp.dst (.alloc d cs)=E d:=rfl
theorem C9c{d sz zs len ps}:AOp.dst (.bslice d sz zs len ps)=E d:=rfl
theorem D8s{d sz b zs x y}:AOp.dst (.mksl d sz b zs x y)=E d:=rfl
theorem D6d{d f args}:AOp.dst (.call d f args)=E d:=rfl
theorem D3h{d x args}:AOp.dst (.callv d x args)=E d:=rfl
def F2e(rs:H R1):Bool:=(rs.flatMap R1.cells).all fun | .v d=>d.flat | .o _ _=>F
theorem Y4{rs:H R1}(h:F2e rs=T):A3u rs:=by
 intro c hc
 have:=List.all_eq_true.1 h c hc
 cases c with
 | v d=>exact this
 | o=>cases this
end Go.Vi
