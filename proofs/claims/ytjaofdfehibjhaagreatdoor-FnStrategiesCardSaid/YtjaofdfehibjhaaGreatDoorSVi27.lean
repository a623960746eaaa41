/-
The value level. No condition.
-/
import Derived.Test.YtjaofdfehibjhaaGreatDoorSVi26
namespace Go.Vi
set_option linter.all false
open List renaming contains_cons → O, all_cons → U
open Bool renaming and_true → V, true → T, false → F
open Option renaming some → E, none → G
open _root_ renaming List → H, Nat → L
section
variable {P : Program}
end
theorem E2g{α:Type}{n:L}:A3 ([]:H (L × α)) n=G:=rfl
theorem D6c{α:Type}{k n:L}{v:α}{r:H (L × α)}:A3 ((k,v)::r) n=bif k==n then E v else A3 r n:=rfl
theorem E6j{α:Type}{n:L}{v:α}:put ([]:H (L × α)) n v= [(n,v)]:=rfl
theorem E0q{α:Type}{k n:L}{u v:α}{r:H (L × α)}:put ((k,u)::r) n v=bif k==n then(k,v)::r else(k,u)::put r n v:=rfl
theorem F9k{σ:St}{n:L}:σ.val (.t n)=σ.get n:=rfl
theorem F8q{σ:St}{v:AV}:σ.val (.c v)=v:=rfl
theorem E8l{env bx rows}{k:L}:(St.mk env bx rows).get k=(A3 env k).getD .undef:=rfl
theorem F0n{env bx rows}{k:L}{v:AV}:(St.mk env bx rows).set k v=⟨put env k v,bx,rows⟩:=rfl
theorem getD_some{α:Type}{a b:α}:(E a).getD b=a:=rfl
theorem D8b{α:Type}{b:α}:(G:Option α).getD b=b:=rfl
theorem map_some{α β:Type}{f:α→β}{a:α}:(E a).map f=E (f a):=rfl
theorem map_none{α β:Type}{f:α→β}:(G:Option α).map f=G:=rfl
theorem F5e{α:Type}{a b:α}:cond T a b=a:=rfl
theorem F43{α:Type}{a b:α}:cond F a b=b:=rfl
theorem D95{s:H UInt8}:B7e (.v (.sc (.dat (.str s))))=E (.v (.sc (.dat (.int .i64 s.length)))):=rfl
theorem F0s{rs:Rows}{es:H (H D)}:B1u rs (.v (.sc (.dat (.sl es))))=E (.v (.sc (.dat (.int .i64 es.length)))):=rfl
theorem E1o{rs:Rows}{es:H (H D)}:B0i rs (.v (.sc (.dat (.sl es))))=(A3w es).map fun b=> .v (.sc (.dat (.str b))):=rfl
theorem D53{rs:Rows}{id:L}:B0i rs (.v (.sc (.own id)))=match A3 rs id with | some (_,es)=>(A3w es).map fun b=> .v (.sc (.dat (.str b))) | none=>G:=rfl
theorem E55{rs:Rows}:B1u rs (.v (.sc .nil))=E (.v (.sc (.dat (.int .i64 0)))):=rfl
theorem E01{k k':IntKind}{n:Int}:D39 k (.v (.sc (.dat (.int k' n))))=E (.v (.sc (.dat (.int k (k.wrap n))))):=rfl
theorem E7t{op:BinOp}{k:IntKind}{x y:Int}:A59 op (.v (.sc (.dat (.int k x)))) (.v (.sc (.dat (.int k y))))=(N6 op k x y).map fun d=> .v (.sc (.dat d)):=by simp[A59]
theorem E5u{op:BinOp}{x y:H UInt8}:A59 op (.v (.sc (.dat (.str x)))) (.v (.sc (.dat (.str y))))=(B5t op x y).map fun d=> .v (.sc (.dat d)):=rfl
theorem E7e{k:IntKind}{x y:Int}:N6 .add k x y=E (.int k (k.wrap (x+y))):=rfl
theorem E5r{k:IntKind}{x y:Int}:N6 .sub k x y=E (.int k (k.wrap (x - y))):=rfl
theorem E3y{k:IntKind}{x y:Int}:N6 .mul k x y=E (.int k (k.wrap (x*y))):=rfl
theorem E42{k:IntKind}{x y:Int}:N6 .quo k x y=bif y==0 then G else E (.int k (k.wrap (x.tdiv y))):=by
 by_cases h:y=0
 ·simp[N6,h]
 ·have h':(y==0)=F:=by simpa using h
  simp[N6,h,h']
theorem E43{k:IntKind}{x y:Int}:N6 .rem k x y=bif y==0 then G else E (.int k (k.wrap (x.tmod y))):=by
 by_cases h:y=0
 ·simp[N6,h]
 ·have h':(y==0)=F:=by simpa using h
  simp[N6,h,h']
theorem E36{k:IntKind}{x y:Int}:N6 .eql k x y=E (.bool (x==y)):=rfl
theorem E5g{k:IntKind}{x y:Int}:N6 .neq k x y=E (.bool (x !=y)):=rfl
theorem E32{k:IntKind}{x y:Int}:N6 .lss k x y=E (.bool (decide (x<y))):=rfl
theorem E61{k:IntKind}{x y:Int}:N6 .leq k x y=E (.bool (decide (x≤y))):=rfl
theorem E4v{k:IntKind}{x y:Int}:N6 .gtr k x y=E (.bool (decide (y<x))):=rfl
theorem E65{k:IntKind}{x y:Int}:N6 .geq k x y=E (.bool (decide (y≤x))):=rfl
theorem E5y{x y:H UInt8}:B5t .eql x y=E (.bool (x==y)):=rfl
theorem E7c{x y:H UInt8}:B5t .neq x y=E (.bool (!(x==y))):=rfl
theorem E75{b:Bool}:unV .not (.v (.sc (.dat (.bool b))))=E (.v (.sc (.dat (.bool (!b))))):=rfl
theorem E7n{s:H UInt8}{k:IntKind}{i:Int}:C2p (.v (.sc (.dat (.str s)))) (.v (.sc (.dat (.int k i))))=(ix s i).map fun b=> .v (.sc (.dat (.int .u8 b.toNat))):=rfl
theorem E85{α:Type}{l:H α}{i:L}(h:i<l.length):ix l (i:Int)=E l[i]:=by simp[ix,h]
theorem E1n{off:L}{g:Bool}{n:L}{cs:H AC}:B0m off g n (.v (.ag cs))=A4c cs off g n:=rfl
theorem E3x{cs:H AC}{off n:L}:A4c cs off F n=(cs[off]?).map fun c=> .v (.sc c):=rfl
theorem E7y{env bx rows}{d:L}{rs:H R1}:(St.mk env bx rows).inst d rs=⟨put env d (P3 d rs),bx,N5 rows (S7 d rs)⟩:=rfl
theorem C92{g:L}{r:R1}:P3 g [r]= .v (r.inst g 0):=rfl
theorem D0d{g:L}{r r':R1}{rs:H R1}:P3 g (r::r'::rs)= .tup (A2c g 0 (r::r'::rs)):=rfl
theorem C9c{g j:L}:A2c g j []= []:=rfl
theorem C4p{g j:L}{r:R1}{rs:H R1}:A2c g j (r::rs)=r.inst g j::A2c g (j+r.width) rs:=rfl
theorem D8x{c:RC}:R1.width (.sc c)=1:=rfl
theorem D89{cs:H RC}:R1.width (.ag cs)=cs.length:=rfl
theorem E8d{g j:L}{d:D}:RC.inst g j (.v d)= .dat d:=rfl
theorem F1n{g j sz:L}{es:H (H D)}:RC.inst g j (.o sz es)= .own (g*64+j):=rfl
theorem E6n{g j:L}{c:RC}:R1.inst g j (.sc c)= .sc (c.inst g j):=rfl
theorem E5d{g j:L}{cs:H RC}:R1.inst g j (.ag cs)= .ag (A2k g j cs):=rfl
theorem C4o{g j:L}:A2k g j []= []:=rfl
theorem C2w{g j:L}{c:RC}{cs:H RC}:A2k g j (c::cs)=c.inst g j::A2k g (j+1) cs:=rfl
theorem C98{g:L}:S7 g []= []:=rfl
theorem C9s{g:L}{r:R1}:S7 g [r]=K4 g 0 r.cells:=by simp[S7]
theorem C9m{g:L}{r r':R1}:S7 g [r,r']=K4 g 0 (r.cells++r'.cells):=by simp[S7]
theorem D9k{c:RC}:R1.cells (.sc c)= [c]:=rfl
theorem D81{cs:H RC}:R1.cells (.ag cs)=cs:=rfl
theorem C4r{g j:L}:K4 g j []= []:=rfl
theorem C9w{g j:L}{d:D}{cs:H RC}:K4 g j (.v d::cs)=K4 g (j+1) cs:=rfl
theorem C9j{g j sz:L}{es:H (H D)}{cs:H RC}:K4 g j (.o sz es::cs)=(g*64+j,sz,es)::K4 g (j+1) cs:=rfl
theorem D48{rows:Rows}:N5 rows []=rows:=rfl
theorem C90{rows r:Rows}{k:L}{x:L × H (H D)}:N5 rows ((k,x)::r)=put (N5 rows r) k x:=rfl
theorem E6g{α:Type}{l:H α}: []++l=l:=rfl
theorem D8s{α:Type}{a:α}{l m:H α}:(a::l)++m=a::(l++m):=rfl
theorem E2i{x:Int}:(x !=x)=F:=by simp
theorem E10{x:Int}:(x==x)=T:=by simp
section
variable {P : Program} {k : H Fr} {Q : Xo → St → Prop} {σ : St} {its : H Q6} {n : L} {N : H L}
theorem F7c{d x}:go P (.dops ((E [],G,.mv d x)::its)::k) Q .normal (E σ)=go P (.ops [(G,.mv d x)]:: .dops its::k) Q .normal (E σ):=J8 rfl rfl
theorem E58{d c a b}:go P (.dops ((E [],G,.pick d c a b)::its)::k) Q .normal (E σ)=go P (.ops [(G,.pick d c a b)]:: .dops its::k) Q .normal (E σ):=J8 rfl rfl
theorem D8p{d zs ps}:go P (.dops ((E [],G,.build d zs ps)::its)::k) Q .normal (E σ)=go P (.ops [(G,.build d zs ps)]:: .dops its::k) Q .normal (E σ):=J8 rfl rfl
theorem E53{d x g n}:go P (.dops ((E [],G,.load d x g n)::its)::k) Q .normal (E σ)=go P (.ops [(G,.load d x g n)]:: .dops its::k) Q .normal (E σ):=J8 rfl rfl
theorem E4q{d x}:go P (.dops ((E [],G,.nilc d x)::its)::k) Q .normal (E σ)=go P (.ops [(G,.nilc d x)]:: .dops its::k) Q .normal (E σ):=J8 rfl rfl
theorem E9e{d op x y}:go P (.dops ((E [],G,.bin d op x y)::its)::k) Q .normal (E σ)=go P (.ops [(G,.bin d op x y)]:: .dops its::k) Q .normal (E σ):=J8 rfl rfl
theorem E8t{d g ks x y}:go P (.dops ((E [],G,.geq d g ks x y)::its)::k) Q .normal (E σ)=go P (.ops [(G,.geq d g ks x y)]:: .dops its::k) Q .normal (E σ):=J8 rfl rfl
theorem F0m{d g x y}:go P (.dops ((E [],G,.beq d g x y)::its)::k) Q .normal (E σ)=go P (.ops [(G,.beq d g x y)]:: .dops its::k) Q .normal (E σ):=J8 rfl rfl
theorem F6j{d op x}:go P (.dops ((E [],G,.un d op x)::its)::k) Q .normal (E σ)=go P (.ops [(G,.un d op x)]:: .dops its::k) Q .normal (E σ):=J8 rfl rfl
theorem E7f{d kd x}:go P (.dops ((E [],G,.conv d kd x)::its)::k) Q .normal (E σ)=go P (.ops [(G,.conv d kd x)]:: .dops its::k) Q .normal (E σ):=J8 rfl rfl
theorem F1a{d sz x lo hi mx}:go P (.dops ((E [],G,.slc d sz x lo hi mx)::its)::k) Q .normal (E σ)=go P (.ops [(G,.slc d sz x lo hi mx)]:: .dops its::k) Q .normal (E σ):=J8 rfl rfl
theorem E6k{d x lo hi}:go P (.dops ((E [],G,.sslc d x lo hi)::its)::k) Q .normal (E σ)=go P (.ops [(G,.sslc d x lo hi)]:: .dops its::k) Q .normal (E σ):=J8 rfl rfl
theorem E14{d x off}:go P (.dops ((E [],G,.faddr d x off)::its)::k) Q .normal (E σ)=go P (.ops [(G,.faddr d x off)]:: .dops its::k) Q .normal (E σ):=J8 rfl rfl
theorem D8z{d x off g n}:go P (.dops ((E [],G,.field d x off g n)::its)::k) Q .normal (E σ)=go P (.ops [(G,.field d x off g n)]:: .dops its::k) Q .normal (E σ):=J8 rfl rfl
theorem D8y{d x i sz}:go P (.dops ((E [],G,.iaddr d x i sz)::its)::k) Q .normal (E σ)=go P (.ops [(G,.iaddr d x i sz)]:: .dops its::k) Q .normal (E σ):=J8 rfl rfl
theorem D92{d x i len sz}:go P (.dops ((E [],G,.aaddr d x i len sz)::its)::k) Q .normal (E σ)=go P (.ops [(G,.aaddr d x i len sz)]:: .dops its::k) Q .normal (E σ):=J8 rfl rfl
theorem E79{d x i}:go P (.dops ((E [],G,.idx d x i)::its)::k) Q .normal (E σ)=go P (.ops [(G,.idx d x i)]:: .dops its::k) Q .normal (E σ):=J8 rfl rfl
theorem E4m{d x i}:go P (.dops ((E [],G,.extr d x i)::its)::k) Q .normal (E σ)=go P (.ops [(G,.extr d x i)]:: .dops its::k) Q .normal (E σ):=J8 rfl rfl
theorem E56{d t x}:go P (.dops ((E [],G,.mkif d t x)::its)::k) Q .normal (E σ)=go P (.ops [(G,.mkif d t x)]:: .dops its::k) Q .normal (E σ):=J8 rfl rfl
theorem E4n{d x t zc}:go P (.dops ((E [],G,.tass d x t zc)::its)::k) Q .normal (E σ)=go P (.ops [(G,.tass d x t zc)]:: .dops its::k) Q .normal (E σ):=J8 rfl rfl
theorem F1l{d x}:go P (.dops ((E [],G,.len d x)::its)::k) Q .normal (E σ)=go P (.ops [(G,.len d x)]:: .dops its::k) Q .normal (E σ):=J8 rfl rfl
theorem E7k{d x}:go P (.dops ((E [],G,.slen d x)::its)::k) Q .normal (E σ)=go P (.ops [(G,.slen d x)]:: .dops its::k) Q .normal (E σ):=J8 rfl rfl
theorem E1c{d x}:go P (.dops ((E [],G,.sconv d x)::its)::k) Q .normal (E σ)=go P (.ops [(G,.sconv d x)]:: .dops its::k) Q .normal (E σ):=J8 rfl rfl
theorem F1x{d m x y}:go P (.dops ((E [],G,.mm d m x y)::its)::k) Q .normal (E σ)=go P (.ops [(G,.mm d m x y)]:: .dops its::k) Q .normal (E σ):=J8 rfl rfl
theorem E74{d f caps}:go P (.dops ((E [],G,.mkf d f caps)::its)::k) Q .normal (E σ)=go P (.ops [(G,.mkf d f caps)]:: .dops its::k) Q .normal (E σ):=J8 rfl rfl
theorem F1q{d x}:go P (.dops ((E [],G,.box d x)::its)::k) Q .normal (E σ)=go P (.ops [(G,.box d x)]:: .dops its::k) Q .normal (E σ):=J8 rfl rfl
theorem E2b{d cs}:go P (.dops ((E [],G,.alloc d cs)::its)::k) Q .normal (E σ)=go P (.ops [(G,.alloc d cs)]:: .dops its::k) Q .normal (E σ):=J8 rfl rfl
theorem D70{d sz zs len ps}:go P (.dops ((E [],G,.bslice d sz zs len ps)::its)::k) Q .normal (E σ)=go P (.ops [(G,.bslice d sz zs len ps)]:: .dops its::k) Q .normal (E σ):=J8 rfl rfl
theorem E64{d sz b zs x y}:go P (.dops ((E [],G,.mksl d sz b zs x y)::its)::k) Q .normal (E σ)=go P (.ops [(G,.mksl d sz b zs x y)]:: .dops its::k) Q .normal (E σ):=J8 rfl rfl
theorem F3r{d x}:go P (.dops ((E (n::N),G,.mv d x)::its)::k) Q .normal (E σ)=go P (.dops its::k) Q .normal (Y5 σ (n::N) (E d) ((σ.less (n::N)).step (.mv d x))):=N1 rfl
theorem E6p{d c a b}:go P (.dops ((E (n::N),G,.pick d c a b)::its)::k) Q .normal (E σ)=go P (.dops its::k) Q .normal (Y5 σ (n::N) (E d) ((σ.less (n::N)).step (.pick d c a b))):=N1 rfl
theorem E0h{d zs ps}:go P (.dops ((E (n::N),G,.build d zs ps)::its)::k) Q .normal (E σ)=go P (.dops its::k) Q .normal (Y5 σ (n::N) (E d) ((σ.less (n::N)).step (.build d zs ps))):=N1 rfl
theorem E37{d x g m}:go P (.dops ((E (n::N),G,.load d x g m)::its)::k) Q .normal (E σ)=go P (.dops its::k) Q .normal (Y5 σ (n::N) (E d) ((σ.less (n::N)).step (.load d x g m))):=N1 rfl
theorem E7s{d x}:go P (.dops ((E (n::N),G,.nilc d x)::its)::k) Q .normal (E σ)=go P (.dops its::k) Q .normal (Y5 σ (n::N) (E d) ((σ.less (n::N)).step (.nilc d x))):=N1 rfl
theorem F0l{d op x y}:go P (.dops ((E (n::N),G,.bin d op x y)::its)::k) Q .normal (E σ)=go P (.dops its::k) Q .normal (Y5 σ (n::N) (E d) ((σ.less (n::N)).step (.bin d op x y))):=N1 rfl
theorem F1j{d g ks x y}:go P (.dops ((E (n::N),G,.geq d g ks x y)::its)::k) Q .normal (E σ)=go P (.dops its::k) Q .normal (Y5 σ (n::N) (E d) ((σ.less (n::N)).step (.geq d g ks x y))):=N1 rfl
theorem E8u{d g x y}:go P (.dops ((E (n::N),G,.beq d g x y)::its)::k) Q .normal (E σ)=go P (.dops its::k) Q .normal (Y5 σ (n::N) (E d) ((σ.less (n::N)).step (.beq d g x y))):=N1 rfl
theorem F2m{d op x}:go P (.dops ((E (n::N),G,.un d op x)::its)::k) Q .normal (E σ)=go P (.dops its::k) Q .normal (Y5 σ (n::N) (E d) ((σ.less (n::N)).step (.un d op x))):=N1 rfl
theorem E5c{d kd x}:go P (.dops ((E (n::N),G,.conv d kd x)::its)::k) Q .normal (E σ)=go P (.dops its::k) Q .normal (Y5 σ (n::N) (E d) ((σ.less (n::N)).step (.conv d kd x))):=N1 rfl
theorem F1d{d sz x lo hi mx}:go P (.dops ((E (n::N),G,.slc d sz x lo hi mx)::its)::k) Q .normal (E σ)=go P (.dops its::k) Q .normal (Y5 σ (n::N) (E d) ((σ.less (n::N)).step (.slc d sz x lo hi mx))):=N1 rfl
theorem E4j{d x lo hi}:go P (.dops ((E (n::N),G,.sslc d x lo hi)::its)::k) Q .normal (E σ)=go P (.dops its::k) Q .normal (Y5 σ (n::N) (E d) ((σ.less (n::N)).step (.sslc d x lo hi))):=N1 rfl
theorem E2j{d x off}:go P (.dops ((E (n::N),G,.faddr d x off)::its)::k) Q .normal (E σ)=go P (.dops its::k) Q .normal (Y5 σ (n::N) (E d) ((σ.less (n::N)).step (.faddr d x off))):=N1 rfl
theorem E0v{d x off g m}:go P (.dops ((E (n::N),G,.field d x off g m)::its)::k) Q .normal (E σ)=go P (.dops its::k) Q .normal (Y5 σ (n::N) (E d) ((σ.less (n::N)).step (.field d x off g m))):=N1 rfl
theorem E0l{d x i sz}:go P (.dops ((E (n::N),G,.iaddr d x i sz)::its)::k) Q .normal (E σ)=go P (.dops its::k) Q .normal (Y5 σ (n::N) (E d) ((σ.less (n::N)).step (.iaddr d x i sz))):=N1 rfl
theorem E0j{d x i len sz}:go P (.dops ((E (n::N),G,.aaddr d x i len sz)::its)::k) Q .normal (E σ)=go P (.dops its::k) Q .normal (Y5 σ (n::N) (E d) ((σ.less (n::N)).step (.aaddr d x i len sz))):=N1 rfl
theorem E9a{d x i}:go P (.dops ((E (n::N),G,.idx d x i)::its)::k) Q .normal (E σ)=go P (.dops its::k) Q .normal (Y5 σ (n::N) (E d) ((σ.less (n::N)).step (.idx d x i))):=N1 rfl
theorem E5o{d x i}:go P (.dops ((E (n::N),G,.extr d x i)::its)::k) Q .normal (E σ)=go P (.dops its::k) Q .normal (Y5 σ (n::N) (E d) ((σ.less (n::N)).step (.extr d x i))):=N1 rfl
theorem E4h{d t x}:go P (.dops ((E (n::N),G,.mkif d t x)::its)::k) Q .normal (E σ)=go P (.dops its::k) Q .normal (Y5 σ (n::N) (E d) ((σ.less (n::N)).step (.mkif d t x))):=N1 rfl
theorem E6t{d x t zc}:go P (.dops ((E (n::N),G,.tass d x t zc)::its)::k) Q .normal (E σ)=go P (.dops its::k) Q .normal (Y5 σ (n::N) (E d) ((σ.less (n::N)).step (.tass d x t zc))):=N1 rfl
theorem E9t{d x}:go P (.dops ((E (n::N),G,.len d x)::its)::k) Q .normal (E σ)=go P (.dops its::k) Q .normal (Y5 σ (n::N) (E d) ((σ.less (n::N)).step (.len d x))):=N1 rfl
theorem E38{d x}:go P (.dops ((E (n::N),G,.slen d x)::its)::k) Q .normal (E σ)=go P (.dops its::k) Q .normal (Y5 σ (n::N) (E d) ((σ.less (n::N)).step (.slen d x))):=N1 rfl
theorem D96{d x}:go P (.dops ((E (n::N),G,.sconv d x)::its)::k) Q .normal (E σ)=go P (.dops its::k) Q .normal (Y5 σ (n::N) (E d) ((σ.less (n::N)).step (.sconv d x))):=N1 rfl
theorem F2d{d m x y}:go P (.dops ((E (n::N),G,.mm d m x y)::its)::k) Q .normal (E σ)=go P (.dops its::k) Q .normal (Y5 σ (n::N) (E d) ((σ.less (n::N)).step (.mm d m x y))):=N1 rfl
theorem E80{d f caps}:go P (.dops ((E (n::N),G,.mkf d f caps)::its)::k) Q .normal (E σ)=go P (.dops its::k) Q .normal (Y5 σ (n::N) (E d) ((σ.less (n::N)).step (.mkf d f caps))):=N1 rfl
theorem E1u{t:L}{o:AOp}{N:H L}:go P (.dops ((E N,E (t,T),o)::its)::k) Q .normal (E σ)=go P (.gdd (σ.get t) T (E N) o its::k) Q .normal (E σ):=by
 show G8 (E (t,T)) σ _ _=_
 rw[D1e]
 show _=A07 _ _ _ _
 simp only[cond_true]
 congr 1<;>(cases o.dst<;>rfl)
theorem E2d{t:L}{o:AOp}{N:H L}:go P (.dops ((E N,E (t,F),o)::its)::k) Q .normal (E σ)=go P (.gdd (σ.get t) F (E N) o its::k) Q .normal (E σ):=by
 show G8 (E (t,F)) σ _ _=_
 rw[D0n]
 show _=A07 _ _ _ _
 simp only[cond_false]
 congr 1<;>(cases o.dst<;>rfl)
theorem F95{b:Bool}{o:AOp}{N:Option (H L)}:go P (.gdd (.v (.sc (.dat (.bool b)))) b N o its::k) Q .normal (E σ)=go P (.dops ((N,G,o)::its)::k) Q .normal (E σ):=by
 cases b<;>simp[go,go0,A07]
theorem F8s{o:AOp}{N:Option (H L)}:go P (.gdd (.v (.sc (.dat (.bool F)))) T N o its::k) Q .normal (E σ)=go P (.dops its::k) Q .normal (unw σ o.dst):=by
 simp only[go,go0,A07,cond_true]
 cases o.dst<;>simp[A1d,unw]
theorem F80{o:AOp}{N:Option (H L)}:go P (.gdd (.v (.sc (.dat (.bool T)))) F N o its::k) Q .normal (E σ)=go P (.dops its::k) Q .normal (unw σ o.dst):=by
 simp only[go,go0,A07,cond_false]
 cases o.dst<;>simp[A1d,unw]
theorem F96{w:Bool}{o:AOp}{N:Option (H L)}:go P (.gdd .no w N o its::k) Q .normal (E σ)=go P (.dops its::k) Q .normal (unw σ o.dst):=by
 simp only[go,go0,A07]
 cases o.dst<;>simp[A1d,unw]
theorem D6z{w:Bool}{o:AOp}{its:H AItem}:go P (.gd .no w o its::k) Q .normal (E σ)=go P (.ops its::k) Q .normal (unw σ o.dst):=by
 simp only[go,go0,A07]
 cases o.dst<;>simp[A1d,unw]
end
def B0u(k:L):H L→Bool
 | []=>F
 | n::r=>bif k==n then T else B0u k r
def A72{α:Type}(f:L→L)(N:H L):H (L × α)→H (L × α)
 | []=> []
 | (k,v)::r=>bif B0u (f k) N then A72 f N r else(k,v)::A72 f N r
theorem B3u(k:L):∀N:H L,B0u k N=N.contains k
 | []=>rfl
 | n::r=>by
  simp only[B0u,O,B3u k r]
  cases k==n<;>rfl
theorem B9g{α:Type}(f:L→L)(N:H L):∀l:H (L × α),A72 f N l=l.filter fun p=> !N.contains (f p.1)
 | []=>rfl
 | (k,v)::r=>by
  simp only[A72,B3u,List.filter_cons,B9g f N r]
  cases N.contains (f k)<;>rfl
theorem E4i{env bx rows}{n:L}{N:H L}:(St.mk env bx rows).less (n::N)=⟨env,A72 id (n::N) bx,A72 (· / 64) (n::N) rows⟩:=by
 rw[B9g,B9g]
 rfl
theorem E18{k:L}:B0u k []=F:=rfl
theorem D76{k n:L}{r:H L}:B0u k (n::r)=bif k==n then T else B0u k r:=rfl
theorem D9m{α:Type}{f:L→L}{N:H L}:A72 f N ([]:H (L × α))= []:=rfl
theorem E5t{α:Type}{N:H L}{k:L}{v:α}{r:H (L × α)}:A72 id N ((k,v)::r)=bif B0u k N then A72 id N r else(k,v)::A72 id N r:=rfl
theorem E69{α:Type}{N:H L}{k:L}{v:α}{r:H (L × α)}:A72 (· / 64) N ((k,v)::r)=bif B0u (k / 64) N then A72 (· / 64) N r else(k,v)::A72 (· / 64) N r:=rfl
theorem D79{σ τ:St}{N:H L}{d:L}:Y5 σ N (E d) (E τ)=bif (τ.get d).avoids N then E (σ.set d (τ.get d)) else G:=rfl
theorem E1j{σ:St}{d:L}:unw σ (E d)=E (σ.set d .no):=rfl
theorem F1t{N:H L}{d:D}:AV.avoids N (.v (.sc (.dat d)))=T:=by simp[AV.avoids,AV.cells,V1.cells,AC.avoids,AC.uses]
theorem F1o{N:H L}:AV.avoids N (.v (.sc .nil))=T:=by simp[AV.avoids,AV.cells,V1.cells,AC.avoids,AC.uses]
theorem E9w{N:H L}{i:L}:AV.avoids N (.v (.sc (.own i)))= !B0u (i / 64) N:=by
 rw[B3u]
 induction N with
 | nil=>rfl
 | cons n N ih=>
  simp only[AV.avoids,AV.cells,V1.cells,AC.avoids,AC.uses,U,List.all_nil,V,O] at ih ⊢
  rw[ih]
  cases(i / 64==n)<;>simp
theorem F79{N:H L}{i o:L}:AV.avoids N (.v (.sc (.pb i o)))= !B0u i N:=by
 rw[B3u]
 induction N with
 | nil=>rfl
 | cons n N ih=>
  simp only[AV.avoids,AV.cells,V1.cells,AC.avoids,AC.uses,U,List.all_nil,V,O] at ih ⊢
  rw[ih]
  cases(i==n)<;>simp
theorem F3q{N:H L}{i x o:L}:AV.avoids N (.v (.sc (.pe i x o)))= !B0u (i / 64) N:=by
 rw[B3u]
 induction N with
 | nil=>rfl
 | cons n N ih=>
  simp only[AV.avoids,AV.cells,V1.cells,AC.avoids,AC.uses,U,List.all_nil,V,O] at ih ⊢
  rw[ih]
  cases(i / 64==n)<;>simp
theorem E89{N:H L}:AV.avoids N (.v (.ag []))=T:=rfl
theorem F90{N:H L}{c:AC}{cs:H AC}:AV.avoids N (.v (.ag (c::cs)))=((AV.v (.sc c)).avoids N&&(AV.v (.ag cs)).avoids N):=by simp[AV.avoids,AV.cells,V1.cells]
theorem D21:(!F)=T:=rfl
theorem D7u:(!T)=F:=rfl
theorem E9i:(T&&T)=T:=rfl
theorem E91{d x}:AOp.dst (.mv d x)=E d:=rfl
theorem D8u{d c a b}:AOp.dst (.pick d c a b)=E d:=rfl
theorem D6y{d zs ps}:AOp.dst (.build d zs ps)=E d:=rfl
theorem E1z{d x g n}:AOp.dst (.load d x g n)=E d:=rfl
theorem E08{d x}:AOp.dst (.nilc d x)=E d:=rfl
theorem E4z{d op x y}:AOp.dst (.bin d op x y)=E d:=rfl
theorem E4u{d g ks x y}:AOp.dst (.geq d g ks x y)=E d:=rfl
theorem E4l{d g x y}:AOp.dst (.beq d g x y)=E d:=rfl
theorem F1g{d op x}:AOp.dst (.un d op x)=E d:=rfl
theorem E04{d kd x}:AOp.dst (.conv d kd x)=E d:=rfl
theorem E7d{d sz x lo hi mx}:AOp.dst (.slc d sz x lo hi mx)=E d:=rfl
theorem D88{d x lo hi}:AOp.dst (.sslc d x lo hi)=E d:=rfl
theorem D7m{d x off}:AOp.dst (.faddr d x off)=E d:=rfl
theorem D7x{d x off g n}:AOp.dst (.field d x off g n)=E d:=rfl
theorem D62{d x i sz}:AOp.dst (.iaddr d x i sz)=E d:=rfl
theorem D55{d x i len sz}:AOp.dst (.aaddr d x i len sz)=E d:=rfl
theorem E5l{d x i}:AOp.dst (.idx d x i)=E d:=rfl
theorem D8t{d x i}:AOp.dst (.extr d x i)=E d:=rfl
theorem E1f{d t x}:AOp.dst (.mkif d t x)=E d:=rfl
theorem E09{d x t zc}:AOp.dst (.tass d x t zc)=E d:=rfl
theorem E35{d x}:AOp.dst (.len d x)=E d:=rfl
theorem E0e{d x}:AOp.dst (.slen d x)=E d:=rfl
theorem D74{d x}:AOp.dst (.sconv d x)=E d:=rfl
theorem E98{d m x y}:AOp.dst (.mm d m x y)=E d:=rfl
theorem E4c{d f caps}:AOp.dst (.mkf d f caps)=E d:=rfl
theorem E54{d x}:AOp.dst (.box d x)=E d:=rfl
theorem D6o{d cs}:AOp.dst (.alloc d cs)=E d:=rfl
theorem D2x{d sz zs len ps}:AOp.dst (.bslice d sz zs len ps)=E d:=rfl
theorem D94{d sz b zs x y}:AOp.dst (.mksl d sz b zs x y)=E d:=rfl
theorem E2e{d f args}:AOp.dst (.call d f args)=E d:=rfl
theorem D7n{d x args}:AOp.dst (.callv d x args)=E d:=rfl
def F31(rs:H R1):Bool:=(rs.flatMap R1.cells).all fun | .v d=>d.flat | .o _ _=>F
theorem N9{rs:H R1}(h:F31 rs=T):A5l rs:=by
 intro c hc
 have:=List.all_eq_true.1 h c hc
 cases c with
 | v d=>exact this
 | o=>cases this
end Go.Vi
