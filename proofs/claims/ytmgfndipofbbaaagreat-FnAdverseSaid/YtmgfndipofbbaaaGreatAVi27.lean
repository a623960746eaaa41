/-
The value level. No condition.
-/
import Derived.Test.YtmgfndipofbbaaaGreatAVi26
namespace Go.Vi
set_option linter.all false
open List renaming contains_cons → H, all_cons → L
open Bool renaming and_true → O, true → T, false → F
open Option renaming some → E, none → G
section
variable {P : Program}
end
theorem D7s{α:Type}{n:Nat}:A6 ([]:List (Nat × α)) n=G:=rfl
theorem D4p{α:Type}{k n:Nat}{v:α}{r:List (Nat × α)}:A6 ((k,v)::r) n=bif k==n then E v else A6 r n:=rfl
theorem E19{α:Type}{n:Nat}{v:α}:put ([]:List (Nat × α)) n v= [(n,v)]:=rfl
theorem D8h{α:Type}{k n:Nat}{u v:α}{r:List (Nat × α)}:put ((k,u)::r) n v=bif k==n then(k,v)::r else(k,u)::put r n v:=rfl
theorem E8h{σ:St}{n:Nat}:σ.val (.t n)=σ.get n:=rfl
theorem F14{σ:St}{v:AV}:σ.val (.c v)=v:=rfl
theorem E4v{env bx rows}{k:Nat}:(St.mk env bx rows).get k=(A6 env k).getD .undef:=rfl
theorem E4a{env bx rows}{k:Nat}{v:AV}:(St.mk env bx rows).set k v=⟨put env k v,bx,rows⟩:=rfl
theorem getD_some{α:Type}{a b:α}:(E a).getD b=a:=rfl
theorem D3e{α:Type}{b:α}:(G:Option α).getD b=b:=rfl
theorem map_some{α β:Type}{f:α→β}{a:α}:(E a).map f=E (f a):=rfl
theorem map_none{α β:Type}{f:α→β}:(G:Option α).map f=G:=rfl
theorem E9w{α:Type}{a b:α}:cond T a b=a:=rfl
theorem E7x{α:Type}{a b:α}:cond F a b=b:=rfl
theorem D59{s:List UInt8}:B5j (.v (.sc (.dat (.str s))))=E (.v (.sc (.dat (.int .i64 s.length)))):=rfl
theorem E4x{rs:Rows}{es:List (List D)}:B0t rs (.v (.sc (.dat (.sl es))))=E (.v (.sc (.dat (.int .i64 es.length)))):=rfl
theorem D5a{rs:Rows}{es:List (List D)}:A8r rs (.v (.sc (.dat (.sl es))))=(A2i es).map fun b=> .v (.sc (.dat (.str b))):=rfl
theorem D3m{rs:Rows}{id:Nat}:A8r rs (.v (.sc (.own id)))=match A6 rs id with | some (_,es)=>(A2i es).map fun b=> .v (.sc (.dat (.str b))) | none=>G:=rfl
theorem D92{rs:Rows}:B0t rs (.v (.sc .nil))=E (.v (.sc (.dat (.int .i64 0)))):=rfl
theorem D8o{k k':IntKind}{n:Int}:C9t k (.v (.sc (.dat (.int k' n))))=E (.v (.sc (.dat (.int k (k.wrap n))))):=rfl
theorem E1c{op:BinOp}{k:IntKind}{x y:Int}:A4a op (.v (.sc (.dat (.int k x)))) (.v (.sc (.dat (.int k y))))=(M5 op k x y).map fun d=> .v (.sc (.dat d)):=by simp[A4a]
theorem E1e{op:BinOp}{x y:List UInt8}:A4a op (.v (.sc (.dat (.str x)))) (.v (.sc (.dat (.str y))))=(B37 op x y).map fun d=> .v (.sc (.dat d)):=rfl
theorem E09{k:IntKind}{x y:Int}:M5 .add k x y=E (.int k (k.wrap (x+y))):=rfl
theorem E0w{k:IntKind}{x y:Int}:M5 .sub k x y=E (.int k (k.wrap (x - y))):=rfl
theorem D95{k:IntKind}{x y:Int}:M5 .mul k x y=E (.int k (k.wrap (x*y))):=rfl
theorem E1o{k:IntKind}{x y:Int}:M5 .quo k x y=bif y==0 then G else E (.int k (k.wrap (x.tdiv y))):=by
 by_cases h:y=0
 ·simp[M5,h]
 ·have h':(y==0)=F:=by simpa using h
  simp[M5,h,h']
theorem E15{k:IntKind}{x y:Int}:M5 .rem k x y=bif y==0 then G else E (.int k (k.wrap (x.tmod y))):=by
 by_cases h:y=0
 ·simp[M5,h]
 ·have h':(y==0)=F:=by simpa using h
  simp[M5,h,h']
theorem E2e{k:IntKind}{x y:Int}:M5 .eql k x y=E (.bool (x==y)):=rfl
theorem E07{k:IntKind}{x y:Int}:M5 .neq k x y=E (.bool (x !=y)):=rfl
theorem E2x{k:IntKind}{x y:Int}:M5 .lss k x y=E (.bool (decide (x<y))):=rfl
theorem E3l{k:IntKind}{x y:Int}:M5 .leq k x y=E (.bool (decide (x≤y))):=rfl
theorem E1u{k:IntKind}{x y:Int}:M5 .gtr k x y=E (.bool (decide (y<x))):=rfl
theorem D90{k:IntKind}{x y:Int}:M5 .geq k x y=E (.bool (decide (y≤x))):=rfl
theorem E2z{x y:List UInt8}:B37 .eql x y=E (.bool (x==y)):=rfl
theorem E3f{x y:List UInt8}:B37 .neq x y=E (.bool (!(x==y))):=rfl
theorem E5i{b:Bool}:unV .not (.v (.sc (.dat (.bool b))))=E (.v (.sc (.dat (.bool (!b))))):=rfl
theorem D9s{s:List UInt8}{k:IntKind}{i:Int}:C0p (.v (.sc (.dat (.str s)))) (.v (.sc (.dat (.int k i))))=(ix s i).map fun b=> .v (.sc (.dat (.int .u8 b.toNat))):=rfl
theorem E6x{α:Type}{l:List α}{i:Nat}(h:i<l.length):ix l (i:Int)=E l[i]:=by simp[ix,h]
theorem D48{off:Nat}{g:Bool}{n:Nat}{cs:List AC}:A8q off g n (.v (.ag cs))=A1k cs off g n:=rfl
theorem E20{cs:List AC}{off n:Nat}:A1k cs off F n=(cs[off]?).map fun c=> .v (.sc c):=rfl
theorem D97{env bx rows}{d:Nat}{rs:List R1}:(St.mk env bx rows).inst d rs=⟨put env d (O0 d rs),bx,M4 rows (Q3 d rs)⟩:=rfl
theorem C6x{g:Nat}{r:R1}:O0 g [r]= .v (r.inst g 0):=rfl
theorem C61{g:Nat}{r r':R1}{rs:List R1}:O0 g (r::r'::rs)= .tup (A04 g 0 (r::r'::rs)):=rfl
theorem C5h{g j:Nat}:A04 g j []= []:=rfl
theorem C2a{g j:Nat}{r:R1}{rs:List R1}:A04 g j (r::rs)=r.inst g j::A04 g (j+r.width) rs:=rfl
theorem D6a{c:RC}:R1.width (.sc c)=1:=rfl
theorem D70{cs:List RC}:R1.width (.ag cs)=cs.length:=rfl
theorem E4e{g j:Nat}{d:D}:RC.inst g j (.v d)= .dat d:=rfl
theorem E5p{g j sz:Nat}{es:List (List D)}:RC.inst g j (.o sz es)= .own (g*64+j):=rfl
theorem E03{g j:Nat}{c:RC}:R1.inst g j (.sc c)= .sc (c.inst g j):=rfl
theorem E1v{g j:Nat}{cs:List RC}:R1.inst g j (.ag cs)= .ag (A1g g j cs):=rfl
theorem C19{g j:Nat}:A1g g j []= []:=rfl
theorem C0f{g j:Nat}{c:RC}{cs:List RC}:A1g g j (c::cs)=c.inst g j::A1g g (j+1) cs:=rfl
theorem C67{g:Nat}:Q3 g []= []:=rfl
theorem C7l{g:Nat}{r:R1}:Q3 g [r]=J7 g 0 r.cells:=by simp[Q3]
theorem C6s{g:Nat}{r r':R1}:Q3 g [r,r']=J7 g 0 (r.cells++r'.cells):=by simp[Q3]
theorem D8n{c:RC}:R1.cells (.sc c)= [c]:=rfl
theorem D60{cs:List RC}:R1.cells (.ag cs)=cs:=rfl
theorem C2i{g j:Nat}:J7 g j []= []:=rfl
theorem C62{g j:Nat}{d:D}{cs:List RC}:J7 g j (.v d::cs)=J7 g (j+1) cs:=rfl
theorem C6z{g j sz:Nat}{es:List (List D)}{cs:List RC}:J7 g j (.o sz es::cs)=(g*64+j,sz,es)::J7 g (j+1) cs:=rfl
theorem C9x{rows:Rows}:M4 rows []=rows:=rfl
theorem C7g{rows r:Rows}{k:Nat}{x:Nat × List (List D)}:M4 rows ((k,x)::r)=put (M4 rows r) k x:=rfl
theorem E1q{α:Type}{l:List α}: []++l=l:=rfl
theorem D73{α:Type}{a:α}{l m:List α}:(a::l)++m=a::(l++m):=rfl
theorem D5q{x:Int}:(x !=x)=F:=by simp
theorem D53{x:Int}:(x==x)=T:=by simp
section
variable {P : Program} {k : List Fr} {Q : AExit → St → Prop} {σ : St} {its : List O4} {n : Nat} {N : List Nat}
theorem F3k{d x}:go P (.dops ((E [],G,.mv d x)::its)::k) Q .normal (E σ)=go P (.ops [(G,.mv d x)]:: .dops its::k) Q .normal (E σ):=J2 rfl rfl
theorem E28{d c a b}:go P (.dops ((E [],G,.pick d c a b)::its)::k) Q .normal (E σ)=go P (.ops [(G,.pick d c a b)]:: .dops its::k) Q .normal (E σ):=J2 rfl rfl
theorem D6c{d zs ps}:go P (.dops ((E [],G,.build d zs ps)::its)::k) Q .normal (E σ)=go P (.ops [(G,.build d zs ps)]:: .dops its::k) Q .normal (E σ):=J2 rfl rfl
theorem D9z{d x g n}:go P (.dops ((E [],G,.load d x g n)::its)::k) Q .normal (E σ)=go P (.ops [(G,.load d x g n)]:: .dops its::k) Q .normal (E σ):=J2 rfl rfl
theorem E24{d x}:go P (.dops ((E [],G,.nilc d x)::its)::k) Q .normal (E σ)=go P (.ops [(G,.nilc d x)]:: .dops its::k) Q .normal (E σ):=J2 rfl rfl
theorem E6m{d op x y}:go P (.dops ((E [],G,.bin d op x y)::its)::k) Q .normal (E σ)=go P (.ops [(G,.bin d op x y)]:: .dops its::k) Q .normal (E σ):=J2 rfl rfl
theorem E6s{d g ks x y}:go P (.dops ((E [],G,.geq d g ks x y)::its)::k) Q .normal (E σ)=go P (.ops [(G,.geq d g ks x y)]:: .dops its::k) Q .normal (E σ):=J2 rfl rfl
theorem E64{d g x y}:go P (.dops ((E [],G,.beq d g x y)::its)::k) Q .normal (E σ)=go P (.ops [(G,.beq d g x y)]:: .dops its::k) Q .normal (E σ):=J2 rfl rfl
theorem F3s{d op x}:go P (.dops ((E [],G,.un d op x)::its)::k) Q .normal (E σ)=go P (.ops [(G,.un d op x)]:: .dops its::k) Q .normal (E σ):=J2 rfl rfl
theorem E3r{d kd x}:go P (.dops ((E [],G,.conv d kd x)::its)::k) Q .normal (E σ)=go P (.ops [(G,.conv d kd x)]:: .dops its::k) Q .normal (E σ):=J2 rfl rfl
theorem E4y{d sz x lo hi mx}:go P (.dops ((E [],G,.slc d sz x lo hi mx)::its)::k) Q .normal (E σ)=go P (.ops [(G,.slc d sz x lo hi mx)]:: .dops its::k) Q .normal (E σ):=J2 rfl rfl
theorem E1g{d x lo hi}:go P (.dops ((E [],G,.sslc d x lo hi)::its)::k) Q .normal (E σ)=go P (.ops [(G,.sslc d x lo hi)]:: .dops its::k) Q .normal (E σ):=J2 rfl rfl
theorem D7x{d x off}:go P (.dops ((E [],G,.faddr d x off)::its)::k) Q .normal (E σ)=go P (.ops [(G,.faddr d x off)]:: .dops its::k) Q .normal (E σ):=J2 rfl rfl
theorem D62{d x off g n}:go P (.dops ((E [],G,.field d x off g n)::its)::k) Q .normal (E σ)=go P (.ops [(G,.field d x off g n)]:: .dops its::k) Q .normal (E σ):=J2 rfl rfl
theorem D8f{d x i sz}:go P (.dops ((E [],G,.iaddr d x i sz)::its)::k) Q .normal (E σ)=go P (.ops [(G,.iaddr d x i sz)]:: .dops its::k) Q .normal (E σ):=J2 rfl rfl
theorem D8l{d x i len sz}:go P (.dops ((E [],G,.aaddr d x i len sz)::its)::k) Q .normal (E σ)=go P (.ops [(G,.aaddr d x i len sz)]:: .dops its::k) Q .normal (E σ):=J2 rfl rfl
theorem E7g{d x i}:go P (.dops ((E [],G,.idx d x i)::its)::k) Q .normal (E σ)=go P (.ops [(G,.idx d x i)]:: .dops its::k) Q .normal (E σ):=J2 rfl rfl
theorem E0z{d x i}:go P (.dops ((E [],G,.extr d x i)::its)::k) Q .normal (E σ)=go P (.ops [(G,.extr d x i)]:: .dops its::k) Q .normal (E σ):=J2 rfl rfl
theorem D91{d t x}:go P (.dops ((E [],G,.mkif d t x)::its)::k) Q .normal (E σ)=go P (.ops [(G,.mkif d t x)]:: .dops its::k) Q .normal (E σ):=J2 rfl rfl
theorem E29{d x t zc}:go P (.dops ((E [],G,.tass d x t zc)::its)::k) Q .normal (E σ)=go P (.ops [(G,.tass d x t zc)]:: .dops its::k) Q .normal (E σ):=J2 rfl rfl
theorem E51{d x}:go P (.dops ((E [],G,.len d x)::its)::k) Q .normal (E σ)=go P (.ops [(G,.len d x)]:: .dops its::k) Q .normal (E σ):=J2 rfl rfl
theorem E2i{d x}:go P (.dops ((E [],G,.slen d x)::its)::k) Q .normal (E σ)=go P (.ops [(G,.slen d x)]:: .dops its::k) Q .normal (E σ):=J2 rfl rfl
theorem D41{d x}:go P (.dops ((E [],G,.sconv d x)::its)::k) Q .normal (E σ)=go P (.ops [(G,.sconv d x)]:: .dops its::k) Q .normal (E σ):=J2 rfl rfl
theorem F18{d m x y}:go P (.dops ((E [],G,.mm d m x y)::its)::k) Q .normal (E σ)=go P (.ops [(G,.mm d m x y)]:: .dops its::k) Q .normal (E σ):=J2 rfl rfl
theorem E5u{d f caps}:go P (.dops ((E [],G,.mkf d f caps)::its)::k) Q .normal (E σ)=go P (.ops [(G,.mkf d f caps)]:: .dops its::k) Q .normal (E σ):=J2 rfl rfl
theorem E7k{d x}:go P (.dops ((E [],G,.box d x)::its)::k) Q .normal (E σ)=go P (.ops [(G,.box d x)]:: .dops its::k) Q .normal (E σ):=J2 rfl rfl
theorem D7y{d cs}:go P (.dops ((E [],G,.alloc d cs)::its)::k) Q .normal (E σ)=go P (.ops [(G,.alloc d cs)]:: .dops its::k) Q .normal (E σ):=J2 rfl rfl
theorem D4d{d sz zs len ps}:go P (.dops ((E [],G,.bslice d sz zs len ps)::its)::k) Q .normal (E σ)=go P (.ops [(G,.bslice d sz zs len ps)]:: .dops its::k) Q .normal (E σ):=J2 rfl rfl
theorem D9q{d sz b zs x y}:go P (.dops ((E [],G,.mksl d sz b zs x y)::its)::k) Q .normal (E σ)=go P (.ops [(G,.mksl d sz b zs x y)]:: .dops its::k) Q .normal (E σ):=J2 rfl rfl
theorem E9p{d x}:go P (.dops ((E (n::N),G,.mv d x)::its)::k) Q .normal (E σ)=go P (.dops its::k) Q .normal (U5 σ (n::N) (E d) ((σ.less (n::N)).step (.mv d x))):=L9 rfl
theorem E08{d c a b}:go P (.dops ((E (n::N),G,.pick d c a b)::its)::k) Q .normal (E σ)=go P (.dops its::k) Q .normal (U5 σ (n::N) (E d) ((σ.less (n::N)).step (.pick d c a b))):=L9 rfl
theorem D71{d zs ps}:go P (.dops ((E (n::N),G,.build d zs ps)::its)::k) Q .normal (E σ)=go P (.dops its::k) Q .normal (U5 σ (n::N) (E d) ((σ.less (n::N)).step (.build d zs ps))):=L9 rfl
theorem E2r{d x g m}:go P (.dops ((E (n::N),G,.load d x g m)::its)::k) Q .normal (E σ)=go P (.dops its::k) Q .normal (U5 σ (n::N) (E d) ((σ.less (n::N)).step (.load d x g m))):=L9 rfl
theorem E2t{d x}:go P (.dops ((E (n::N),G,.nilc d x)::its)::k) Q .normal (E σ)=go P (.dops its::k) Q .normal (U5 σ (n::N) (E d) ((σ.less (n::N)).step (.nilc d x))):=L9 rfl
theorem E4o{d op x y}:go P (.dops ((E (n::N),G,.bin d op x y)::its)::k) Q .normal (E σ)=go P (.dops its::k) Q .normal (U5 σ (n::N) (E d) ((σ.less (n::N)).step (.bin d op x y))):=L9 rfl
theorem E5r{d g ks x y}:go P (.dops ((E (n::N),G,.geq d g ks x y)::its)::k) Q .normal (E σ)=go P (.dops its::k) Q .normal (U5 σ (n::N) (E d) ((σ.less (n::N)).step (.geq d g ks x y))):=L9 rfl
theorem E3y{d g x y}:go P (.dops ((E (n::N),G,.beq d g x y)::its)::k) Q .normal (E σ)=go P (.dops its::k) Q .normal (U5 σ (n::N) (E d) ((σ.less (n::N)).step (.beq d g x y))):=L9 rfl
theorem F2u{d op x}:go P (.dops ((E (n::N),G,.un d op x)::its)::k) Q .normal (E σ)=go P (.dops its::k) Q .normal (U5 σ (n::N) (E d) ((σ.less (n::N)).step (.un d op x))):=L9 rfl
theorem E0s{d kd x}:go P (.dops ((E (n::N),G,.conv d kd x)::its)::k) Q .normal (E σ)=go P (.dops its::k) Q .normal (U5 σ (n::N) (E d) ((σ.less (n::N)).step (.conv d kd x))):=L9 rfl
theorem E4g{d sz x lo hi mx}:go P (.dops ((E (n::N),G,.slc d sz x lo hi mx)::its)::k) Q .normal (E σ)=go P (.dops its::k) Q .normal (U5 σ (n::N) (E d) ((σ.less (n::N)).step (.slc d sz x lo hi mx))):=L9 rfl
theorem E06{d x lo hi}:go P (.dops ((E (n::N),G,.sslc d x lo hi)::its)::k) Q .normal (E σ)=go P (.dops its::k) Q .normal (U5 σ (n::N) (E d) ((σ.less (n::N)).step (.sslc d x lo hi))):=L9 rfl
theorem D5n{d x off}:go P (.dops ((E (n::N),G,.faddr d x off)::its)::k) Q .normal (E σ)=go P (.dops its::k) Q .normal (U5 σ (n::N) (E d) ((σ.less (n::N)).step (.faddr d x off))):=L9 rfl
theorem D49{d x off g m}:go P (.dops ((E (n::N),G,.field d x off g m)::its)::k) Q .normal (E σ)=go P (.dops its::k) Q .normal (U5 σ (n::N) (E d) ((σ.less (n::N)).step (.field d x off g m))):=L9 rfl
theorem D5y{d x i sz}:go P (.dops ((E (n::N),G,.iaddr d x i sz)::its)::k) Q .normal (E σ)=go P (.dops its::k) Q .normal (U5 σ (n::N) (E d) ((σ.less (n::N)).step (.iaddr d x i sz))):=L9 rfl
theorem D66{d x i len sz}:go P (.dops ((E (n::N),G,.aaddr d x i len sz)::its)::k) Q .normal (E σ)=go P (.dops its::k) Q .normal (U5 σ (n::N) (E d) ((σ.less (n::N)).step (.aaddr d x i len sz))):=L9 rfl
theorem E7b{d x i}:go P (.dops ((E (n::N),G,.idx d x i)::its)::k) Q .normal (E σ)=go P (.dops its::k) Q .normal (U5 σ (n::N) (E d) ((σ.less (n::N)).step (.idx d x i))):=L9 rfl
theorem E0e{d x i}:go P (.dops ((E (n::N),G,.extr d x i)::its)::k) Q .normal (E σ)=go P (.dops its::k) Q .normal (U5 σ (n::N) (E d) ((σ.less (n::N)).step (.extr d x i))):=L9 rfl
theorem D9t{d t x}:go P (.dops ((E (n::N),G,.mkif d t x)::its)::k) Q .normal (E σ)=go P (.dops its::k) Q .normal (U5 σ (n::N) (E d) ((σ.less (n::N)).step (.mkif d t x))):=L9 rfl
theorem D9x{d x t zc}:go P (.dops ((E (n::N),G,.tass d x t zc)::its)::k) Q .normal (E σ)=go P (.dops its::k) Q .normal (U5 σ (n::N) (E d) ((σ.less (n::N)).step (.tass d x t zc))):=L9 rfl
theorem E3w{d x}:go P (.dops ((E (n::N),G,.len d x)::its)::k) Q .normal (E σ)=go P (.dops its::k) Q .normal (U5 σ (n::N) (E d) ((σ.less (n::N)).step (.len d x))):=L9 rfl
theorem E1m{d x}:go P (.dops ((E (n::N),G,.slen d x)::its)::k) Q .normal (E σ)=go P (.dops its::k) Q .normal (U5 σ (n::N) (E d) ((σ.less (n::N)).step (.slen d x))):=L9 rfl
theorem D8m{d x}:go P (.dops ((E (n::N),G,.sconv d x)::its)::k) Q .normal (E σ)=go P (.dops its::k) Q .normal (U5 σ (n::N) (E d) ((σ.less (n::N)).step (.sconv d x))):=L9 rfl
theorem E9q{d m x y}:go P (.dops ((E (n::N),G,.mm d m x y)::its)::k) Q .normal (E σ)=go P (.dops its::k) Q .normal (U5 σ (n::N) (E d) ((σ.less (n::N)).step (.mm d m x y))):=L9 rfl
theorem E3v{d f caps}:go P (.dops ((E (n::N),G,.mkf d f caps)::its)::k) Q .normal (E σ)=go P (.dops its::k) Q .normal (U5 σ (n::N) (E d) ((σ.less (n::N)).step (.mkf d f caps))):=L9 rfl
theorem D5u{t:Nat}{o:AOp}{N:List Nat}:go P (.dops ((E N,E (t,T),o)::its)::k) Q .normal (E σ)=go P (.gdd (σ.get t) T (E N) o its::k) Q .normal (E σ):=by
 show G5 (E (t,T)) σ _ _=_
 rw[C7t]
 show _=Z9 _ _ _ _
 simp only[cond_true]
 congr 1<;>(cases o.dst<;>rfl)
theorem D6h{t:Nat}{o:AOp}{N:List Nat}:go P (.dops ((E N,E (t,F),o)::its)::k) Q .normal (E σ)=go P (.gdd (σ.get t) F (E N) o its::k) Q .normal (E σ):=by
 show G5 (E (t,F)) σ _ _=_
 rw[C78]
 show _=Z9 _ _ _ _
 simp only[cond_false]
 congr 1<;>(cases o.dst<;>rfl)
theorem E83{b:Bool}{o:AOp}{N:Option (List Nat)}:go P (.gdd (.v (.sc (.dat (.bool b)))) b N o its::k) Q .normal (E σ)=go P (.dops ((N,G,o)::its)::k) Q .normal (E σ):=by
 cases b<;>simp[go,go0,Z9]
theorem E8k{o:AOp}{N:Option (List Nat)}:go P (.gdd (.v (.sc (.dat (.bool F)))) T N o its::k) Q .normal (E σ)=go P (.dops its::k) Q .normal (unw σ o.dst):=by
 simp only[go,go0,Z9,cond_true]
 cases o.dst<;>simp[A0a,unw]
theorem E9s{o:AOp}{N:Option (List Nat)}:go P (.gdd (.v (.sc (.dat (.bool T)))) F N o its::k) Q .normal (E σ)=go P (.dops its::k) Q .normal (unw σ o.dst):=by
 simp only[go,go0,Z9,cond_false]
 cases o.dst<;>simp[A0a,unw]
theorem E8n{w:Bool}{o:AOp}{N:Option (List Nat)}:go P (.gdd .no w N o its::k) Q .normal (E σ)=go P (.dops its::k) Q .normal (unw σ o.dst):=by
 simp only[go,go0,Z9]
 cases o.dst<;>simp[A0a,unw]
theorem D27{w:Bool}{o:AOp}{its:List AItem}:go P (.gd .no w o its::k) Q .normal (E σ)=go P (.ops its::k) Q .normal (unw σ o.dst):=by
 simp only[go,go0,Z9]
 cases o.dst<;>simp[A0a,unw]
end
def A86(k:Nat):List Nat→Bool
 | []=>F
 | n::r=>bif k==n then T else A86 k r
def A53{α:Type}(f:Nat→Nat)(N:List Nat):List (Nat × α)→List (Nat × α)
 | []=> []
 | (k,v)::r=>bif A86 (f k) N then A53 f N r else(k,v)::A53 f N r
theorem B10(k:Nat):∀N:List Nat,A86 k N=N.contains k
 | []=>rfl
 | n::r=>by
  simp only[A86,H,B10 k r]
  cases k==n<;>rfl
theorem B6s{α:Type}(f:Nat→Nat)(N:List Nat):∀l:List (Nat × α),A53 f N l=l.filter fun p=> !N.contains (f p.1)
 | []=>rfl
 | (k,v)::r=>by
  simp only[A53,B10,List.filter_cons,B6s f N r]
  cases N.contains (f k)<;>rfl
theorem E1n{env bx rows}{n:Nat}{N:List Nat}:(St.mk env bx rows).less (n::N)=⟨env,A53 id (n::N) bx,A53 (· / 64) (n::N) rows⟩:=by
 rw[B6s,B6s]
 rfl
theorem D5r{k:Nat}:A86 k []=F:=rfl
theorem D3f{k n:Nat}{r:List Nat}:A86 k (n::r)=bif k==n then T else A86 k r:=rfl
theorem D6x{α:Type}{f:Nat→Nat}{N:List Nat}:A53 f N ([]:List (Nat × α))= []:=rfl
theorem E2l{α:Type}{N:List Nat}{k:Nat}{v:α}{r:List (Nat × α)}:A53 id N ((k,v)::r)=bif A86 k N then A53 id N r else(k,v)::A53 id N r:=rfl
theorem E0h{α:Type}{N:List Nat}{k:Nat}{v:α}{r:List (Nat × α)}:A53 (· / 64) N ((k,v)::r)=bif A86 (k / 64) N then A53 (· / 64) N r else(k,v)::A53 (· / 64) N r:=rfl
theorem D4r{σ τ:St}{N:List Nat}{d:Nat}:U5 σ N (E d) (E τ)=bif (τ.get d).avoids N then E (σ.set d (τ.get d)) else G:=rfl
theorem D5p{σ:St}{d:Nat}:unw σ (E d)=E (σ.set d .no):=rfl
theorem E6q{N:List Nat}{d:D}:AV.avoids N (.v (.sc (.dat d)))=T:=by simp[AV.avoids,AV.cells,V1.cells,AC.avoids,AC.uses]
theorem E41{N:List Nat}:AV.avoids N (.v (.sc .nil))=T:=by simp[AV.avoids,AV.cells,V1.cells,AC.avoids,AC.uses]
theorem E53{N:List Nat}{i:Nat}:AV.avoids N (.v (.sc (.own i)))= !A86 (i / 64) N:=by
 rw[B10]
 induction N with
 | nil=>rfl
 | cons n N ih=>
  simp only[AV.avoids,AV.cells,V1.cells,AC.avoids,AC.uses,L,List.all_nil,O,H] at ih ⊢
  rw[ih]
  cases(i / 64==n)<;>simp
theorem F2f{N:List Nat}{i o:Nat}:AV.avoids N (.v (.sc (.pb i o)))= !A86 i N:=by
 rw[B10]
 induction N with
 | nil=>rfl
 | cons n N ih=>
  simp only[AV.avoids,AV.cells,V1.cells,AC.avoids,AC.uses,L,List.all_nil,O,H] at ih ⊢
  rw[ih]
  cases(i==n)<;>simp
theorem E8a{N:List Nat}{i x o:Nat}:AV.avoids N (.v (.sc (.pe i x o)))= !A86 (i / 64) N:=by
 rw[B10]
 induction N with
 | nil=>rfl
 | cons n N ih=>
  simp only[AV.avoids,AV.cells,V1.cells,AC.avoids,AC.uses,L,List.all_nil,O,H] at ih ⊢
  rw[ih]
  cases(i / 64==n)<;>simp
theorem E5t{N:List Nat}:AV.avoids N (.v (.ag []))=T:=rfl
theorem F3z{N:List Nat}{c:AC}{cs:List AC}:AV.avoids N (.v (.ag (c::cs)))=((AV.v (.sc c)).avoids N&&(AV.v (.ag cs)).avoids N):=by simp[AV.avoids,AV.cells,V1.cells]
theorem C93:(!F)=T:=rfl
theorem D4n:(!T)=F:=rfl
theorem E6z:(T&&T)=T:=rfl
theorem E4u{d x}:AOp.dst (.mv d x)=E d:=rfl
theorem D5f{d c a b}:AOp.dst (.pick d c a b)=E d:=rfl
theorem D3b{d zs ps}:AOp.dst (.build d zs ps)=E d:=rfl
theorem D77{d x g n}:AOp.dst (.load d x g n)=E d:=rfl
theorem D51{d x}:AOp.dst (.nilc d x)=E d:=rfl
theorem E1h{d op x y}:AOp.dst (.bin d op x y)=E d:=rfl
theorem D96{d g ks x y}:AOp.dst (.geq d g ks x y)=E d:=rfl
theorem E0o{d g x y}:AOp.dst (.beq d g x y)=E d:=rfl
theorem E6r{d op x}:AOp.dst (.un d op x)=E d:=rfl
theorem D7j{d kd x}:AOp.dst (.conv d kd x)=E d:=rfl
theorem E3n{d sz x lo hi mx}:AOp.dst (.slc d sz x lo hi mx)=E d:=rfl
theorem D55{d x lo hi}:AOp.dst (.sslc d x lo hi)=E d:=rfl
theorem D2u{d x off}:AOp.dst (.faddr d x off)=E d:=rfl
theorem D2v{d x off g n}:AOp.dst (.field d x off g n)=E d:=rfl
theorem D3v{d x i sz}:AOp.dst (.iaddr d x i sz)=E d:=rfl
theorem D2l{d x i len sz}:AOp.dst (.aaddr d x i len sz)=E d:=rfl
theorem E0u{d x i}:AOp.dst (.idx d x i)=E d:=rfl
theorem D7d{d x i}:AOp.dst (.extr d x i)=E d:=rfl
theorem D8p{d t x}:AOp.dst (.mkif d t x)=E d:=rfl
theorem D61{d x t zc}:AOp.dst (.tass d x t zc)=E d:=rfl
theorem E0t{d x}:AOp.dst (.len d x)=E d:=rfl
theorem D5c{d x}:AOp.dst (.slen d x)=E d:=rfl
theorem D3h{d x}:AOp.dst (.sconv d x)=E d:=rfl
theorem E6i{d m x y}:AOp.dst (.mm d m x y)=E d:=rfl
theorem D9w{d f caps}:AOp.dst (.mkf d f caps)=E d:=rfl
theorem E1k{d x}:AOp.dst (.box d x)=E d:=rfl
theorem D20{d cs}:AOp.dst (.alloc d cs)=E d:=rfl
theorem C8t{d sz zs len ps}:AOp.dst (.bslice d sz zs len ps)=E d:=rfl
theorem D7b{d sz b zs x y}:AOp.dst (.mksl d sz b zs x y)=E d:=rfl
theorem D6g{d f args}:AOp.dst (.call d f args)=E d:=rfl
theorem D3y{d x args}:AOp.dst (.callv d x args)=E d:=rfl
def F1x(rs:List R1):Bool:=(rs.flatMap R1.cells).all fun | .v d=>d.flat | .o _ _=>F
theorem W7{rs:List R1}(h:F1x rs=T):A3m rs:=by
 intro c hc
 have:=List.all_eq_true.1 h c hc
 cases c with
 | v d=>exact this
 | o=>cases this
end Go.Vi
