/-
The value level. No condition.
-/
import Derived.Test.YthkepjhahmknfaaGreatDoorLVi26
namespace Go.Vi
set_option linter.all false
open List renaming contains_cons → O, all_cons → U
open Bool renaming and_true → V, true → T, false → F
open Option renaming some → E, none → G
open _root_ renaming List → H, Nat → L
section
variable {P : Program}
end
theorem uw{α:Type}{n:L}:A7 ([]:H (L × α)) n=G:=rfl
theorem uv{α:Type}{k n:L}{v:α}{r:H (L × α)}:A7 ((k,v)::r) n=bif k==n then E v else A7 r n:=rfl
theorem A4g{α:Type}{n:L}{v:α}:put ([]:H (L × α)) n v= [(n,v)]:=rfl
theorem A4f{α:Type}{k n:L}{u v:α}{r:H (L × α)}:put ((k,u)::r) n v=bif k==n then(k,v)::r else(k,u)::put r n v:=rfl
theorem A8m{σ:St}{n:L}:σ.val (.t n)=σ.get n:=rfl
theorem A8l{σ:St}{v:AV}:σ.val (.c v)=v:=rfl
theorem vd{env bx rows}{k:L}:(St.mk env bx rows).get k=(A7 env k).getD .undef:=rfl
theorem A5t{env bx rows}{k:L}{v:AV}:(St.mk env bx rows).set k v=⟨put env k v,bx,rows⟩:=rfl
theorem getD_some{α:Type}{a b:α}:(E a).getD b=a:=rfl
theorem vb{α:Type}{b:α}:(G:Option α).getD b=b:=rfl
theorem map_some{α β:Type}{f:α→β}{a:α}:(E a).map f=E (f a):=rfl
theorem map_none{α β:Type}{f:α→β}:(G:Option α).map f=G:=rfl
theorem qu{α:Type}{a b:α}:cond T a b=a:=rfl
theorem qt{α:Type}{a b:α}:cond F a b=b:=rfl
theorem A51{s:H UInt8}:KY (.v (.sc (.dat (.str s))))=E (.v (.sc (.dat (.int .i64 s.length)))):=rfl
theorem A1q{rs:Rows}{es:H (H D)}:DT rs (.v (.sc (.dat (.sl es))))=E (.v (.sc (.dat (.int .i64 es.length)))):=rfl
theorem A5k{rs:Rows}{es:H (H D)}:GE rs (.v (.sc (.dat (.sl es))))=(D8 es).map fun b=> .v (.sc (.dat (.str b))):=rfl
theorem A5j{rs:Rows}{id:L}:GE rs (.v (.sc (.own id)))=match A7 rs id with | some (_,es)=>(D8 es).map fun b=> .v (.sc (.dat (.str b))) | none=>G:=rfl
theorem A1n{rs:Rows}:DT rs (.v (.sc .nil))=E (.v (.sc (.dat (.int .i64 0)))):=rfl
theorem qw{k k':IntKind}{n:Int}:W7 k (.v (.sc (.dat (.int k' n))))=E (.v (.sc (.dat (.int k (k.wrap n))))):=rfl
theorem qI{op:BinOp}{k:IntKind}{x y:Int}:CL op (.v (.sc (.dat (.int k x)))) (.v (.sc (.dat (.int k y))))=(B8 op k x y).map fun d=> .v (.sc (.dat d)):=by simp[CL]
theorem qO{op:BinOp}{x y:H UInt8}:CL op (.v (.sc (.dat (.str x)))) (.v (.sc (.dat (.str y))))=(GH op x y).map fun d=> .v (.sc (.dat d)):=rfl
theorem zi{k:IntKind}{x y:Int}:B8 .add k x y=E (.int k (k.wrap (x+y))):=rfl
theorem A0c{k:IntKind}{x y:Int}:B8 .sub k x y=E (.int k (k.wrap (x - y))):=rfl
theorem zq{k:IntKind}{x y:Int}:B8 .mul k x y=E (.int k (k.wrap (x*y))):=rfl
theorem zv{k:IntKind}{x y:Int}:B8 .quo k x y=bif y==0 then G else E (.int k (k.wrap (x.tdiv y))):=by
 by_cases h:y=0
 ·simp[B8,h]
 ·have h':(y==0)=F:=by simpa using h
  simp[B8,h,h']
theorem zw{k:IntKind}{x y:Int}:B8 .rem k x y=bif y==0 then G else E (.int k (k.wrap (x.tmod y))):=by
 by_cases h:y=0
 ·simp[B8,h]
 ·have h':(y==0)=F:=by simpa using h
  simp[B8,h,h']
theorem zl{k:IntKind}{x y:Int}:B8 .eql k x y=E (.bool (x==y)):=rfl
theorem zt{k:IntKind}{x y:Int}:B8 .neq k x y=E (.bool (x !=y)):=rfl
theorem zp{k:IntKind}{x y:Int}:B8 .lss k x y=E (.bool (decide (x<y))):=rfl
theorem zo{k:IntKind}{x y:Int}:B8 .leq k x y=E (.bool (decide (x≤y))):=rfl
theorem zn{k:IntKind}{x y:Int}:B8 .gtr k x y=E (.bool (decide (y<x))):=rfl
theorem zm{k:IntKind}{x y:Int}:B8 .geq k x y=E (.bool (decide (y≤x))):=rfl
theorem A6z{x y:H UInt8}:GH .eql x y=E (.bool (x==y)):=rfl
theorem A60{x y:H UInt8}:GH .neq x y=E (.bool (!(x==y))):=rfl
theorem A8f{b:Bool}:J9 .not (.v (.sc (.dat (.bool b))))=E (.v (.sc (.dat (.bool (!b))))):=rfl
theorem xo{s:H UInt8}{k:IntKind}{i:Int}:Kz (.v (.sc (.dat (.str s)))) (.v (.sc (.dat (.int k i))))=(ix s i).map fun b=> .v (.sc (.dat (.int .u8 b.toNat))):=rfl
theorem A0i{α:Type}{l:H α}{i:L}(h:i<l.length):ix l (i:Int)=E l[i]:=by simp[ix,h]
theorem ur{off:L}{g:Bool}{n:L}{cs:H AC}:Gn off g n (.v (.ag cs))=CW cs off g n:=rfl
theorem qg{cs:H AC}{off n:L}:CW cs off F n=(cs[off]?).map fun c=> .v (.sc c):=rfl
theorem zd{env bx rows}{d:L}{rs:H R1}:(St.mk env bx rows).inst d rs=⟨put env d (C4 d rs),bx,Bt rows (BX d rs)⟩:=rfl
theorem yr{g:L}{r:R1}:C4 g [r]= .v (r.inst g 0):=rfl
theorem yu{g:L}{r r':R1}{rs:H R1}:C4 g (r::r'::rs)= .tup (De g 0 (r::r'::rs)):=rfl
theorem yz{g j:L}:De g j []= []:=rfl
theorem yy{g j:L}{r:R1}{rs:H R1}:De g j (r::rs)=r.inst g j::De g (j+r.width) rs:=rfl
theorem B33{c:RC}:R1.width (.sc c)=1:=rfl
theorem B32{cs:H RC}:R1.width (.ag cs)=cs.length:=rfl
theorem zg{g j:L}{d:D}:RC.inst g j (.v d)= .dat d:=rfl
theorem ze{g j sz:L}{es:H (H D)}:RC.inst g j (.o sz es)= .own (g*64+j):=rfl
theorem zf{g j:L}{c:RC}:R1.inst g j (.sc c)= .sc (c.inst g j):=rfl
theorem zb{g j:L}{cs:H RC}:R1.inst g j (.ag cs)= .ag (DQ g j cs):=rfl
theorem yx{g j:L}:DQ g j []= []:=rfl
theorem yw{g j:L}{c:RC}{cs:H RC}:DQ g j (c::cs)=c.inst g j::DQ g (j+1) cs:=rfl
theorem A42{g:L}:BX g []= []:=rfl
theorem A43{g:L}{r:R1}:BX g [r]=BR g 0 r.cells:=by simp[BX]
theorem A45{g:L}{r r':R1}:BX g [r,r']=BR g 0 (r.cells++r'.cells):=by simp[BX]
theorem qi{c:RC}:R1.cells (.sc c)= [c]:=rfl
theorem qe{cs:H RC}:R1.cells (.ag cs)=cs:=rfl
theorem A47{g j:L}:BR g j []= []:=rfl
theorem A49{g j:L}{d:D}{cs:H RC}:BR g j (.v d::cs)=BR g (j+1) cs:=rfl
theorem A48{g j sz:L}{es:H (H D)}{cs:H RC}:BR g j (.o sz es::cs)=(g*64+j,sz,es)::BR g (j+1) cs:=rfl
theorem A4c{rows:Rows}:Bt rows []=rows:=rfl
theorem A4b{rows r:Rows}{k:L}{x:L × H (H D)}:Bt rows ((k,x)::r)=put (Bt rows r) k x:=rfl
theorem pQ{α:Type}{l:H α}: []++l=l:=rfl
theorem pP{α:Type}{a:α}{l m:H α}:(a::l)++m=a::(l++m):=rfl
theorem qW{x:Int}:(x !=x)=F:=by simp
theorem qE{x:Int}:(x==x)=T:=by simp
section
variable {P : Program} {k : H Fr} {Q : Xk → St → Prop} {σ : St} {its : H Bl} {n : L} {N : H L}
theorem rd{d x}:go P (.dops ((E [],G,.mv d x)::its)::k) Q .normal (E σ)=go P (.ops [(G,.mv d x)]:: .dops its::k) Q .normal (E σ):=Bs rfl rfl
theorem rf{d c a b}:go P (.dops ((E [],G,.pick d c a b)::its)::k) Q .normal (E σ)=go P (.ops [(G,.pick d c a b)]:: .dops its::k) Q .normal (E σ):=Bs rfl rfl
theorem rM{d zs ps}:go P (.dops ((E [],G,.build d zs ps)::its)::k) Q .normal (E σ)=go P (.ops [(G,.build d zs ps)]:: .dops its::k) Q .normal (E σ):=Bs rfl rfl
theorem rX{d x g n}:go P (.dops ((E [],G,.load d x g n)::its)::k) Q .normal (E σ)=go P (.ops [(G,.load d x g n)]:: .dops its::k) Q .normal (E σ):=Bs rfl rfl
theorem re{d x}:go P (.dops ((E [],G,.nilc d x)::its)::k) Q .normal (E σ)=go P (.ops [(G,.nilc d x)]:: .dops its::k) Q .normal (E σ):=Bs rfl rfl
theorem rH{d op x y}:go P (.dops ((E [],G,.bin d op x y)::its)::k) Q .normal (E σ)=go P (.ops [(G,.bin d op x y)]:: .dops its::k) Q .normal (E σ):=Bs rfl rfl
theorem rR{d g ks x y}:go P (.dops ((E [],G,.geq d g ks x y)::its)::k) Q .normal (E σ)=go P (.ops [(G,.geq d g ks x y)]:: .dops its::k) Q .normal (E σ):=Bs rfl rfl
theorem rG{d g x y}:go P (.dops ((E [],G,.beq d g x y)::its)::k) Q .normal (E σ)=go P (.ops [(G,.beq d g x y)]:: .dops its::k) Q .normal (E σ):=Bs rfl rfl
theorem rl{d op x}:go P (.dops ((E [],G,.un d op x)::its)::k) Q .normal (E σ)=go P (.ops [(G,.un d op x)]:: .dops its::k) Q .normal (E σ):=Bs rfl rfl
theorem rN{d kd x}:go P (.dops ((E [],G,.conv d kd x)::its)::k) Q .normal (E σ)=go P (.ops [(G,.conv d kd x)]:: .dops its::k) Q .normal (E σ):=Bs rfl rfl
theorem rh{d sz x lo hi mx}:go P (.dops ((E [],G,.slc d sz x lo hi mx)::its)::k) Q .normal (E σ)=go P (.ops [(G,.slc d sz x lo hi mx)]:: .dops its::k) Q .normal (E σ):=Bs rfl rfl
theorem rj{d x lo hi}:go P (.dops ((E [],G,.sslc d x lo hi)::its)::k) Q .normal (E σ)=go P (.ops [(G,.sslc d x lo hi)]:: .dops its::k) Q .normal (E σ):=Bs rfl rfl
theorem rP{d x off}:go P (.dops ((E [],G,.faddr d x off)::its)::k) Q .normal (E σ)=go P (.ops [(G,.faddr d x off)]:: .dops its::k) Q .normal (E σ):=Bs rfl rfl
theorem rQ{d x off g n}:go P (.dops ((E [],G,.field d x off g n)::its)::k) Q .normal (E σ)=go P (.ops [(G,.field d x off g n)]:: .dops its::k) Q .normal (E σ):=Bs rfl rfl
theorem rT{d x i sz}:go P (.dops ((E [],G,.iaddr d x i sz)::its)::k) Q .normal (E σ)=go P (.ops [(G,.iaddr d x i sz)]:: .dops its::k) Q .normal (E σ):=Bs rfl rfl
theorem rE{d x i len sz}:go P (.dops ((E [],G,.aaddr d x i len sz)::its)::k) Q .normal (E σ)=go P (.ops [(G,.aaddr d x i len sz)]:: .dops its::k) Q .normal (E σ):=Bs rfl rfl
theorem rV{d x i}:go P (.dops ((E [],G,.idx d x i)::its)::k) Q .normal (E σ)=go P (.ops [(G,.idx d x i)]:: .dops its::k) Q .normal (E σ):=Bs rfl rfl
theorem rO{d x i}:go P (.dops ((E [],G,.extr d x i)::its)::k) Q .normal (E σ)=go P (.ops [(G,.extr d x i)]:: .dops its::k) Q .normal (E σ):=Bs rfl rfl
theorem rZ{d t x}:go P (.dops ((E [],G,.mkif d t x)::its)::k) Q .normal (E σ)=go P (.ops [(G,.mkif d t x)]:: .dops its::k) Q .normal (E σ):=Bs rfl rfl
theorem rk{d x t zc}:go P (.dops ((E [],G,.tass d x t zc)::its)::k) Q .normal (E σ)=go P (.ops [(G,.tass d x t zc)]:: .dops its::k) Q .normal (E σ):=Bs rfl rfl
theorem rW{d x}:go P (.dops ((E [],G,.len d x)::its)::k) Q .normal (E σ)=go P (.ops [(G,.len d x)]:: .dops its::k) Q .normal (E σ):=Bs rfl rfl
theorem ri{d x}:go P (.dops ((E [],G,.slen d x)::its)::k) Q .normal (E σ)=go P (.ops [(G,.slen d x)]:: .dops its::k) Q .normal (E σ):=Bs rfl rfl
theorem rg{d x}:go P (.dops ((E [],G,.sconv d x)::its)::k) Q .normal (E σ)=go P (.ops [(G,.sconv d x)]:: .dops its::k) Q .normal (E σ):=Bs rfl rfl
theorem rc{d m x y}:go P (.dops ((E [],G,.mm d m x y)::its)::k) Q .normal (E σ)=go P (.ops [(G,.mm d m x y)]:: .dops its::k) Q .normal (E σ):=Bs rfl rfl
theorem rY{d f caps}:go P (.dops ((E [],G,.mkf d f caps)::its)::k) Q .normal (E σ)=go P (.ops [(G,.mkf d f caps)]:: .dops its::k) Q .normal (E σ):=Bs rfl rfl
theorem rJ{d x}:go P (.dops ((E [],G,.box d x)::its)::k) Q .normal (E σ)=go P (.ops [(G,.box d x)]:: .dops its::k) Q .normal (E σ):=Bs rfl rfl
theorem rF{d cs}:go P (.dops ((E [],G,.alloc d cs)::its)::k) Q .normal (E σ)=go P (.ops [(G,.alloc d cs)]:: .dops its::k) Q .normal (E σ):=Bs rfl rfl
theorem rK{d sz zs len ps}:go P (.dops ((E [],G,.bslice d sz zs len ps)::its)::k) Q .normal (E σ)=go P (.ops [(G,.bslice d sz zs len ps)]:: .dops its::k) Q .normal (E σ):=Bs rfl rfl
theorem ra{d sz b zs x y}:go P (.dops ((E [],G,.mksl d sz b zs x y)::its)::k) Q .normal (E σ)=go P (.ops [(G,.mksl d sz b zs x y)]:: .dops its::k) Q .normal (E σ):=Bs rfl rfl
theorem sF{d x}:go P (.dops ((E (n::N),G,.mv d x)::its)::k) Q .normal (E σ)=go P (.dops its::k) Q .normal (Bz σ (n::N) (E d) ((σ.less (n::N)).step (.mv d x))):=BE rfl
theorem sH{d c a b}:go P (.dops ((E (n::N),G,.pick d c a b)::its)::k) Q .normal (E σ)=go P (.dops its::k) Q .normal (Bz σ (n::N) (E d) ((σ.less (n::N)).step (.pick d c a b))):=BE rfl
theorem rp{d zs ps}:go P (.dops ((E (n::N),G,.build d zs ps)::its)::k) Q .normal (E σ)=go P (.dops its::k) Q .normal (Bz σ (n::N) (E d) ((σ.less (n::N)).step (.build d zs ps))):=BE rfl
theorem sB{d x g m}:go P (.dops ((E (n::N),G,.load d x g m)::its)::k) Q .normal (E σ)=go P (.dops its::k) Q .normal (Bz σ (n::N) (E d) ((σ.less (n::N)).step (.load d x g m))):=BE rfl
theorem sG{d x}:go P (.dops ((E (n::N),G,.nilc d x)::its)::k) Q .normal (E σ)=go P (.dops its::k) Q .normal (Bz σ (n::N) (E d) ((σ.less (n::N)).step (.nilc d x))):=BE rfl
theorem ro{d op x y}:go P (.dops ((E (n::N),G,.bin d op x y)::its)::k) Q .normal (E σ)=go P (.dops its::k) Q .normal (Bz σ (n::N) (E d) ((σ.less (n::N)).step (.bin d op x y))):=BE rfl
theorem rx{d g ks x y}:go P (.dops ((E (n::N),G,.geq d g ks x y)::its)::k) Q .normal (E σ)=go P (.dops its::k) Q .normal (Bz σ (n::N) (E d) ((σ.less (n::N)).step (.geq d g ks x y))):=BE rfl
theorem rn{d g x y}:go P (.dops ((E (n::N),G,.beq d g x y)::its)::k) Q .normal (E σ)=go P (.dops its::k) Q .normal (Bz σ (n::N) (E d) ((σ.less (n::N)).step (.beq d g x y))):=BE rfl
theorem sN{d op x}:go P (.dops ((E (n::N),G,.un d op x)::its)::k) Q .normal (E σ)=go P (.dops its::k) Q .normal (Bz σ (n::N) (E d) ((σ.less (n::N)).step (.un d op x))):=BE rfl
theorem rq{d kd x}:go P (.dops ((E (n::N),G,.conv d kd x)::its)::k) Q .normal (E σ)=go P (.dops its::k) Q .normal (Bz σ (n::N) (E d) ((σ.less (n::N)).step (.conv d kd x))):=BE rfl
theorem sJ{d sz x lo hi mx}:go P (.dops ((E (n::N),G,.slc d sz x lo hi mx)::its)::k) Q .normal (E σ)=go P (.dops its::k) Q .normal (Bz σ (n::N) (E d) ((σ.less (n::N)).step (.slc d sz x lo hi mx))):=BE rfl
theorem sL{d x lo hi}:go P (.dops ((E (n::N),G,.sslc d x lo hi)::its)::k) Q .normal (E σ)=go P (.dops its::k) Q .normal (Bz σ (n::N) (E d) ((σ.less (n::N)).step (.sslc d x lo hi))):=BE rfl
theorem ru{d x off}:go P (.dops ((E (n::N),G,.faddr d x off)::its)::k) Q .normal (E σ)=go P (.dops its::k) Q .normal (Bz σ (n::N) (E d) ((σ.less (n::N)).step (.faddr d x off))):=BE rfl
theorem rv{d x off g m}:go P (.dops ((E (n::N),G,.field d x off g m)::its)::k) Q .normal (E σ)=go P (.dops its::k) Q .normal (Bz σ (n::N) (E d) ((σ.less (n::N)).step (.field d x off g m))):=BE rfl
theorem ry{d x i sz}:go P (.dops ((E (n::N),G,.iaddr d x i sz)::its)::k) Q .normal (E σ)=go P (.dops its::k) Q .normal (Bz σ (n::N) (E d) ((σ.less (n::N)).step (.iaddr d x i sz))):=BE rfl
theorem rm{d x i len sz}:go P (.dops ((E (n::N),G,.aaddr d x i len sz)::its)::k) Q .normal (E σ)=go P (.dops its::k) Q .normal (Bz σ (n::N) (E d) ((σ.less (n::N)).step (.aaddr d x i len sz))):=BE rfl
theorem rz{d x i}:go P (.dops ((E (n::N),G,.idx d x i)::its)::k) Q .normal (E σ)=go P (.dops its::k) Q .normal (Bz σ (n::N) (E d) ((σ.less (n::N)).step (.idx d x i))):=BE rfl
theorem rr{d x i}:go P (.dops ((E (n::N),G,.extr d x i)::its)::k) Q .normal (E σ)=go P (.dops its::k) Q .normal (Bz σ (n::N) (E d) ((σ.less (n::N)).step (.extr d x i))):=BE rfl
theorem sD{d t x}:go P (.dops ((E (n::N),G,.mkif d t x)::its)::k) Q .normal (E σ)=go P (.dops its::k) Q .normal (Bz σ (n::N) (E d) ((σ.less (n::N)).step (.mkif d t x))):=BE rfl
theorem sM{d x t zc}:go P (.dops ((E (n::N),G,.tass d x t zc)::its)::k) Q .normal (E σ)=go P (.dops its::k) Q .normal (Bz σ (n::N) (E d) ((σ.less (n::N)).step (.tass d x t zc))):=BE rfl
theorem sA{d x}:go P (.dops ((E (n::N),G,.len d x)::its)::k) Q .normal (E σ)=go P (.dops its::k) Q .normal (Bz σ (n::N) (E d) ((σ.less (n::N)).step (.len d x))):=BE rfl
theorem sK{d x}:go P (.dops ((E (n::N),G,.slen d x)::its)::k) Q .normal (E σ)=go P (.dops its::k) Q .normal (Bz σ (n::N) (E d) ((σ.less (n::N)).step (.slen d x))):=BE rfl
theorem sI{d x}:go P (.dops ((E (n::N),G,.sconv d x)::its)::k) Q .normal (E σ)=go P (.dops its::k) Q .normal (Bz σ (n::N) (E d) ((σ.less (n::N)).step (.sconv d x))):=BE rfl
theorem sE{d m x y}:go P (.dops ((E (n::N),G,.mm d m x y)::its)::k) Q .normal (E σ)=go P (.dops its::k) Q .normal (Bz σ (n::N) (E d) ((σ.less (n::N)).step (.mm d m x y))):=BE rfl
theorem sC{d f caps}:go P (.dops ((E (n::N),G,.mkf d f caps)::its)::k) Q .normal (E σ)=go P (.dops its::k) Q .normal (Bz σ (n::N) (E d) ((σ.less (n::N)).step (.mkf d f caps))):=BE rfl
theorem sP{t:L}{o:AOp}{N:H L}:go P (.dops ((E N,E (t,T),o)::its)::k) Q .normal (E σ)=go P (.gdd (σ.get t) T (E N) o its::k) Q .normal (E σ):=by
 show B4 (E (t,T)) σ _ _=_
 rw[YK];show _=BP _ _ _ _
 simp only[cond_true];congr 1<;>(cases o.dst<;>rfl)
theorem sO{t:L}{o:AOp}{N:H L}:go P (.dops ((E N,E (t,F),o)::its)::k) Q .normal (E σ)=go P (.gdd (σ.get t) F (E N) o its::k) Q .normal (E σ):=by
 show B4 (E (t,F)) σ _ _=_
 rw[YJ];show _=BP _ _ _ _
 simp only[cond_false];congr 1<;>(cases o.dst<;>rfl)
theorem sT{b:Bool}{o:AOp}{N:Option (H L)}:go P (.gdd (.v (.sc (.dat (.bool b)))) b N o its::k) Q .normal (E σ)=go P (.dops ((N,G,o)::its)::k) Q .normal (E σ):=by
 cases b<;>simp[go,AY,BP]
theorem sS{o:AOp}{N:Option (H L)}:go P (.gdd (.v (.sc (.dat (.bool F)))) T N o its::k) Q .normal (E σ)=go P (.dops its::k) Q .normal (CT σ o.dst):=by
 simp only[go,AY,BP,cond_true];cases o.dst<;>simp[Cg,CT]
theorem sR{o:AOp}{N:Option (H L)}:go P (.gdd (.v (.sc (.dat (.bool T)))) F N o its::k) Q .normal (E σ)=go P (.dops its::k) Q .normal (CT σ o.dst):=by
 simp only[go,AY,BP,cond_false];cases o.dst<;>simp[Cg,CT]
theorem sQ{w:Bool}{o:AOp}{N:Option (H L)}:go P (.gdd .no w N o its::k) Q .normal (E σ)=go P (.dops its::k) Q .normal (CT σ o.dst):=by
 simp only[go,AY,BP];cases o.dst<;>simp[Cg,CT]
theorem wV{w:Bool}{o:AOp}{its:H AItem}:go P (.gd .no w o its::k) Q .normal (E σ)=go P (.ops its::k) Q .normal (CT σ o.dst):=by
 simp only[go,AY,BP];cases o.dst<;>simp[Cg,CT]
end
def Dy(k:L):H L→Bool
 | []=>F
 | n::r=>bif k==n then T else Dy k r
def Dg{α:Type}(f:L→L)(N:H L):H (L × α)→H (L × α)
 | []=> []
 | (k,v)::r=>bif Dy (f k) N then Dg f N r else(k,v)::Dg f N r
theorem Ou(k:L):∀N:H L,Dy k N=N.contains k
 | []=>rfl
 | n::r=>by
  simp only[Dy,O,Ou k r];cases k==n<;>rfl
theorem Ww{α:Type}(f:L→L)(N:H L):∀l:H (L × α),Dg f N l=l.filter fun p=> !N.contains (f p.1)
 | []=>rfl
 | (k,v)::r=>by
  simp only[Dg,Ou,List.filter_cons,Ww f N r];cases N.contains (f k)<;>rfl
theorem A1v{env bx rows}{n:L}{N:H L}:(St.mk env bx rows).less (n::N)=⟨env,Dg id (n::N) bx,Dg (· / 64) (n::N) rows⟩:=by
 rw[Ww,Ww];rfl
theorem A2j{k:L}:Dy k []=F:=rfl
theorem A2i{k n:L}{r:H L}:Dy k (n::r)=bif k==n then T else Dy k r:=rfl
theorem A0l{α:Type}{f:L→L}{N:H L}:Dg f N ([]:H (L × α))= []:=rfl
theorem A0k{α:Type}{N:H L}{k:L}{v:α}{r:H (L × α)}:Dg id N ((k,v)::r)=bif Dy k N then Dg id N r else(k,v)::Dg id N r:=rfl
theorem A0j{α:Type}{N:H L}{k:L}{v:α}{r:H (L × α)}:Dg (· / 64) N ((k,v)::r)=bif Dy (k / 64) N then Dg (· / 64) N r else(k,v)::Dg (· / 64) N r:=rfl
theorem A7l{σ τ:St}{N:H L}{d:L}:Bz σ N (E d) (E τ)=bif (τ.get d).avoids N then E (σ.set d (τ.get d)) else G:=rfl
theorem A8h{σ:St}{d:L}:CT σ (E d)=E (σ.set d .no):=rfl
theorem pZ{N:H L}{d:D}:AV.avoids N (.v (.sc (.dat d)))=T:=by simp[AV.avoids,AV.cells,V1.cells,AC.avoids,AC.uses]
theorem pc{N:H L}:AV.avoids N (.v (.sc .nil))=T:=by simp[AV.avoids,AV.cells,V1.cells,AC.avoids,AC.uses]
theorem pg{N:H L}{i:L}:AV.avoids N (.v (.sc (.own i)))= !Dy (i / 64) N:=by
 rw[Ou]
 induction N with
 | nil=>rfl
 | cons n N ih=>
  simp only[AV.avoids,AV.cells,V1.cells,AC.avoids,AC.uses,U,List.all_nil,V,O] at ih ⊢
  rw[ih];cases(i / 64==n)<;>simp
theorem ph{N:H L}{i o:L}:AV.avoids N (.v (.sc (.pb i o)))= !Dy i N:=by
 rw[Ou]
 induction N with
 | nil=>rfl
 | cons n N ih=>
  simp only[AV.avoids,AV.cells,V1.cells,AC.avoids,AC.uses,U,List.all_nil,V,O] at ih ⊢
  rw[ih];cases(i==n)<;>simp
theorem pi{N:H L}{i x o:L}:AV.avoids N (.v (.sc (.pe i x o)))= !Dy (i / 64) N:=by
 rw[Ou]
 induction N with
 | nil=>rfl
 | cons n N ih=>
  simp only[AV.avoids,AV.cells,V1.cells,AC.avoids,AC.uses,U,List.all_nil,V,O] at ih ⊢
  rw[ih];cases(i / 64==n)<;>simp
theorem pY{N:H L}:AV.avoids N (.v (.ag []))=T:=rfl
theorem pX{N:H L}{c:AC}{cs:H AC}:AV.avoids N (.v (.ag (c::cs)))=((AV.v (.sc c)).avoids N&&(AV.v (.ag cs)).avoids N):=by simp[AV.avoids,AV.cells,V1.cells]
theorem A26:(!F)=T:=rfl
theorem A27:(!T)=F:=rfl
theorem pG:(T&&T)=T:=rfl
theorem tG{d x}:AOp.dst (.mv d x)=E d:=rfl
theorem tI{d c a b}:AOp.dst (.pick d c a b)=E d:=rfl
theorem sj{d zs ps}:AOp.dst (.build d zs ps)=E d:=rfl
theorem tB{d x g n}:AOp.dst (.load d x g n)=E d:=rfl
theorem tH{d x}:AOp.dst (.nilc d x)=E d:=rfl
theorem sf{d op x y}:AOp.dst (.bin d op x y)=E d:=rfl
theorem sw{d g ks x y}:AOp.dst (.geq d g ks x y)=E d:=rfl
theorem se{d g x y}:AOp.dst (.beq d g x y)=E d:=rfl
theorem tO{d op x}:AOp.dst (.un d op x)=E d:=rfl
theorem sr{d kd x}:AOp.dst (.conv d kd x)=E d:=rfl
theorem tK{d sz x lo hi mx}:AOp.dst (.slc d sz x lo hi mx)=E d:=rfl
theorem tM{d x lo hi}:AOp.dst (.sslc d x lo hi)=E d:=rfl
theorem su{d x off}:AOp.dst (.faddr d x off)=E d:=rfl
theorem sv{d x off g n}:AOp.dst (.field d x off g n)=E d:=rfl
theorem sx{d x i sz}:AOp.dst (.iaddr d x i sz)=E d:=rfl
theorem sb{d x i len sz}:AOp.dst (.aaddr d x i len sz)=E d:=rfl
theorem sy{d x i}:AOp.dst (.idx d x i)=E d:=rfl
theorem ss{d x i}:AOp.dst (.extr d x i)=E d:=rfl
theorem tD{d t x}:AOp.dst (.mkif d t x)=E d:=rfl
theorem tN{d x t zc}:AOp.dst (.tass d x t zc)=E d:=rfl
theorem tA{d x}:AOp.dst (.len d x)=E d:=rfl
theorem tL{d x}:AOp.dst (.slen d x)=E d:=rfl
theorem tJ{d x}:AOp.dst (.sconv d x)=E d:=rfl
theorem tF{d m x y}:AOp.dst (.mm d m x y)=E d:=rfl
theorem tC{d f caps}:AOp.dst (.mkf d f caps)=E d:=rfl
theorem sg{d x}:AOp.dst (.box d x)=E d:=rfl
theorem sd{d cs}:AOp.dst (.alloc d cs)=E d:=rfl
theorem si{d sz zs len ps}:AOp.dst (.bslice d sz zs len ps)=E d:=rfl
theorem tE{d sz b zs x y}:AOp.dst (.mksl d sz b zs x y)=E d:=rfl
theorem sk{d f args}:AOp.dst (.call d f args)=E d:=rfl
theorem sq{d x args}:AOp.dst (.callv d x args)=E d:=rfl
def vA(rs:H R1):Bool:=(rs.flatMap R1.cells).all fun | .v d=>d.flat | .o _ _=>F
theorem BD{rs:H R1}(h:vA rs=T):Db rs:=by
 intro c hc;have:=List.all_eq_true.1 h c hc;cases c with
 | v d=>exact this
 | o=>cases this
end Go.Vi
