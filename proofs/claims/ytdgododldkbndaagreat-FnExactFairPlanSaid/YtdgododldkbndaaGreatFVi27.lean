/-
The value level. No condition.
-/
import Derived.Test.YtdgododldkbndaaGreatFVi26
namespace Go.Vi
set_option linter.all false
open List renaming contains_cons → O, all_cons → U
open Bool renaming and_true → V, true → T, false → F
open Option renaming some → E, none → G
open _root_ renaming List → H, Nat → L
section
variable {P : Program}
end
theorem mD{α:Type}{n:L}:A1 ([]:H (L × α)) n=G:=rfl
theorem mC{α:Type}{k n:L}{v:α}{r:H (L × α)}:A1 ((k,v)::r) n=bif k==n then E v else A1 r n:=rfl
theorem ti{α:Type}{n:L}{v:α}:put ([]:H (L × α)) n v= [(n,v)]:=rfl
theorem th{α:Type}{k n:L}{u v:α}{r:H (L × α)}:put ((k,u)::r) n v=bif k==n then(k,v)::r else(k,u)::put r n v:=rfl
theorem ww{σ:St}{n:L}:σ.val (.t n)=σ.get n:=rfl
theorem wu{σ:St}{v:AV}:σ.val (.c v)=v:=rfl
theorem md{env bx rows}{k:L}:(St.mk env bx rows).get k=(A1 env k).getD .undef:=rfl
theorem ug{env bx rows}{k:L}{v:AV}:(St.mk env bx rows).set k v=⟨put env k v,bx,rows⟩:=rfl
theorem getD_some{α:Type}{a b:α}:(E a).getD b=a:=rfl
theorem getD_none{α:Type}{b:α}:(G:Option α).getD b=b:=rfl
theorem map_some{α β:Type}{f:α→β}{a:α}:(E a).map f=E (f a):=rfl
theorem map_none{α β:Type}{f:α→β}:(G:Option α).map f=G:=rfl
theorem ga{α:Type}{a b:α}:cond T a b=a:=rfl
theorem gZ{α:Type}{a b:α}:cond F a b=b:=rfl
theorem ur{s:H UInt8}:Lf (.v (.sc (.dat (.str s))))=E (.v (.sc (.dat (.int .i64 s.length)))):=rfl
theorem rc{rs:Rows}{es:H (H D)}:E9 rs (.v (.sc (.dat (.sl es))))=E (.v (.sc (.dat (.int .i64 es.length)))):=rfl
theorem uX{rs:Rows}{es:H (H D)}:H5 rs (.v (.sc (.dat (.sl es))))=(Dc es).map fun b=> .v (.sc (.dat (.str b))):=rfl
theorem uW{rs:Rows}{id:L}:H5 rs (.v (.sc (.own id)))=match A1 rs id with | some (_,es)=>(Dc es).map fun b=> .v (.sc (.dat (.str b))) | none=>G:=rfl
theorem rY{rs:Rows}:E9 rs (.v (.sc .nil))=E (.v (.sc (.dat (.int .i64 0)))):=rfl
theorem ge{k k':IntKind}{n:Int}:Rx k (.v (.sc (.dat (.int k' n))))=E (.v (.sc (.dat (.int k (k.wrap n))))):=rfl
theorem fj{op:BinOp}{k:IntKind}{x y:Int}:CJ op (.v (.sc (.dat (.int k x)))) (.v (.sc (.dat (.int k y))))=(AT op k x y).map fun d=> .v (.sc (.dat d)):=by simp[CJ]
theorem ft{op:BinOp}{x y:H UInt8}:CJ op (.v (.sc (.dat (.str x)))) (.v (.sc (.dat (.str y))))=(H8 op x y).map fun d=> .v (.sc (.dat d)):=rfl
theorem qJ{k:IntKind}{x y:Int}:AT .add k x y=E (.int k (k.wrap (x+y))):=rfl
theorem qb{k:IntKind}{x y:Int}:AT .sub k x y=E (.int k (k.wrap (x - y))):=rfl
theorem qR{k:IntKind}{x y:Int}:AT .mul k x y=E (.int k (k.wrap (x*y))):=rfl
theorem qU{k:IntKind}{x y:Int}:AT .quo k x y=bif y==0 then G else E (.int k (k.wrap (x.tdiv y))):=by
 by_cases h:y=0
 ·simp[AT,h]
 ·have h':(y==0)=F:=by simpa using h
  simp[AT,h,h']
theorem qV{k:IntKind}{x y:Int}:AT .rem k x y=bif y==0 then G else E (.int k (k.wrap (x.tmod y))):=by
 by_cases h:y=0
 ·simp[AT,h]
 ·have h':(y==0)=F:=by simpa using h
  simp[AT,h,h']
theorem qM{k:IntKind}{x y:Int}:AT .eql k x y=E (.bool (x==y)):=rfl
theorem qS{k:IntKind}{x y:Int}:AT .neq k x y=E (.bool (x !=y)):=rfl
theorem qQ{k:IntKind}{x y:Int}:AT .lss k x y=E (.bool (decide (x<y))):=rfl
theorem qP{k:IntKind}{x y:Int}:AT .leq k x y=E (.bool (decide (x≤y))):=rfl
theorem qO{k:IntKind}{x y:Int}:AT .gtr k x y=E (.bool (decide (y<x))):=rfl
theorem qN{k:IntKind}{x y:Int}:AT .geq k x y=E (.bool (decide (y≤x))):=rfl
theorem vj{x y:H UInt8}:H8 .eql x y=E (.bool (x==y)):=rfl
theorem vk{x y:H UInt8}:H8 .neq x y=E (.bool (!(x==y))):=rfl
theorem wk{b:Bool}:Jp .not (.v (.sc (.dat (.bool b))))=E (.v (.sc (.dat (.bool (!b))))):=rfl
theorem pO{s:H UInt8}{k:IntKind}{i:Int}:KU (.v (.sc (.dat (.str s)))) (.v (.sc (.dat (.int k i))))=(ix s i).map fun b=> .v (.sc (.dat (.int .u8 b.toNat))):=rfl
theorem qd{α:Type}{l:H α}{i:L}(h:i<l.length):ix l (i:Int)=E l[i]:=by simp[ix,h]
theorem lz{off:L}{g:Bool}{n:L}{cs:H AC}:GO off g n (.v (.ag cs))=CW cs off g n:=rfl
theorem gM{cs:H AC}{off n:L}:CW cs off F n=(cs[off]?).map fun c=> .v (.sc c):=rfl
theorem qF{env bx rows}{d:L}{rs:H R1}:(St.mk env bx rows).inst d rs=⟨put env d (BU d rs),bx,Bj rows (BQ d rs)⟩:=rfl
theorem px{g:L}{r:R1}:BU g [r]= .v (r.inst g 0):=rfl
theorem py{g:L}{r r':R1}{rs:H R1}:BU g (r::r'::rs)= .tup (Dm g 0 (r::r'::rs)):=rfl
theorem qC{g j:L}:Dm g j []= []:=rfl
theorem qB{g j:L}{r:R1}{rs:H R1}:Dm g j (r::rs)=r.inst g j::Dm g (j+r.width) rs:=rfl
theorem zb{c:RC}:R1.width (.sc c)=1:=rfl
theorem za{cs:H RC}:R1.width (.ag cs)=cs.length:=rfl
theorem qI{g j:L}{d:D}:RC.inst g j (.v d)= .dat d:=rfl
theorem qG{g j sz:L}{es:H (H D)}:RC.inst g j (.o sz es)= .own (g*64+j):=rfl
theorem qH{g j:L}{c:RC}:R1.inst g j (.sc c)= .sc (c.inst g j):=rfl
theorem qE{g j:L}{cs:H RC}:R1.inst g j (.ag cs)= .ag (E8 g j cs):=rfl
theorem qA{g j:L}:E8 g j []= []:=rfl
theorem pz{g j:L}{c:RC}{cs:H RC}:E8 g j (c::cs)=c.inst g j::E8 g (j+1) cs:=rfl
theorem uG{g:L}:BQ g []= []:=rfl
theorem uH{g:L}{r:R1}:BQ g [r]=BK g 0 r.cells:=by simp[BQ]
theorem uJ{g:L}{r r':R1}:BQ g [r,r']=BK g 0 (r.cells++r'.cells):=by simp[BQ]
theorem gO{c:RC}:R1.cells (.sc c)= [c]:=rfl
theorem gK{cs:H RC}:R1.cells (.ag cs)=cs:=rfl
theorem uL{g j:L}:BK g j []= []:=rfl
theorem uN{g j:L}{d:D}{cs:H RC}:BK g j (.v d::cs)=BK g (j+1) cs:=rfl
theorem uM{g j sz:L}{es:H (H D)}{cs:H RC}:BK g j (.o sz es::cs)=(g*64+j,sz,es)::BK g (j+1) cs:=rfl
theorem td{rows:Rows}:Bj rows []=rows:=rfl
theorem tc{rows r:Rows}{k:L}{x:L × H (H D)}:Bj rows ((k,x)::r)=put (Bj rows r) k x:=rfl
theorem fA{α:Type}{l:H α}: []++l=l:=rfl
theorem ey{α:Type}{a:α}{l m:H α}:(a::l)++m=a::(l++m):=rfl
theorem gC{x:Int}:(x !=x)=F:=by simp
theorem fc{x:Int}:(x==x)=T:=by simp
section
variable {P : Program} {k : H Fr} {Q : Xm → St → Prop} {σ : St} {its : H B0} {n : L} {N : H L}
theorem iE{d x}:go P (.dops ((E [],G,.mv d x)::its)::k) Q .normal (E σ)=go P (.ops [(G,.mv d x)]:: .dops its::k) Q .normal (E σ):=Bi rfl rfl
theorem iG{d c a b}:go P (.dops ((E [],G,.pick d c a b)::its)::k) Q .normal (E σ)=go P (.ops [(G,.pick d c a b)]:: .dops its::k) Q .normal (E σ):=Bi rfl rfl
theorem gx{d zs ps}:go P (.dops ((E [],G,.build d zs ps)::its)::k) Q .normal (E σ)=go P (.ops [(G,.build d zs ps)]:: .dops its::k) Q .normal (E σ):=Bi rfl rfl
theorem hZ{d x g n}:go P (.dops ((E [],G,.load d x g n)::its)::k) Q .normal (E σ)=go P (.ops [(G,.load d x g n)]:: .dops its::k) Q .normal (E σ):=Bi rfl rfl
theorem iF{d x}:go P (.dops ((E [],G,.nilc d x)::its)::k) Q .normal (E σ)=go P (.ops [(G,.nilc d x)]:: .dops its::k) Q .normal (E σ):=Bi rfl rfl
theorem gt{d op x y}:go P (.dops ((E [],G,.bin d op x y)::its)::k) Q .normal (E σ)=go P (.ops [(G,.bin d op x y)]:: .dops its::k) Q .normal (E σ):=Bi rfl rfl
theorem hI{d g ks x y}:go P (.dops ((E [],G,.geq d g ks x y)::its)::k) Q .normal (E σ)=go P (.ops [(G,.geq d g ks x y)]:: .dops its::k) Q .normal (E σ):=Bi rfl rfl
theorem gp{d g x y}:go P (.dops ((E [],G,.beq d g x y)::its)::k) Q .normal (E σ)=go P (.ops [(G,.beq d g x y)]:: .dops its::k) Q .normal (E σ):=Bi rfl rfl
theorem iM{d op x}:go P (.dops ((E [],G,.un d op x)::its)::k) Q .normal (E σ)=go P (.ops [(G,.un d op x)]:: .dops its::k) Q .normal (E σ):=Bi rfl rfl
theorem gy{d kd x}:go P (.dops ((E [],G,.conv d kd x)::its)::k) Q .normal (E σ)=go P (.ops [(G,.conv d kd x)]:: .dops its::k) Q .normal (E σ):=Bi rfl rfl
theorem iI{d sz x lo hi mx}:go P (.dops ((E [],G,.slc d sz x lo hi mx)::its)::k) Q .normal (E σ)=go P (.ops [(G,.slc d sz x lo hi mx)]:: .dops its::k) Q .normal (E σ):=Bi rfl rfl
theorem iK{d x lo hi}:go P (.dops ((E [],G,.sslc d x lo hi)::its)::k) Q .normal (E σ)=go P (.ops [(G,.sslc d x lo hi)]:: .dops its::k) Q .normal (E σ):=Bi rfl rfl
theorem hD{d x off}:go P (.dops ((E [],G,.faddr d x off)::its)::k) Q .normal (E σ)=go P (.ops [(G,.faddr d x off)]:: .dops its::k) Q .normal (E σ):=Bi rfl rfl
theorem hH{d x off g n}:go P (.dops ((E [],G,.field d x off g n)::its)::k) Q .normal (E σ)=go P (.ops [(G,.field d x off g n)]:: .dops its::k) Q .normal (E σ):=Bi rfl rfl
theorem hO{d x i sz}:go P (.dops ((E [],G,.iaddr d x i sz)::its)::k) Q .normal (E σ)=go P (.ops [(G,.iaddr d x i sz)]:: .dops its::k) Q .normal (E σ):=Bi rfl rfl
theorem gm{d x i len sz}:go P (.dops ((E [],G,.aaddr d x i len sz)::its)::k) Q .normal (E σ)=go P (.ops [(G,.aaddr d x i len sz)]:: .dops its::k) Q .normal (E σ):=Bi rfl rfl
theorem hP{d x i}:go P (.dops ((E [],G,.idx d x i)::its)::k) Q .normal (E σ)=go P (.ops [(G,.idx d x i)]:: .dops its::k) Q .normal (E σ):=Bi rfl rfl
theorem gz{d x i}:go P (.dops ((E [],G,.extr d x i)::its)::k) Q .normal (E σ)=go P (.ops [(G,.extr d x i)]:: .dops its::k) Q .normal (E σ):=Bi rfl rfl
theorem iB{d t x}:go P (.dops ((E [],G,.mkif d t x)::its)::k) Q .normal (E σ)=go P (.ops [(G,.mkif d t x)]:: .dops its::k) Q .normal (E σ):=Bi rfl rfl
theorem iL{d x t zc}:go P (.dops ((E [],G,.tass d x t zc)::its)::k) Q .normal (E σ)=go P (.ops [(G,.tass d x t zc)]:: .dops its::k) Q .normal (E σ):=Bi rfl rfl
theorem hU{d x}:go P (.dops ((E [],G,.len d x)::its)::k) Q .normal (E σ)=go P (.ops [(G,.len d x)]:: .dops its::k) Q .normal (E σ):=Bi rfl rfl
theorem iJ{d x}:go P (.dops ((E [],G,.slen d x)::its)::k) Q .normal (E σ)=go P (.ops [(G,.slen d x)]:: .dops its::k) Q .normal (E σ):=Bi rfl rfl
theorem iH{d x}:go P (.dops ((E [],G,.sconv d x)::its)::k) Q .normal (E σ)=go P (.ops [(G,.sconv d x)]:: .dops its::k) Q .normal (E σ):=Bi rfl rfl
theorem iD{d m x y}:go P (.dops ((E [],G,.mm d m x y)::its)::k) Q .normal (E σ)=go P (.ops [(G,.mm d m x y)]:: .dops its::k) Q .normal (E σ):=Bi rfl rfl
theorem iA{d f caps}:go P (.dops ((E [],G,.mkf d f caps)::its)::k) Q .normal (E σ)=go P (.ops [(G,.mkf d f caps)]:: .dops its::k) Q .normal (E σ):=Bi rfl rfl
theorem gu{d x}:go P (.dops ((E [],G,.box d x)::its)::k) Q .normal (E σ)=go P (.ops [(G,.box d x)]:: .dops its::k) Q .normal (E σ):=Bi rfl rfl
theorem gn{d cs}:go P (.dops ((E [],G,.alloc d cs)::its)::k) Q .normal (E σ)=go P (.ops [(G,.alloc d cs)]:: .dops its::k) Q .normal (E σ):=Bi rfl rfl
theorem gw{d sz zs len ps}:go P (.dops ((E [],G,.bslice d sz zs len ps)::its)::k) Q .normal (E σ)=go P (.ops [(G,.bslice d sz zs len ps)]:: .dops its::k) Q .normal (E σ):=Bi rfl rfl
theorem iC{d sz b zs x y}:go P (.dops ((E [],G,.mksl d sz b zs x y)::its)::k) Q .normal (E σ)=go P (.ops [(G,.mksl d sz b zs x y)]:: .dops its::k) Q .normal (E σ):=Bi rfl rfl
theorem ij{d x}:go P (.dops ((E (n::N),G,.mv d x)::its)::k) Q .normal (E σ)=go P (.dops its::k) Q .normal (Bs σ (n::N) (E d) ((σ.less (n::N)).step (.mv d x))):=Bw rfl
theorem il{d c a b}:go P (.dops ((E (n::N),G,.pick d c a b)::its)::k) Q .normal (E σ)=go P (.dops its::k) Q .normal (Bs σ (n::N) (E d) ((σ.less (n::N)).step (.pick d c a b))):=Bw rfl
theorem iQ{d zs ps}:go P (.dops ((E (n::N),G,.build d zs ps)::its)::k) Q .normal (E σ)=go P (.dops its::k) Q .normal (Bs σ (n::N) (E d) ((σ.less (n::N)).step (.build d zs ps))):=Bw rfl
theorem iZ{d x g m}:go P (.dops ((E (n::N),G,.load d x g m)::its)::k) Q .normal (E σ)=go P (.dops its::k) Q .normal (Bs σ (n::N) (E d) ((σ.less (n::N)).step (.load d x g m))):=Bw rfl
theorem ik{d x}:go P (.dops ((E (n::N),G,.nilc d x)::its)::k) Q .normal (E σ)=go P (.dops its::k) Q .normal (Bs σ (n::N) (E d) ((σ.less (n::N)).step (.nilc d x))):=Bw rfl
theorem iP{d op x y}:go P (.dops ((E (n::N),G,.bin d op x y)::its)::k) Q .normal (E σ)=go P (.dops its::k) Q .normal (Bs σ (n::N) (E d) ((σ.less (n::N)).step (.bin d op x y))):=Bw rfl
theorem iV{d g ks x y}:go P (.dops ((E (n::N),G,.geq d g ks x y)::its)::k) Q .normal (E σ)=go P (.dops its::k) Q .normal (Bs σ (n::N) (E d) ((σ.less (n::N)).step (.geq d g ks x y))):=Bw rfl
theorem iO{d g x y}:go P (.dops ((E (n::N),G,.beq d g x y)::its)::k) Q .normal (E σ)=go P (.dops its::k) Q .normal (Bs σ (n::N) (E d) ((σ.less (n::N)).step (.beq d g x y))):=Bw rfl
theorem iu{d op x}:go P (.dops ((E (n::N),G,.un d op x)::its)::k) Q .normal (E σ)=go P (.dops its::k) Q .normal (Bs σ (n::N) (E d) ((σ.less (n::N)).step (.un d op x))):=Bw rfl
theorem iR{d kd x}:go P (.dops ((E (n::N),G,.conv d kd x)::its)::k) Q .normal (E σ)=go P (.dops its::k) Q .normal (Bs σ (n::N) (E d) ((σ.less (n::N)).step (.conv d kd x))):=Bw rfl
theorem io{d sz x lo hi mx}:go P (.dops ((E (n::N),G,.slc d sz x lo hi mx)::its)::k) Q .normal (E σ)=go P (.dops its::k) Q .normal (Bs σ (n::N) (E d) ((σ.less (n::N)).step (.slc d sz x lo hi mx))):=Bw rfl
theorem iq{d x lo hi}:go P (.dops ((E (n::N),G,.sslc d x lo hi)::its)::k) Q .normal (E σ)=go P (.dops its::k) Q .normal (Bs σ (n::N) (E d) ((σ.less (n::N)).step (.sslc d x lo hi))):=Bw rfl
theorem iT{d x off}:go P (.dops ((E (n::N),G,.faddr d x off)::its)::k) Q .normal (E σ)=go P (.dops its::k) Q .normal (Bs σ (n::N) (E d) ((σ.less (n::N)).step (.faddr d x off))):=Bw rfl
theorem iU{d x off g m}:go P (.dops ((E (n::N),G,.field d x off g m)::its)::k) Q .normal (E σ)=go P (.dops its::k) Q .normal (Bs σ (n::N) (E d) ((σ.less (n::N)).step (.field d x off g m))):=Bw rfl
theorem iW{d x i sz}:go P (.dops ((E (n::N),G,.iaddr d x i sz)::its)::k) Q .normal (E σ)=go P (.dops its::k) Q .normal (Bs σ (n::N) (E d) ((σ.less (n::N)).step (.iaddr d x i sz))):=Bw rfl
theorem iN{d x i len sz}:go P (.dops ((E (n::N),G,.aaddr d x i len sz)::its)::k) Q .normal (E σ)=go P (.dops its::k) Q .normal (Bs σ (n::N) (E d) ((σ.less (n::N)).step (.aaddr d x i len sz))):=Bw rfl
theorem iX{d x i}:go P (.dops ((E (n::N),G,.idx d x i)::its)::k) Q .normal (E σ)=go P (.dops its::k) Q .normal (Bs σ (n::N) (E d) ((σ.less (n::N)).step (.idx d x i))):=Bw rfl
theorem iS{d x i}:go P (.dops ((E (n::N),G,.extr d x i)::its)::k) Q .normal (E σ)=go P (.dops its::k) Q .normal (Bs σ (n::N) (E d) ((σ.less (n::N)).step (.extr d x i))):=Bw rfl
theorem ig{d t x}:go P (.dops ((E (n::N),G,.mkif d t x)::its)::k) Q .normal (E σ)=go P (.dops its::k) Q .normal (Bs σ (n::N) (E d) ((σ.less (n::N)).step (.mkif d t x))):=Bw rfl
theorem ir{d x t zc}:go P (.dops ((E (n::N),G,.tass d x t zc)::its)::k) Q .normal (E σ)=go P (.dops its::k) Q .normal (Bs σ (n::N) (E d) ((σ.less (n::N)).step (.tass d x t zc))):=Bw rfl
theorem iY{d x}:go P (.dops ((E (n::N),G,.len d x)::its)::k) Q .normal (E σ)=go P (.dops its::k) Q .normal (Bs σ (n::N) (E d) ((σ.less (n::N)).step (.len d x))):=Bw rfl
theorem ip{d x}:go P (.dops ((E (n::N),G,.slen d x)::its)::k) Q .normal (E σ)=go P (.dops its::k) Q .normal (Bs σ (n::N) (E d) ((σ.less (n::N)).step (.slen d x))):=Bw rfl
theorem im{d x}:go P (.dops ((E (n::N),G,.sconv d x)::its)::k) Q .normal (E σ)=go P (.dops its::k) Q .normal (Bs σ (n::N) (E d) ((σ.less (n::N)).step (.sconv d x))):=Bw rfl
theorem ii{d m x y}:go P (.dops ((E (n::N),G,.mm d m x y)::its)::k) Q .normal (E σ)=go P (.dops its::k) Q .normal (Bs σ (n::N) (E d) ((σ.less (n::N)).step (.mm d m x y))):=Bw rfl
theorem ib{d f caps}:go P (.dops ((E (n::N),G,.mkf d f caps)::its)::k) Q .normal (E σ)=go P (.dops its::k) Q .normal (Bs σ (n::N) (E d) ((σ.less (n::N)).step (.mkf d f caps))):=Bw rfl
theorem iw{t:L}{o:AOp}{N:H L}:go P (.dops ((E N,E (t,T),o)::its)::k) Q .normal (E σ)=go P (.gdd (σ.get t) T (E N) o its::k) Q .normal (E σ):=by
 show AP (E (t,T)) σ _ _=_
 rw[Uc];show _=BI _ _ _ _
 simp only[cond_true];congr 1<;>(cases o.dst<;>rfl)
theorem iv{t:L}{o:AOp}{N:H L}:go P (.dops ((E N,E (t,F),o)::its)::k) Q .normal (E σ)=go P (.gdd (σ.get t) F (E N) o its::k) Q .normal (E σ):=by
 show AP (E (t,F)) σ _ _=_
 rw[Ub];show _=BI _ _ _ _
 simp only[cond_false];congr 1<;>(cases o.dst<;>rfl)
theorem jB{b:Bool}{o:AOp}{N:Option (H L)}:go P (.gdd (.v (.sc (.dat (.bool b)))) b N o its::k) Q .normal (E σ)=go P (.dops ((N,G,o)::its)::k) Q .normal (E σ):=by
 cases b<;>simp[go,AK,BI]
theorem jA{o:AOp}{N:Option (H L)}:go P (.gdd (.v (.sc (.dat (.bool F)))) T N o its::k) Q .normal (E σ)=go P (.dops its::k) Q .normal (CU σ o.dst):=by
 simp only[go,AK,BI,cond_true];cases o.dst<;>simp[Ch,CU]
theorem iz{o:AOp}{N:Option (H L)}:go P (.gdd (.v (.sc (.dat (.bool T)))) F N o its::k) Q .normal (E σ)=go P (.dops its::k) Q .normal (CU σ o.dst):=by
 simp only[go,AK,BI,cond_false];cases o.dst<;>simp[Ch,CU]
theorem iy{w:Bool}{o:AOp}{N:Option (H L)}:go P (.gdd .no w N o its::k) Q .normal (E σ)=go P (.dops its::k) Q .normal (CU σ o.dst):=by
 simp only[go,AK,BI];cases o.dst<;>simp[Ch,CU]
theorem nW{w:Bool}{o:AOp}{its:H AItem}:go P (.gd .no w o its::k) Q .normal (E σ)=go P (.ops its::k) Q .normal (CU σ o.dst):=by
 simp only[go,AK,BI];cases o.dst<;>simp[Ch,CU]
end
def DJ(k:L):H L→Bool
 | []=>F
 | n::r=>bif k==n then T else DJ k r
def Do{α:Type}(f:L→L)(N:H L):H (L × α)→H (L × α)
 | []=> []
 | (k,v)::r=>bif DJ (f k) N then Do f N r else(k,v)::Do f N r
theorem Oh(k:L):∀N:H L,DJ k N=N.contains k
 | []=>rfl
 | n::r=>by
  simp only[DJ,O,Oh k r];cases k==n<;>rfl
theorem Sr{α:Type}(f:L→L)(N:H L):∀l:H (L × α),Do f N l=l.filter fun p=> !N.contains (f p.1)
 | []=>rfl
 | (k,v)::r=>by
  simp only[Do,Oh,List.filter_cons,Sr f N r];cases N.contains (f k)<;>rfl
theorem rh{env bx rows}{n:L}{N:H L}:(St.mk env bx rows).less (n::N)=⟨env,Do id (n::N) bx,Do (· / 64) (n::N) rows⟩:=by
 rw[Sr,Sr];rfl
theorem sH{k:L}:DJ k []=F:=rfl
theorem sG{k n:L}{r:H L}:DJ k (n::r)=bif k==n then T else DJ k r:=rfl
theorem qg{α:Type}{f:L→L}{N:H L}:Do f N ([]:H (L × α))= []:=rfl
theorem qf{α:Type}{N:H L}{k:L}{v:α}{r:H (L × α)}:Do id N ((k,v)::r)=bif DJ k N then Do id N r else(k,v)::Do id N r:=rfl
theorem qe{α:Type}{N:H L}{k:L}{v:α}{r:H (L × α)}:Do (· / 64) N ((k,v)::r)=bif DJ (k / 64) N then Do (· / 64) N r else(k,v)::Do (· / 64) N r:=rfl
theorem wJ{σ τ:St}{N:H L}{d:L}:Bs σ N (E d) (E τ)=bif (τ.get d).avoids N then E (σ.set d (τ.get d)) else G:=rfl
theorem wn{σ:St}{d:L}:CU σ (E d)=E (σ.set d .no):=rfl
theorem fH{N:H L}{d:D}:AV.avoids N (.v (.sc (.dat d)))=T:=by simp[AV.avoids,AV.cells,V1.cells,AC.avoids,AC.uses]
theorem fI{N:H L}:AV.avoids N (.v (.sc .nil))=T:=by simp[AV.avoids,AV.cells,V1.cells,AC.avoids,AC.uses]
theorem fK{N:H L}{i:L}:AV.avoids N (.v (.sc (.own i)))= !DJ (i / 64) N:=by
 rw[Oh]
 induction N with
 | nil=>rfl
 | cons n N ih=>
  simp only[AV.avoids,AV.cells,V1.cells,AC.avoids,AC.uses,U,List.all_nil,V,O] at ih ⊢
  rw[ih];cases(i / 64==n)<;>simp
theorem fL{N:H L}{i o:L}:AV.avoids N (.v (.sc (.pb i o)))= !DJ i N:=by
 rw[Oh]
 induction N with
 | nil=>rfl
 | cons n N ih=>
  simp only[AV.avoids,AV.cells,V1.cells,AC.avoids,AC.uses,U,List.all_nil,V,O] at ih ⊢
  rw[ih];cases(i==n)<;>simp
theorem fM{N:H L}{i x o:L}:AV.avoids N (.v (.sc (.pe i x o)))= !DJ (i / 64) N:=by
 rw[Oh]
 induction N with
 | nil=>rfl
 | cons n N ih=>
  simp only[AV.avoids,AV.cells,V1.cells,AC.avoids,AC.uses,U,List.all_nil,V,O] at ih ⊢
  rw[ih];cases(i / 64==n)<;>simp
theorem fG{N:H L}:AV.avoids N (.v (.ag []))=T:=rfl
theorem fF{N:H L}{c:AC}{cs:H AC}:AV.avoids N (.v (.ag (c::cs)))=((AV.v (.sc c)).avoids N&&(AV.v (.ag cs)).avoids N):=by simp[AV.avoids,AV.cells,V1.cells]
theorem si:(!F)=T:=rfl
theorem sj:(!T)=F:=rfl
theorem ei:(T&&T)=T:=rfl
theorem jg{d x}:AOp.dst (.mv d x)=E d:=rfl
theorem ji{d c a b}:AOp.dst (.pick d c a b)=E d:=rfl
theorem jQ{d zs ps}:AOp.dst (.build d zs ps)=E d:=rfl
theorem jb{d x g n}:AOp.dst (.load d x g n)=E d:=rfl
theorem jh{d x}:AOp.dst (.nilc d x)=E d:=rfl
theorem jN{d op x y}:AOp.dst (.bin d op x y)=E d:=rfl
theorem jX{d g ks x y}:AOp.dst (.geq d g ks x y)=E d:=rfl
theorem jM{d g x y}:AOp.dst (.beq d g x y)=E d:=rfl
theorem jp{d op x}:AOp.dst (.un d op x)=E d:=rfl
theorem jT{d kd x}:AOp.dst (.conv d kd x)=E d:=rfl
theorem jk{d sz x lo hi mx}:AOp.dst (.slc d sz x lo hi mx)=E d:=rfl
theorem jm{d x lo hi}:AOp.dst (.sslc d x lo hi)=E d:=rfl
theorem jV{d x off}:AOp.dst (.faddr d x off)=E d:=rfl
theorem jW{d x off g n}:AOp.dst (.field d x off g n)=E d:=rfl
theorem jY{d x i sz}:AOp.dst (.iaddr d x i sz)=E d:=rfl
theorem jK{d x i len sz}:AOp.dst (.aaddr d x i len sz)=E d:=rfl
theorem jZ{d x i}:AOp.dst (.idx d x i)=E d:=rfl
theorem jU{d x i}:AOp.dst (.extr d x i)=E d:=rfl
theorem jd{d t x}:AOp.dst (.mkif d t x)=E d:=rfl
theorem jo{d x t zc}:AOp.dst (.tass d x t zc)=E d:=rfl
theorem ja{d x}:AOp.dst (.len d x)=E d:=rfl
theorem jl{d x}:AOp.dst (.slen d x)=E d:=rfl
theorem jj{d x}:AOp.dst (.sconv d x)=E d:=rfl
theorem jf{d m x y}:AOp.dst (.mm d m x y)=E d:=rfl
theorem jc{d f caps}:AOp.dst (.mkf d f caps)=E d:=rfl
theorem jO{d x}:AOp.dst (.box d x)=E d:=rfl
theorem jL{d cs}:AOp.dst (.alloc d cs)=E d:=rfl
theorem jP{d sz zs len ps}:AOp.dst (.bslice d sz zs len ps)=E d:=rfl
theorem je{d sz b zs x y}:AOp.dst (.mksl d sz b zs x y)=E d:=rfl
theorem jR{d f args}:AOp.dst (.call d f args)=E d:=rfl
theorem jS{d x args}:AOp.dst (.callv d x args)=E d:=rfl
def mG(rs:H R1):Bool:=(rs.flatMap R1.cells).all fun | .v d=>d.flat | .o _ _=>F
theorem Ce{rs:H R1}(h:mG rs=T):CM rs:=by
 intro c hc;have:=List.all_eq_true.1 h c hc;cases c with
 | v d=>exact this
 | o=>cases this
end Go.Vi
