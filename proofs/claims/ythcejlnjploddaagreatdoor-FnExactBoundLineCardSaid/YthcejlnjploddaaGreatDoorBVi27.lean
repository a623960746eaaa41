/-
The value level. No condition.
-/
import Derived.Test.YthcejlnjploddaaGreatDoorBVi26
namespace Go.Vi
set_option linter.all false
open List renaming contains_cons → O, all_cons → U
open Bool renaming and_true → V, true → T, false → F
open Option renaming some → E, none → G
open _root_ renaming List → H, Nat → L
section
variable {P : Program}
end
theorem oI{α:Type}{n:L}:A1 ([]:H (L × α)) n=G:=rfl
theorem oH{α:Type}{k n:L}{v:α}{r:H (L × α)}:A1 ((k,v)::r) n=bif k==n then E v else A1 r n:=rfl
theorem wE{α:Type}{n:L}{v:α}:put ([]:H (L × α)) n v= [(n,v)]:=rfl
theorem wD{α:Type}{k n:L}{u v:α}{r:H (L × α)}:put ((k,u)::r) n v=bif k==n then(k,v)::r else(k,u)::put r n v:=rfl
theorem A0n{σ:St}{n:L}:σ.val (.t n)=σ.get n:=rfl
theorem A0m{σ:St}{v:AV}:σ.val (.c v)=v:=rfl
theorem ow{env bx rows}{k:L}:(St.mk env bx rows).get k=(A1 env k).getD .undef:=rfl
theorem xG{env bx rows}{k:L}{v:AV}:(St.mk env bx rows).set k v=⟨put env k v,bx,rows⟩:=rfl
theorem getD_some{α:Type}{a b:α}:(E a).getD b=a:=rfl
theorem getD_none{α:Type}{b:α}:(G:Option α).getD b=b:=rfl
theorem map_some{α β:Type}{f:α→β}{a:α}:(E a).map f=E (f a):=rfl
theorem map_none{α β:Type}{f:α→β}:(G:Option α).map f=G:=rfl
theorem ji{α:Type}{a b:α}:cond T a b=a:=rfl
theorem jh{α:Type}{a b:α}:cond F a b=b:=rfl
theorem xO{s:H UInt8}:Lk (.v (.sc (.dat (.str s))))=E (.v (.sc (.dat (.int .i64 s.length)))):=rfl
theorem tx{rs:Rows}{es:H (H D)}:E7 rs (.v (.sc (.dat (.sl es))))=E (.v (.sc (.dat (.int .i64 es.length)))):=rfl
theorem wx{rs:Rows}{es:H (H D)}:H4 rs (.v (.sc (.dat (.sl es))))=(D3 es).map fun b=> .v (.sc (.dat (.str b))):=rfl
theorem ww{rs:Rows}{id:L}:H4 rs (.v (.sc (.own id)))=match A1 rs id with | some (_,es)=>(D3 es).map fun b=> .v (.sc (.dat (.str b))) | none=>G:=rfl
theorem tu{rs:Rows}:E7 rs (.v (.sc .nil))=E (.v (.sc (.dat (.int .i64 0)))):=rfl
theorem jk{k k':IntKind}{n:Int}:Su k (.v (.sc (.dat (.int k' n))))=E (.v (.sc (.dat (.int k (k.wrap n))))):=rfl
theorem il{op:BinOp}{k:IntKind}{x y:Int}:Cw op (.v (.sc (.dat (.int k x)))) (.v (.sc (.dat (.int k y))))=(AQ op k x y).map fun d=> .v (.sc (.dat d)):=by simp[Cw]
theorem iu{op:BinOp}{x y:H UInt8}:Cw op (.v (.sc (.dat (.str x)))) (.v (.sc (.dat (.str y))))=(H6 op x y).map fun d=> .v (.sc (.dat d)):=rfl
theorem sb{k:IntKind}{x y:Int}:AQ .add k x y=E (.int k (k.wrap (x+y))):=rfl
theorem tE{k:IntKind}{x y:Int}:AQ .sub k x y=E (.int k (k.wrap (x - y))):=rfl
theorem ss{k:IntKind}{x y:Int}:AQ .mul k x y=E (.int k (k.wrap (x*y))):=rfl
theorem sw{k:IntKind}{x y:Int}:AQ .quo k x y=bif y==0 then G else E (.int k (k.wrap (x.tdiv y))):=by
 by_cases h:y=0
 ·simp[AQ,h]
 ·have h':(y==0)=F:=by simpa using h
  simp[AQ,h,h']
theorem sx{k:IntKind}{x y:Int}:AQ .rem k x y=bif y==0 then G else E (.int k (k.wrap (x.tmod y))):=by
 by_cases h:y=0
 ·simp[AQ,h]
 ·have h':(y==0)=F:=by simpa using h
  simp[AQ,h,h']
theorem sg{k:IntKind}{x y:Int}:AQ .eql k x y=E (.bool (x==y)):=rfl
theorem su{k:IntKind}{x y:Int}:AQ .neq k x y=E (.bool (x !=y)):=rfl
theorem sr{k:IntKind}{x y:Int}:AQ .lss k x y=E (.bool (decide (x<y))):=rfl
theorem sq{k:IntKind}{x y:Int}:AQ .leq k x y=E (.bool (decide (x≤y))):=rfl
theorem sj{k:IntKind}{x y:Int}:AQ .gtr k x y=E (.bool (decide (y<x))):=rfl
theorem si{k:IntKind}{x y:Int}:AQ .geq k x y=E (.bool (decide (y≤x))):=rfl
theorem yd{x y:H UInt8}:H6 .eql x y=E (.bool (x==y)):=rfl
theorem ye{x y:H UInt8}:H6 .neq x y=E (.bool (!(x==y))):=rfl
theorem A0g{b:Bool}:Jx .not (.v (.sc (.dat (.bool b))))=E (.v (.sc (.dat (.bool (!b))))):=rfl
theorem rk{s:H UInt8}{k:IntKind}{i:Int}:L0 (.v (.sc (.dat (.str s)))) (.v (.sc (.dat (.int k i))))=(ix s i).map fun b=> .v (.sc (.dat (.int .u8 b.toNat))):=rfl
theorem tI{α:Type}{l:H α}{i:L}(h:i<l.length):ix l (i:Int)=E l[i]:=by simp[ix,h]
theorem oD{off:L}{g:Bool}{n:L}{cs:H AC}:GO off g n (.v (.ag cs))=CP cs off g n:=rfl
theorem jS{cs:H AC}{off n:L}:CP cs off F n=(cs[off]?).map fun c=> .v (.sc c):=rfl
theorem sX{env bx rows}{d:L}{rs:H R1}:(St.mk env bx rows).inst d rs=⟨put env d (BT d rs),bx,Bd rows (BQ d rs)⟩:=rfl
theorem sP{g:L}{r:R1}:BT g [r]= .v (r.inst g 0):=rfl
theorem sQ{g:L}{r r':R1}{rs:H R1}:BT g (r::r'::rs)= .tup (Dd g 0 (r::r'::rs)):=rfl
theorem sU{g j:L}:Dd g j []= []:=rfl
theorem sT{g j:L}{r:R1}{rs:H R1}:Dd g j (r::rs)=r.inst g j::Dd g (j+r.width) rs:=rfl
theorem A2q{c:RC}:R1.width (.sc c)=1:=rfl
theorem A2p{cs:H RC}:R1.width (.ag cs)=cs.length:=rfl
theorem sa{g j:L}{d:D}:RC.inst g j (.v d)= .dat d:=rfl
theorem sY{g j sz:L}{es:H (H D)}:RC.inst g j (.o sz es)= .own (g*64+j):=rfl
theorem sZ{g j:L}{c:RC}:R1.inst g j (.sc c)= .sc (c.inst g j):=rfl
theorem sW{g j:L}{cs:H RC}:R1.inst g j (.ag cs)= .ag (E6 g j cs):=rfl
theorem sS{g j:L}:E6 g j []= []:=rfl
theorem sR{g j:L}{c:RC}{cs:H RC}:E6 g j (c::cs)=c.inst g j::E6 g (j+1) cs:=rfl
theorem wZ{g:L}:BQ g []= []:=rfl
theorem wa{g:L}{r:R1}:BQ g [r]=BJ g 0 r.cells:=by simp[BQ]
theorem wc{g:L}{r r':R1}:BQ g [r,r']=BJ g 0 (r.cells++r'.cells):=by simp[BQ]
theorem jU{c:RC}:R1.cells (.sc c)= [c]:=rfl
theorem jQ{cs:H RC}:R1.cells (.ag cs)=cs:=rfl
theorem wg{g j:L}:BJ g j []= []:=rfl
theorem wi{g j:L}{d:D}{cs:H RC}:BJ g j (.v d::cs)=BJ g (j+1) cs:=rfl
theorem wh{g j sz:L}{es:H (H D)}{cs:H RC}:BJ g j (.o sz es::cs)=(g*64+j,sz,es)::BJ g (j+1) cs:=rfl
theorem wA{rows:Rows}:Bd rows []=rows:=rfl
theorem vz{rows r:Rows}{k:L}{x:L × H (H D)}:Bd rows ((k,x)::r)=put (Bd rows r) k x:=rfl
theorem gy{α:Type}{l:H α}: []++l=l:=rfl
theorem gx{α:Type}{a:α}{l m:H α}:(a::l)++m=a::(l++m):=rfl
theorem jD{x:Int}:(x !=x)=F:=by simp
theorem iV{x:Int}:(x==x)=T:=by simp
section
variable {P : Program} {k : H Fr} {Q : Xn → St → Prop} {σ : St} {its : H AZ} {n : L} {N : H L}
theorem ku{d x}:go P (.dops ((E [],G,.mv d x)::its)::k) Q .normal (E σ)=go P (.ops [(G,.mv d x)]:: .dops its::k) Q .normal (E σ):=Bc rfl rfl
theorem kw{d c a b}:go P (.dops ((E [],G,.pick d c a b)::its)::k) Q .normal (E σ)=go P (.ops [(G,.pick d c a b)]:: .dops its::k) Q .normal (E σ):=Bc rfl rfl
theorem kb{d zs ps}:go P (.dops ((E [],G,.build d zs ps)::its)::k) Q .normal (E σ)=go P (.ops [(G,.build d zs ps)]:: .dops its::k) Q .normal (E σ):=Bc rfl rfl
theorem ko{d x g n}:go P (.dops ((E [],G,.load d x g n)::its)::k) Q .normal (E σ)=go P (.ops [(G,.load d x g n)]:: .dops its::k) Q .normal (E σ):=Bc rfl rfl
theorem kv{d x}:go P (.dops ((E [],G,.nilc d x)::its)::k) Q .normal (E σ)=go P (.ops [(G,.nilc d x)]:: .dops its::k) Q .normal (E σ):=Bc rfl rfl
theorem jy{d op x y}:go P (.dops ((E [],G,.bin d op x y)::its)::k) Q .normal (E σ)=go P (.ops [(G,.bin d op x y)]:: .dops its::k) Q .normal (E σ):=Bc rfl rfl
theorem ki{d g ks x y}:go P (.dops ((E [],G,.geq d g ks x y)::its)::k) Q .normal (E σ)=go P (.ops [(G,.geq d g ks x y)]:: .dops its::k) Q .normal (E σ):=Bc rfl rfl
theorem jx{d g x y}:go P (.dops ((E [],G,.beq d g x y)::its)::k) Q .normal (E σ)=go P (.ops [(G,.beq d g x y)]:: .dops its::k) Q .normal (E σ):=Bc rfl rfl
theorem lC{d op x}:go P (.dops ((E [],G,.un d op x)::its)::k) Q .normal (E σ)=go P (.ops [(G,.un d op x)]:: .dops its::k) Q .normal (E σ):=Bc rfl rfl
theorem ke{d kd x}:go P (.dops ((E [],G,.conv d kd x)::its)::k) Q .normal (E σ)=go P (.ops [(G,.conv d kd x)]:: .dops its::k) Q .normal (E σ):=Bc rfl rfl
theorem ky{d sz x lo hi mx}:go P (.dops ((E [],G,.slc d sz x lo hi mx)::its)::k) Q .normal (E σ)=go P (.ops [(G,.slc d sz x lo hi mx)]:: .dops its::k) Q .normal (E σ):=Bc rfl rfl
theorem lA{d x lo hi}:go P (.dops ((E [],G,.sslc d x lo hi)::its)::k) Q .normal (E σ)=go P (.ops [(G,.sslc d x lo hi)]:: .dops its::k) Q .normal (E σ):=Bc rfl rfl
theorem kg{d x off}:go P (.dops ((E [],G,.faddr d x off)::its)::k) Q .normal (E σ)=go P (.ops [(G,.faddr d x off)]:: .dops its::k) Q .normal (E σ):=Bc rfl rfl
theorem kh{d x off g n}:go P (.dops ((E [],G,.field d x off g n)::its)::k) Q .normal (E σ)=go P (.ops [(G,.field d x off g n)]:: .dops its::k) Q .normal (E σ):=Bc rfl rfl
theorem kj{d x i sz}:go P (.dops ((E [],G,.iaddr d x i sz)::its)::k) Q .normal (E σ)=go P (.ops [(G,.iaddr d x i sz)]:: .dops its::k) Q .normal (E σ):=Bc rfl rfl
theorem jv{d x i len sz}:go P (.dops ((E [],G,.aaddr d x i len sz)::its)::k) Q .normal (E σ)=go P (.ops [(G,.aaddr d x i len sz)]:: .dops its::k) Q .normal (E σ):=Bc rfl rfl
theorem kk{d x i}:go P (.dops ((E [],G,.idx d x i)::its)::k) Q .normal (E σ)=go P (.ops [(G,.idx d x i)]:: .dops its::k) Q .normal (E σ):=Bc rfl rfl
theorem kf{d x i}:go P (.dops ((E [],G,.extr d x i)::its)::k) Q .normal (E σ)=go P (.ops [(G,.extr d x i)]:: .dops its::k) Q .normal (E σ):=Bc rfl rfl
theorem kq{d t x}:go P (.dops ((E [],G,.mkif d t x)::its)::k) Q .normal (E σ)=go P (.ops [(G,.mkif d t x)]:: .dops its::k) Q .normal (E σ):=Bc rfl rfl
theorem lB{d x t zc}:go P (.dops ((E [],G,.tass d x t zc)::its)::k) Q .normal (E σ)=go P (.ops [(G,.tass d x t zc)]:: .dops its::k) Q .normal (E σ):=Bc rfl rfl
theorem kn{d x}:go P (.dops ((E [],G,.len d x)::its)::k) Q .normal (E σ)=go P (.ops [(G,.len d x)]:: .dops its::k) Q .normal (E σ):=Bc rfl rfl
theorem kz{d x}:go P (.dops ((E [],G,.slen d x)::its)::k) Q .normal (E σ)=go P (.ops [(G,.slen d x)]:: .dops its::k) Q .normal (E σ):=Bc rfl rfl
theorem kx{d x}:go P (.dops ((E [],G,.sconv d x)::its)::k) Q .normal (E σ)=go P (.ops [(G,.sconv d x)]:: .dops its::k) Q .normal (E σ):=Bc rfl rfl
theorem kt{d m x y}:go P (.dops ((E [],G,.mm d m x y)::its)::k) Q .normal (E σ)=go P (.ops [(G,.mm d m x y)]:: .dops its::k) Q .normal (E σ):=Bc rfl rfl
theorem kp{d f caps}:go P (.dops ((E [],G,.mkf d f caps)::its)::k) Q .normal (E σ)=go P (.ops [(G,.mkf d f caps)]:: .dops its::k) Q .normal (E σ):=Bc rfl rfl
theorem jz{d x}:go P (.dops ((E [],G,.box d x)::its)::k) Q .normal (E σ)=go P (.ops [(G,.box d x)]:: .dops its::k) Q .normal (E σ):=Bc rfl rfl
theorem jw{d cs}:go P (.dops ((E [],G,.alloc d cs)::its)::k) Q .normal (E σ)=go P (.ops [(G,.alloc d cs)]:: .dops its::k) Q .normal (E σ):=Bc rfl rfl
theorem ka{d sz zs len ps}:go P (.dops ((E [],G,.bslice d sz zs len ps)::its)::k) Q .normal (E σ)=go P (.ops [(G,.bslice d sz zs len ps)]:: .dops its::k) Q .normal (E σ):=Bc rfl rfl
theorem kr{d sz b zs x y}:go P (.dops ((E [],G,.mksl d sz b zs x y)::its)::k) Q .normal (E σ)=go P (.ops [(G,.mksl d sz b zs x y)]:: .dops its::k) Q .normal (E σ):=Bc rfl rfl
theorem lT{d x}:go P (.dops ((E (n::N),G,.mv d x)::its)::k) Q .normal (E σ)=go P (.dops its::k) Q .normal (Br σ (n::N) (E d) ((σ.less (n::N)).step (.mv d x))):=Bu rfl
theorem lV{d c a b}:go P (.dops ((E (n::N),G,.pick d c a b)::its)::k) Q .normal (E σ)=go P (.dops its::k) Q .normal (Br σ (n::N) (E d) ((σ.less (n::N)).step (.pick d c a b))):=Bu rfl
theorem lG{d zs ps}:go P (.dops ((E (n::N),G,.build d zs ps)::its)::k) Q .normal (E σ)=go P (.dops its::k) Q .normal (Br σ (n::N) (E d) ((σ.less (n::N)).step (.build d zs ps))):=Bu rfl
theorem lP{d x g m}:go P (.dops ((E (n::N),G,.load d x g m)::its)::k) Q .normal (E σ)=go P (.dops its::k) Q .normal (Br σ (n::N) (E d) ((σ.less (n::N)).step (.load d x g m))):=Bu rfl
theorem lU{d x}:go P (.dops ((E (n::N),G,.nilc d x)::its)::k) Q .normal (E σ)=go P (.dops its::k) Q .normal (Br σ (n::N) (E d) ((σ.less (n::N)).step (.nilc d x))):=Bu rfl
theorem lF{d op x y}:go P (.dops ((E (n::N),G,.bin d op x y)::its)::k) Q .normal (E σ)=go P (.dops its::k) Q .normal (Br σ (n::N) (E d) ((σ.less (n::N)).step (.bin d op x y))):=Bu rfl
theorem lL{d g ks x y}:go P (.dops ((E (n::N),G,.geq d g ks x y)::its)::k) Q .normal (E σ)=go P (.dops its::k) Q .normal (Br σ (n::N) (E d) ((σ.less (n::N)).step (.geq d g ks x y))):=Bu rfl
theorem lE{d g x y}:go P (.dops ((E (n::N),G,.beq d g x y)::its)::k) Q .normal (E σ)=go P (.dops its::k) Q .normal (Br σ (n::N) (E d) ((σ.less (n::N)).step (.beq d g x y))):=Bu rfl
theorem lf{d op x}:go P (.dops ((E (n::N),G,.un d op x)::its)::k) Q .normal (E σ)=go P (.dops its::k) Q .normal (Br σ (n::N) (E d) ((σ.less (n::N)).step (.un d op x))):=Bu rfl
theorem lH{d kd x}:go P (.dops ((E (n::N),G,.conv d kd x)::its)::k) Q .normal (E σ)=go P (.dops its::k) Q .normal (Br σ (n::N) (E d) ((σ.less (n::N)).step (.conv d kd x))):=Bu rfl
theorem lX{d sz x lo hi mx}:go P (.dops ((E (n::N),G,.slc d sz x lo hi mx)::its)::k) Q .normal (E σ)=go P (.dops its::k) Q .normal (Br σ (n::N) (E d) ((σ.less (n::N)).step (.slc d sz x lo hi mx))):=Bu rfl
theorem lZ{d x lo hi}:go P (.dops ((E (n::N),G,.sslc d x lo hi)::its)::k) Q .normal (E σ)=go P (.dops its::k) Q .normal (Br σ (n::N) (E d) ((σ.less (n::N)).step (.sslc d x lo hi))):=Bu rfl
theorem lJ{d x off}:go P (.dops ((E (n::N),G,.faddr d x off)::its)::k) Q .normal (E σ)=go P (.dops its::k) Q .normal (Br σ (n::N) (E d) ((σ.less (n::N)).step (.faddr d x off))):=Bu rfl
theorem lK{d x off g m}:go P (.dops ((E (n::N),G,.field d x off g m)::its)::k) Q .normal (E σ)=go P (.dops its::k) Q .normal (Br σ (n::N) (E d) ((σ.less (n::N)).step (.field d x off g m))):=Bu rfl
theorem lM{d x i sz}:go P (.dops ((E (n::N),G,.iaddr d x i sz)::its)::k) Q .normal (E σ)=go P (.dops its::k) Q .normal (Br σ (n::N) (E d) ((σ.less (n::N)).step (.iaddr d x i sz))):=Bu rfl
theorem lD{d x i len sz}:go P (.dops ((E (n::N),G,.aaddr d x i len sz)::its)::k) Q .normal (E σ)=go P (.dops its::k) Q .normal (Br σ (n::N) (E d) ((σ.less (n::N)).step (.aaddr d x i len sz))):=Bu rfl
theorem lN{d x i}:go P (.dops ((E (n::N),G,.idx d x i)::its)::k) Q .normal (E σ)=go P (.dops its::k) Q .normal (Br σ (n::N) (E d) ((σ.less (n::N)).step (.idx d x i))):=Bu rfl
theorem lI{d x i}:go P (.dops ((E (n::N),G,.extr d x i)::its)::k) Q .normal (E σ)=go P (.dops its::k) Q .normal (Br σ (n::N) (E d) ((σ.less (n::N)).step (.extr d x i))):=Bu rfl
theorem lR{d t x}:go P (.dops ((E (n::N),G,.mkif d t x)::its)::k) Q .normal (E σ)=go P (.dops its::k) Q .normal (Br σ (n::N) (E d) ((σ.less (n::N)).step (.mkif d t x))):=Bu rfl
theorem lc{d x t zc}:go P (.dops ((E (n::N),G,.tass d x t zc)::its)::k) Q .normal (E σ)=go P (.dops its::k) Q .normal (Br σ (n::N) (E d) ((σ.less (n::N)).step (.tass d x t zc))):=Bu rfl
theorem lO{d x}:go P (.dops ((E (n::N),G,.len d x)::its)::k) Q .normal (E σ)=go P (.dops its::k) Q .normal (Br σ (n::N) (E d) ((σ.less (n::N)).step (.len d x))):=Bu rfl
theorem lY{d x}:go P (.dops ((E (n::N),G,.slen d x)::its)::k) Q .normal (E σ)=go P (.dops its::k) Q .normal (Br σ (n::N) (E d) ((σ.less (n::N)).step (.slen d x))):=Bu rfl
theorem lW{d x}:go P (.dops ((E (n::N),G,.sconv d x)::its)::k) Q .normal (E σ)=go P (.dops its::k) Q .normal (Br σ (n::N) (E d) ((σ.less (n::N)).step (.sconv d x))):=Bu rfl
theorem lS{d m x y}:go P (.dops ((E (n::N),G,.mm d m x y)::its)::k) Q .normal (E σ)=go P (.dops its::k) Q .normal (Br σ (n::N) (E d) ((σ.less (n::N)).step (.mm d m x y))):=Bu rfl
theorem lQ{d f caps}:go P (.dops ((E (n::N),G,.mkf d f caps)::its)::k) Q .normal (E σ)=go P (.dops its::k) Q .normal (Br σ (n::N) (E d) ((σ.less (n::N)).step (.mkf d f caps))):=Bu rfl
theorem lh{t:L}{o:AOp}{N:H L}:go P (.dops ((E N,E (t,T),o)::its)::k) Q .normal (E σ)=go P (.gdd (σ.get t) T (E N) o its::k) Q .normal (E σ):=by
 show AK (E (t,T)) σ _ _=_
 rw[Vl];show _=BG _ _ _ _
 simp only[cond_true];congr 1<;>(cases o.dst<;>rfl)
theorem lg{t:L}{o:AOp}{N:H L}:go P (.dops ((E N,E (t,F),o)::its)::k) Q .normal (E σ)=go P (.gdd (σ.get t) F (E N) o its::k) Q .normal (E σ):=by
 show AK (E (t,F)) σ _ _=_
 rw[Vk];show _=BG _ _ _ _
 simp only[cond_false];congr 1<;>(cases o.dst<;>rfl)
theorem lp{b:Bool}{o:AOp}{N:Option (H L)}:go P (.gdd (.v (.sc (.dat (.bool b)))) b N o its::k) Q .normal (E σ)=go P (.dops ((N,G,o)::its)::k) Q .normal (E σ):=by
 cases b<;>simp[go,AG,BG]
theorem lm{o:AOp}{N:Option (H L)}:go P (.gdd (.v (.sc (.dat (.bool F)))) T N o its::k) Q .normal (E σ)=go P (.dops its::k) Q .normal (CL σ o.dst):=by
 simp only[go,AG,BG,cond_true];cases o.dst<;>simp[C9,CL]
theorem lk{o:AOp}{N:Option (H L)}:go P (.gdd (.v (.sc (.dat (.bool T)))) F N o its::k) Q .normal (E σ)=go P (.dops its::k) Q .normal (CL σ o.dst):=by
 simp only[go,AG,BG,cond_false];cases o.dst<;>simp[C9,CL]
theorem lj{w:Bool}{o:AOp}{N:Option (H L)}:go P (.gdd .no w N o its::k) Q .normal (E σ)=go P (.dops its::k) Q .normal (CL σ o.dst):=by
 simp only[go,AG,BG];cases o.dst<;>simp[C9,CL]
theorem pu{w:Bool}{o:AOp}{its:H AItem}:go P (.gd .no w o its::k) Q .normal (E σ)=go P (.ops its::k) Q .normal (CL σ o.dst):=by
 simp only[go,AG,BG];cases o.dst<;>simp[C9,CL]
end
def DA(k:L):H L→Bool
 | []=>F
 | n::r=>bif k==n then T else DA k r
def Df{α:Type}(f:L→L)(N:H L):H (L × α)→H (L × α)
 | []=> []
 | (k,v)::r=>bif DA (f k) N then Df f N r else(k,v)::Df f N r
theorem OM(k:L):∀N:H L,DA k N=N.contains k
 | []=>rfl
 | n::r=>by
  simp only[DA,O,OM k r];cases k==n<;>rfl
theorem Tj{α:Type}(f:L→L)(N:H L):∀l:H (L × α),Df f N l=l.filter fun p=> !N.contains (f p.1)
 | []=>rfl
 | (k,v)::r=>by
  simp only[Df,OM,List.filter_cons,Tj f N r];cases N.contains (f k)<;>rfl
theorem uD{env bx rows}{n:L}{N:H L}:(St.mk env bx rows).less (n::N)=⟨env,Df id (n::N) bx,Df (· / 64) (n::N) rows⟩:=by
 rw[Tj,Tj];rfl
theorem uZ{k:L}:DA k []=F:=rfl
theorem uY{k n:L}{r:H L}:DA k (n::r)=bif k==n then T else DA k r:=rfl
theorem tL{α:Type}{f:L→L}{N:H L}:Df f N ([]:H (L × α))= []:=rfl
theorem tK{α:Type}{N:H L}{k:L}{v:α}{r:H (L × α)}:Df id N ((k,v)::r)=bif DA k N then Df id N r else(k,v)::Df id N r:=rfl
theorem tJ{α:Type}{N:H L}{k:L}{v:α}{r:H (L × α)}:Df (· / 64) N ((k,v)::r)=bif DA (k / 64) N then Df (· / 64) N r else(k,v)::Df (· / 64) N r:=rfl
theorem za{σ τ:St}{N:H L}{d:L}:Br σ N (E d) (E τ)=bif (τ.get d).avoids N then E (σ.set d (τ.get d)) else G:=rfl
theorem A0i{σ:St}{d:L}:CL σ (E d)=E (σ.set d .no):=rfl
theorem hZ{N:H L}{d:D}:AV.avoids N (.v (.sc (.dat d)))=T:=by simp[AV.avoids,AV.cells,V1.cells,AC.avoids,AC.uses]
theorem iA{N:H L}:AV.avoids N (.v (.sc .nil))=T:=by simp[AV.avoids,AV.cells,V1.cells,AC.avoids,AC.uses]
theorem iC{N:H L}{i:L}:AV.avoids N (.v (.sc (.own i)))= !DA (i / 64) N:=by
 rw[OM]
 induction N with
 | nil=>rfl
 | cons n N ih=>
  simp only[AV.avoids,AV.cells,V1.cells,AC.avoids,AC.uses,U,List.all_nil,V,O] at ih ⊢
  rw[ih];cases(i / 64==n)<;>simp
theorem iD{N:H L}{i o:L}:AV.avoids N (.v (.sc (.pb i o)))= !DA i N:=by
 rw[OM]
 induction N with
 | nil=>rfl
 | cons n N ih=>
  simp only[AV.avoids,AV.cells,V1.cells,AC.avoids,AC.uses,U,List.all_nil,V,O] at ih ⊢
  rw[ih];cases(i==n)<;>simp
theorem iE{N:H L}{i x o:L}:AV.avoids N (.v (.sc (.pe i x o)))= !DA (i / 64) N:=by
 rw[OM]
 induction N with
 | nil=>rfl
 | cons n N ih=>
  simp only[AV.avoids,AV.cells,V1.cells,AC.avoids,AC.uses,U,List.all_nil,V,O] at ih ⊢
  rw[ih];cases(i / 64==n)<;>simp
theorem hU{N:H L}:AV.avoids N (.v (.ag []))=T:=rfl
theorem hP{N:H L}{c:AC}{cs:H AC}:AV.avoids N (.v (.ag (c::cs)))=((AV.v (.sc c)).avoids N&&(AV.v (.ag cs)).avoids N):=by simp[AV.avoids,AV.cells,V1.cells]
theorem vC:(!F)=T:=rfl
theorem vD:(!T)=F:=rfl
theorem gm:(T&&T)=T:=rfl
theorem mZ{d x}:AOp.dst (.mv d x)=E d:=rfl
theorem mb{d c a b}:AOp.dst (.pick d c a b)=E d:=rfl
theorem mJ{d zs ps}:AOp.dst (.build d zs ps)=E d:=rfl
theorem mU{d x g n}:AOp.dst (.load d x g n)=E d:=rfl
theorem ma{d x}:AOp.dst (.nilc d x)=E d:=rfl
theorem mG{d op x y}:AOp.dst (.bin d op x y)=E d:=rfl
theorem mQ{d g ks x y}:AOp.dst (.geq d g ks x y)=E d:=rfl
theorem mF{d g x y}:AOp.dst (.beq d g x y)=E d:=rfl
theorem mp{d op x}:AOp.dst (.un d op x)=E d:=rfl
theorem mM{d kd x}:AOp.dst (.conv d kd x)=E d:=rfl
theorem me{d sz x lo hi mx}:AOp.dst (.slc d sz x lo hi mx)=E d:=rfl
theorem mg{d x lo hi}:AOp.dst (.sslc d x lo hi)=E d:=rfl
theorem mO{d x off}:AOp.dst (.faddr d x off)=E d:=rfl
theorem mP{d x off g n}:AOp.dst (.field d x off g n)=E d:=rfl
theorem mR{d x i sz}:AOp.dst (.iaddr d x i sz)=E d:=rfl
theorem mD{d x i len sz}:AOp.dst (.aaddr d x i len sz)=E d:=rfl
theorem mS{d x i}:AOp.dst (.idx d x i)=E d:=rfl
theorem mN{d x i}:AOp.dst (.extr d x i)=E d:=rfl
theorem mW{d t x}:AOp.dst (.mkif d t x)=E d:=rfl
theorem mh{d x t zc}:AOp.dst (.tass d x t zc)=E d:=rfl
theorem mT{d x}:AOp.dst (.len d x)=E d:=rfl
theorem mf{d x}:AOp.dst (.slen d x)=E d:=rfl
theorem md{d x}:AOp.dst (.sconv d x)=E d:=rfl
theorem mY{d m x y}:AOp.dst (.mm d m x y)=E d:=rfl
theorem mV{d f caps}:AOp.dst (.mkf d f caps)=E d:=rfl
theorem mH{d x}:AOp.dst (.box d x)=E d:=rfl
theorem mE{d cs}:AOp.dst (.alloc d cs)=E d:=rfl
theorem mI{d sz zs len ps}:AOp.dst (.bslice d sz zs len ps)=E d:=rfl
theorem mX{d sz b zs x y}:AOp.dst (.mksl d sz b zs x y)=E d:=rfl
theorem mK{d f args}:AOp.dst (.call d f args)=E d:=rfl
theorem mL{d x args}:AOp.dst (.callv d x args)=E d:=rfl
def oL(rs:H R1):Bool:=(rs.flatMap R1.cells).all fun | .v d=>d.flat | .o _ _=>F
theorem E2{rs:H R1}(h:oL rs=T):CC rs:=by
 intro c hc;have:=List.all_eq_true.1 h c hc;cases c with
 | v d=>exact this
 | o=>cases this
end Go.Vi
