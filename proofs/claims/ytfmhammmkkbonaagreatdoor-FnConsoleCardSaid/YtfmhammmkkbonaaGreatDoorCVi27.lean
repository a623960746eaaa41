/-
The value level. No condition.
-/
import Derived.Test.YtfmhammmkkbonaaGreatDoorCVi26
namespace Go.Vi
set_option linter.all false
open List renaming contains_cons → O, all_cons → U
open Bool renaming and_true → V, true → T, false → F
open Option renaming some → E, none → G
open _root_ renaming List → H, Nat → L
section
variable {P : Program}
end
theorem lS{α:Type}{n:L}:A1 ([]:H (L × α)) n=G:=rfl
theorem lR{α:Type}{k n:L}{v:α}{r:H (L × α)}:A1 ((k,v)::r) n=bif k==n then E v else A1 r n:=rfl
theorem uZ{α:Type}{n:L}{v:α}:put ([]:H (L × α)) n v= [(n,v)]:=rfl
theorem uY{α:Type}{k n:L}{u v:α}{r:H (L × α)}:put ((k,u)::r) n v=bif k==n then(k,v)::r else(k,u)::put r n v:=rfl
theorem xW{σ:St}{n:L}:σ.val (.t n)=σ.get n:=rfl
theorem xV{σ:St}{v:AV}:σ.val (.c v)=v:=rfl
theorem nF{env bx rows}{k:L}:(St.mk env bx rows).get k=(A1 env k).getD .undef:=rfl
theorem vq{env bx rows}{k:L}{v:AV}:(St.mk env bx rows).set k v=⟨put env k v,bx,rows⟩:=rfl
theorem getD_some{α:Type}{a b:α}:(E a).getD b=a:=rfl
theorem nE{α:Type}{b:α}:(G:Option α).getD b=b:=rfl
theorem map_some{α β:Type}{f:α→β}{a:α}:(E a).map f=E (f a):=rfl
theorem map_none{α β:Type}{f:α→β}:(G:Option α).map f=G:=rfl
theorem gC{α:Type}{a b:α}:cond T a b=a:=rfl
theorem gB{α:Type}{a b:α}:cond F a b=b:=rfl
theorem wC{s:H UInt8}:Kk (.v (.sc (.dat (.str s))))=E (.v (.sc (.dat (.int .i64 s.length)))):=rfl
theorem rx{rs:Rows}{es:H (H D)}:Cp rs (.v (.sc (.dat (.sl es))))=E (.v (.sc (.dat (.int .i64 es.length)))):=rfl
theorem vY{rs:Rows}{es:H (H D)}:GM rs (.v (.sc (.dat (.sl es))))=(Df es).map fun b=> .v (.sc (.dat (.str b))):=rfl
theorem vX{rs:Rows}{id:L}:GM rs (.v (.sc (.own id)))=match A1 rs id with | some (_,es)=>(Df es).map fun b=> .v (.sc (.dat (.str b))) | none=>G:=rfl
theorem rr{rs:Rows}:Cp rs (.v (.sc .nil))=E (.v (.sc (.dat (.int .i64 0)))):=rfl
theorem gF{k k':IntKind}{n:Int}:Qt k (.v (.sc (.dat (.int k' n))))=E (.v (.sc (.dat (.int k (k.wrap n))))):=rfl
theorem eY{op:BinOp}{k:IntKind}{x y:Int}:BY op (.v (.sc (.dat (.int k x)))) (.v (.sc (.dat (.int k y))))=(AI op k x y).map fun d=> .v (.sc (.dat d)):=by simp[BY]
theorem em{op:BinOp}{x y:H UInt8}:BY op (.v (.sc (.dat (.str x)))) (.v (.sc (.dat (.str y))))=(GP op x y).map fun d=> .v (.sc (.dat d)):=rfl
theorem qX{k:IntKind}{x y:Int}:AI .add k x y=E (.int k (k.wrap (x+y))):=rfl
theorem qt{k:IntKind}{x y:Int}:AI .sub k x y=E (.int k (k.wrap (x - y))):=rfl
theorem qf{k:IntKind}{x y:Int}:AI .mul k x y=E (.int k (k.wrap (x*y))):=rfl
theorem qi{k:IntKind}{x y:Int}:AI .quo k x y=bif y==0 then G else E (.int k (k.wrap (x.tdiv y))):=by
 by_cases h:y=0
 ·simp[AI,h]
 ·have h':(y==0)=F:=by simpa using h
  simp[AI,h,h']
theorem qj{k:IntKind}{x y:Int}:AI .rem k x y=bif y==0 then G else E (.int k (k.wrap (x.tmod y))):=by
 by_cases h:y=0
 ·simp[AI,h]
 ·have h':(y==0)=F:=by simpa using h
  simp[AI,h,h']
theorem qa{k:IntKind}{x y:Int}:AI .eql k x y=E (.bool (x==y)):=rfl
theorem qg{k:IntKind}{x y:Int}:AI .neq k x y=E (.bool (x !=y)):=rfl
theorem qe{k:IntKind}{x y:Int}:AI .lss k x y=E (.bool (decide (x<y))):=rfl
theorem qd{k:IntKind}{x y:Int}:AI .leq k x y=E (.bool (decide (x≤y))):=rfl
theorem qc{k:IntKind}{x y:Int}:AI .gtr k x y=E (.bool (decide (y<x))):=rfl
theorem qb{k:IntKind}{x y:Int}:AI .geq k x y=E (.bool (decide (y≤x))):=rfl
theorem wb{x y:H UInt8}:GP .eql x y=E (.bool (x==y)):=rfl
theorem wc{x y:H UInt8}:GP .neq x y=E (.bool (!(x==y))):=rfl
theorem xP{b:Bool}:GU .not (.v (.sc (.dat (.bool b))))=E (.v (.sc (.dat (.bool (!b))))):=rfl
theorem pq{s:H UInt8}{k:IntKind}{i:Int}:JT (.v (.sc (.dat (.str s)))) (.v (.sc (.dat (.int k i))))=(ix s i).map fun b=> .v (.sc (.dat (.int .u8 b.toNat))):=rfl
theorem qy{α:Type}{l:H α}{i:L}(h:i<l.length):ix l (i:Int)=E l[i]:=by simp[ix,h]
theorem lO{off:L}{g:Bool}{n:L}{cs:H AC}:Gx off g n (.v (.ag cs))=CO cs off g n:=rfl
theorem fY{cs:H AC}{off n:L}:CO cs off F n=(cs[off]?).map fun c=> .v (.sc c):=rfl
theorem qT{env bx rows}{d:L}{rs:H R1}:(St.mk env bx rows).inst d rs=⟨put env d (By d rs),bx,Ba rows (BH d rs)⟩:=rfl
theorem qL{g:L}{r:R1}:By g [r]= .v (r.inst g 0):=rfl
theorem qM{g:L}{r r':R1}{rs:H R1}:By g (r::r'::rs)= .tup (Dt g 0 (r::r'::rs)):=rfl
theorem qQ{g j:L}:Dt g j []= []:=rfl
theorem qP{g j:L}{r:R1}{rs:H R1}:Dt g j (r::rs)=r.inst g j::Dt g (j+r.width) rs:=rfl
theorem A0v{c:RC}:R1.width (.sc c)=1:=rfl
theorem A0u{cs:H RC}:R1.width (.ag cs)=cs.length:=rfl
theorem qW{g j:L}{d:D}:RC.inst g j (.v d)= .dat d:=rfl
theorem qU{g j sz:L}{es:H (H D)}:RC.inst g j (.o sz es)= .own (g*64+j):=rfl
theorem qV{g j:L}{c:RC}:R1.inst g j (.sc c)= .sc (c.inst g j):=rfl
theorem qS{g j:L}{cs:H RC}:R1.inst g j (.ag cs)= .ag (Ed g j cs):=rfl
theorem qO{g j:L}:Ed g j []= []:=rfl
theorem qN{g j:L}{c:RC}{cs:H RC}:Ed g j (c::cs)=c.inst g j::Ed g (j+1) cs:=rfl
theorem vE{g:L}:BH g []= []:=rfl
theorem vF{g:L}{r:R1}:BH g [r]=BI g 0 r.cells:=by simp[BH]
theorem vH{g:L}{r r':R1}:BH g [r,r']=BI g 0 (r.cells++r'.cells):=by simp[BH]
theorem fb{c:RC}:R1.cells (.sc c)= [c]:=rfl
theorem fW{cs:H RC}:R1.cells (.ag cs)=cs:=rfl
theorem vI{g j:L}:BI g j []= []:=rfl
theorem vK{g j:L}{d:D}{cs:H RC}:BI g j (.v d::cs)=BI g (j+1) cs:=rfl
theorem vJ{g j sz:L}{es:H (H D)}{cs:H RC}:BI g j (.o sz es::cs)=(g*64+j,sz,es)::BI g (j+1) cs:=rfl
theorem uV{rows:Rows}:Ba rows []=rows:=rfl
theorem uU{rows r:Rows}{k:L}{x:L × H (H D)}:Ba rows ((k,x)::r)=put (Ba rows r) k x:=rfl
theorem da{α:Type}{l:H α}: []++l=l:=rfl
theorem dZ{α:Type}{a:α}{l m:H α}:(a::l)++m=a::(l++m):=rfl
theorem fF{x:Int}:(x !=x)=F:=by simp
theorem eS{x:Int}:(x==x)=T:=by simp
section
variable {P : Program} {k : H Fr} {Q : Xn → St → Prop} {σ : St} {its : H AT} {n : L} {N : H L}
theorem gn{d x}:go P (.dops ((E [],G,.mv d x)::its)::k) Q .normal (E σ)=go P (.ops [(G,.mv d x)]:: .dops its::k) Q .normal (E σ):=Bd rfl rfl
theorem gr{d c a b}:go P (.dops ((E [],G,.pick d c a b)::its)::k) Q .normal (E σ)=go P (.ops [(G,.pick d c a b)]:: .dops its::k) Q .normal (E σ):=Bd rfl rfl
theorem gW{d zs ps}:go P (.dops ((E [],G,.build d zs ps)::its)::k) Q .normal (E σ)=go P (.ops [(G,.build d zs ps)]:: .dops its::k) Q .normal (E σ):=Bd rfl rfl
theorem gi{d x g n}:go P (.dops ((E [],G,.load d x g n)::its)::k) Q .normal (E σ)=go P (.ops [(G,.load d x g n)]:: .dops its::k) Q .normal (E σ):=Bd rfl rfl
theorem gp{d x}:go P (.dops ((E [],G,.nilc d x)::its)::k) Q .normal (E σ)=go P (.ops [(G,.nilc d x)]:: .dops its::k) Q .normal (E σ):=Bd rfl rfl
theorem gT{d op x y}:go P (.dops ((E [],G,.bin d op x y)::its)::k) Q .normal (E σ)=go P (.ops [(G,.bin d op x y)]:: .dops its::k) Q .normal (E σ):=Bd rfl rfl
theorem gb{d g ks x y}:go P (.dops ((E [],G,.geq d g ks x y)::its)::k) Q .normal (E σ)=go P (.ops [(G,.geq d g ks x y)]:: .dops its::k) Q .normal (E σ):=Bd rfl rfl
theorem gS{d g x y}:go P (.dops ((E [],G,.beq d g x y)::its)::k) Q .normal (E σ)=go P (.ops [(G,.beq d g x y)]:: .dops its::k) Q .normal (E σ):=Bd rfl rfl
theorem gz{d op x}:go P (.dops ((E [],G,.un d op x)::its)::k) Q .normal (E σ)=go P (.ops [(G,.un d op x)]:: .dops its::k) Q .normal (E σ):=Bd rfl rfl
theorem gX{d kd x}:go P (.dops ((E [],G,.conv d kd x)::its)::k) Q .normal (E σ)=go P (.ops [(G,.conv d kd x)]:: .dops its::k) Q .normal (E σ):=Bd rfl rfl
theorem gu{d sz x lo hi mx}:go P (.dops ((E [],G,.slc d sz x lo hi mx)::its)::k) Q .normal (E σ)=go P (.ops [(G,.slc d sz x lo hi mx)]:: .dops its::k) Q .normal (E σ):=Bd rfl rfl
theorem gx{d x lo hi}:go P (.dops ((E [],G,.sslc d x lo hi)::its)::k) Q .normal (E σ)=go P (.ops [(G,.sslc d x lo hi)]:: .dops its::k) Q .normal (E σ):=Bd rfl rfl
theorem gZ{d x off}:go P (.dops ((E [],G,.faddr d x off)::its)::k) Q .normal (E σ)=go P (.ops [(G,.faddr d x off)]:: .dops its::k) Q .normal (E σ):=Bd rfl rfl
theorem ga{d x off g n}:go P (.dops ((E [],G,.field d x off g n)::its)::k) Q .normal (E σ)=go P (.ops [(G,.field d x off g n)]:: .dops its::k) Q .normal (E σ):=Bd rfl rfl
theorem gf{d x i sz}:go P (.dops ((E [],G,.iaddr d x i sz)::its)::k) Q .normal (E σ)=go P (.ops [(G,.iaddr d x i sz)]:: .dops its::k) Q .normal (E σ):=Bd rfl rfl
theorem gQ{d x i len sz}:go P (.dops ((E [],G,.aaddr d x i len sz)::its)::k) Q .normal (E σ)=go P (.ops [(G,.aaddr d x i len sz)]:: .dops its::k) Q .normal (E σ):=Bd rfl rfl
theorem gg{d x i}:go P (.dops ((E [],G,.idx d x i)::its)::k) Q .normal (E σ)=go P (.ops [(G,.idx d x i)]:: .dops its::k) Q .normal (E σ):=Bd rfl rfl
theorem gY{d x i}:go P (.dops ((E [],G,.extr d x i)::its)::k) Q .normal (E σ)=go P (.ops [(G,.extr d x i)]:: .dops its::k) Q .normal (E σ):=Bd rfl rfl
theorem gk{d t x}:go P (.dops ((E [],G,.mkif d t x)::its)::k) Q .normal (E σ)=go P (.ops [(G,.mkif d t x)]:: .dops its::k) Q .normal (E σ):=Bd rfl rfl
theorem gy{d x t zc}:go P (.dops ((E [],G,.tass d x t zc)::its)::k) Q .normal (E σ)=go P (.ops [(G,.tass d x t zc)]:: .dops its::k) Q .normal (E σ):=Bd rfl rfl
theorem gh{d x}:go P (.dops ((E [],G,.len d x)::its)::k) Q .normal (E σ)=go P (.ops [(G,.len d x)]:: .dops its::k) Q .normal (E σ):=Bd rfl rfl
theorem gw{d x}:go P (.dops ((E [],G,.slen d x)::its)::k) Q .normal (E σ)=go P (.ops [(G,.slen d x)]:: .dops its::k) Q .normal (E σ):=Bd rfl rfl
theorem gt{d x}:go P (.dops ((E [],G,.sconv d x)::its)::k) Q .normal (E σ)=go P (.ops [(G,.sconv d x)]:: .dops its::k) Q .normal (E σ):=Bd rfl rfl
theorem gm{d m x y}:go P (.dops ((E [],G,.mm d m x y)::its)::k) Q .normal (E σ)=go P (.ops [(G,.mm d m x y)]:: .dops its::k) Q .normal (E σ):=Bd rfl rfl
theorem gj{d f caps}:go P (.dops ((E [],G,.mkf d f caps)::its)::k) Q .normal (E σ)=go P (.ops [(G,.mkf d f caps)]:: .dops its::k) Q .normal (E σ):=Bd rfl rfl
theorem gU{d x}:go P (.dops ((E [],G,.box d x)::its)::k) Q .normal (E σ)=go P (.ops [(G,.box d x)]:: .dops its::k) Q .normal (E σ):=Bd rfl rfl
theorem gR{d cs}:go P (.dops ((E [],G,.alloc d cs)::its)::k) Q .normal (E σ)=go P (.ops [(G,.alloc d cs)]:: .dops its::k) Q .normal (E σ):=Bd rfl rfl
theorem gV{d sz zs len ps}:go P (.dops ((E [],G,.bslice d sz zs len ps)::its)::k) Q .normal (E σ)=go P (.ops [(G,.bslice d sz zs len ps)]:: .dops its::k) Q .normal (E σ):=Bd rfl rfl
theorem gl{d sz b zs x y}:go P (.dops ((E [],G,.mksl d sz b zs x y)::its)::k) Q .normal (E σ)=go P (.ops [(G,.mksl d sz b zs x y)]:: .dops its::k) Q .normal (E σ):=Bd rfl rfl
theorem iK{d x}:go P (.dops ((E (n::N),G,.mv d x)::its)::k) Q .normal (E σ)=go P (.dops its::k) Q .normal (Bp σ (n::N) (E d) ((σ.less (n::N)).step (.mv d x))):=Bu rfl
theorem iM{d c a b}:go P (.dops ((E (n::N),G,.pick d c a b)::its)::k) Q .normal (E σ)=go P (.dops its::k) Q .normal (Bp σ (n::N) (E d) ((σ.less (n::N)).step (.pick d c a b))):=Bu rfl
theorem hP{d zs ps}:go P (.dops ((E (n::N),G,.build d zs ps)::its)::k) Q .normal (E σ)=go P (.dops its::k) Q .normal (Bp σ (n::N) (E d) ((σ.less (n::N)).step (.build d zs ps))):=Bu rfl
theorem iG{d x g m}:go P (.dops ((E (n::N),G,.load d x g m)::its)::k) Q .normal (E σ)=go P (.dops its::k) Q .normal (Bp σ (n::N) (E d) ((σ.less (n::N)).step (.load d x g m))):=Bu rfl
theorem iL{d x}:go P (.dops ((E (n::N),G,.nilc d x)::its)::k) Q .normal (E σ)=go P (.dops its::k) Q .normal (Bp σ (n::N) (E d) ((σ.less (n::N)).step (.nilc d x))):=Bu rfl
theorem hO{d op x y}:go P (.dops ((E (n::N),G,.bin d op x y)::its)::k) Q .normal (E σ)=go P (.dops its::k) Q .normal (Bp σ (n::N) (E d) ((σ.less (n::N)).step (.bin d op x y))):=Bu rfl
theorem iC{d g ks x y}:go P (.dops ((E (n::N),G,.geq d g ks x y)::its)::k) Q .normal (E σ)=go P (.dops its::k) Q .normal (Bp σ (n::N) (E d) ((σ.less (n::N)).step (.geq d g ks x y))):=Bu rfl
theorem hI{d g x y}:go P (.dops ((E (n::N),G,.beq d g x y)::its)::k) Q .normal (E σ)=go P (.dops its::k) Q .normal (Bp σ (n::N) (E d) ((σ.less (n::N)).step (.beq d g x y))):=Bu rfl
theorem iS{d op x}:go P (.dops ((E (n::N),G,.un d op x)::its)::k) Q .normal (E σ)=go P (.dops its::k) Q .normal (Bp σ (n::N) (E d) ((σ.less (n::N)).step (.un d op x))):=Bu rfl
theorem hU{d kd x}:go P (.dops ((E (n::N),G,.conv d kd x)::its)::k) Q .normal (E σ)=go P (.dops its::k) Q .normal (Bp σ (n::N) (E d) ((σ.less (n::N)).step (.conv d kd x))):=Bu rfl
theorem iO{d sz x lo hi mx}:go P (.dops ((E (n::N),G,.slc d sz x lo hi mx)::its)::k) Q .normal (E σ)=go P (.dops its::k) Q .normal (Bp σ (n::N) (E d) ((σ.less (n::N)).step (.slc d sz x lo hi mx))):=Bu rfl
theorem iQ{d x lo hi}:go P (.dops ((E (n::N),G,.sslc d x lo hi)::its)::k) Q .normal (E σ)=go P (.dops its::k) Q .normal (Bp σ (n::N) (E d) ((σ.less (n::N)).step (.sslc d x lo hi))):=Bu rfl
theorem iA{d x off}:go P (.dops ((E (n::N),G,.faddr d x off)::its)::k) Q .normal (E σ)=go P (.dops its::k) Q .normal (Bp σ (n::N) (E d) ((σ.less (n::N)).step (.faddr d x off))):=Bu rfl
theorem iB{d x off g m}:go P (.dops ((E (n::N),G,.field d x off g m)::its)::k) Q .normal (E σ)=go P (.dops its::k) Q .normal (Bp σ (n::N) (E d) ((σ.less (n::N)).step (.field d x off g m))):=Bu rfl
theorem iD{d x i sz}:go P (.dops ((E (n::N),G,.iaddr d x i sz)::its)::k) Q .normal (E σ)=go P (.dops its::k) Q .normal (Bp σ (n::N) (E d) ((σ.less (n::N)).step (.iaddr d x i sz))):=Bu rfl
theorem hD{d x i len sz}:go P (.dops ((E (n::N),G,.aaddr d x i len sz)::its)::k) Q .normal (E σ)=go P (.dops its::k) Q .normal (Bp σ (n::N) (E d) ((σ.less (n::N)).step (.aaddr d x i len sz))):=Bu rfl
theorem iE{d x i}:go P (.dops ((E (n::N),G,.idx d x i)::its)::k) Q .normal (E σ)=go P (.dops its::k) Q .normal (Bp σ (n::N) (E d) ((σ.less (n::N)).step (.idx d x i))):=Bu rfl
theorem hZ{d x i}:go P (.dops ((E (n::N),G,.extr d x i)::its)::k) Q .normal (E σ)=go P (.dops its::k) Q .normal (Bp σ (n::N) (E d) ((σ.less (n::N)).step (.extr d x i))):=Bu rfl
theorem iI{d t x}:go P (.dops ((E (n::N),G,.mkif d t x)::its)::k) Q .normal (E σ)=go P (.dops its::k) Q .normal (Bp σ (n::N) (E d) ((σ.less (n::N)).step (.mkif d t x))):=Bu rfl
theorem iR{d x t zc}:go P (.dops ((E (n::N),G,.tass d x t zc)::its)::k) Q .normal (E σ)=go P (.dops its::k) Q .normal (Bp σ (n::N) (E d) ((σ.less (n::N)).step (.tass d x t zc))):=Bu rfl
theorem iF{d x}:go P (.dops ((E (n::N),G,.len d x)::its)::k) Q .normal (E σ)=go P (.dops its::k) Q .normal (Bp σ (n::N) (E d) ((σ.less (n::N)).step (.len d x))):=Bu rfl
theorem iP{d x}:go P (.dops ((E (n::N),G,.slen d x)::its)::k) Q .normal (E σ)=go P (.dops its::k) Q .normal (Bp σ (n::N) (E d) ((σ.less (n::N)).step (.slen d x))):=Bu rfl
theorem iN{d x}:go P (.dops ((E (n::N),G,.sconv d x)::its)::k) Q .normal (E σ)=go P (.dops its::k) Q .normal (Bp σ (n::N) (E d) ((σ.less (n::N)).step (.sconv d x))):=Bu rfl
theorem iJ{d m x y}:go P (.dops ((E (n::N),G,.mm d m x y)::its)::k) Q .normal (E σ)=go P (.dops its::k) Q .normal (Bp σ (n::N) (E d) ((σ.less (n::N)).step (.mm d m x y))):=Bu rfl
theorem iH{d f caps}:go P (.dops ((E (n::N),G,.mkf d f caps)::its)::k) Q .normal (E σ)=go P (.dops its::k) Q .normal (Bp σ (n::N) (E d) ((σ.less (n::N)).step (.mkf d f caps))):=Bu rfl
theorem iU{t:L}{o:AOp}{N:H L}:go P (.dops ((E N,E (t,T),o)::its)::k) Q .normal (E σ)=go P (.gdd (σ.get t) T (E N) o its::k) Q .normal (E σ):=by
 show AB (E (t,T)) σ _ _=_
 rw[Ti];show _=BG _ _ _ _
 simp only[cond_true];congr 1<;>(cases o.dst<;>rfl)
theorem iT{t:L}{o:AOp}{N:H L}:go P (.dops ((E N,E (t,F),o)::its)::k) Q .normal (E σ)=go P (.gdd (σ.get t) F (E N) o its::k) Q .normal (E σ):=by
 show AB (E (t,F)) σ _ _=_
 rw[Th];show _=BG _ _ _ _
 simp only[cond_false];congr 1<;>(cases o.dst<;>rfl)
theorem iY{b:Bool}{o:AOp}{N:Option (H L)}:go P (.gdd (.v (.sc (.dat (.bool b)))) b N o its::k) Q .normal (E σ)=go P (.dops ((N,G,o)::its)::k) Q .normal (E σ):=by
 cases b<;>simp[go,AH,BG]
theorem iX{o:AOp}{N:Option (H L)}:go P (.gdd (.v (.sc (.dat (.bool F)))) T N o its::k) Q .normal (E σ)=go P (.dops its::k) Q .normal (CI σ o.dst):=by
 simp only[go,AH,BG,cond_true];cases o.dst<;>simp[C7,CI]
theorem iW{o:AOp}{N:Option (H L)}:go P (.gdd (.v (.sc (.dat (.bool T)))) F N o its::k) Q .normal (E σ)=go P (.dops its::k) Q .normal (CI σ o.dst):=by
 simp only[go,AH,BG,cond_false];cases o.dst<;>simp[C7,CI]
theorem iV{w:Bool}{o:AOp}{N:Option (H L)}:go P (.gdd .no w N o its::k) Q .normal (E σ)=go P (.dops its::k) Q .normal (CI σ o.dst):=by
 simp only[go,AH,BG];cases o.dst<;>simp[C7,CI]
theorem oD{w:Bool}{o:AOp}{its:H AItem}:go P (.gd .no w o its::k) Q .normal (E σ)=go P (.ops its::k) Q .normal (CI σ o.dst):=by
 simp only[go,AH,BG];cases o.dst<;>simp[C7,CI]
end
def DP(k:L):H L→Bool
 | []=>F
 | n::r=>bif k==n then T else DP k r
def Du{α:Type}(f:L→L)(N:H L):H (L × α)→H (L × α)
 | []=> []
 | (k,v)::r=>bif DP (f k) N then Du f N r else(k,v)::Du f N r
theorem MK(k:L):∀N:H L,DP k N=N.contains k
 | []=>rfl
 | n::r=>by
  simp only[DP,O,MK k r];cases k==n<;>rfl
theorem Ru{α:Type}(f:L→L)(N:H L):∀l:H (L × α),Du f N l=l.filter fun p=> !N.contains (f p.1)
 | []=>rfl
 | (k,v)::r=>by
  simp only[Du,MK,List.filter_cons,Ru f N r];cases N.contains (f k)<;>rfl
theorem sC{env bx rows}{n:L}{N:H L}:(St.mk env bx rows).less (n::N)=⟨env,Du id (n::N) bx,Du (· / 64) (n::N) rows⟩:=by
 rw[Ru,Ru];rfl
theorem sY{k:L}:DP k []=F:=rfl
theorem sX{k n:L}{r:H L}:DP k (n::r)=bif k==n then T else DP k r:=rfl
theorem rD{α:Type}{f:L→L}{N:H L}:Du f N ([]:H (L × α))= []:=rfl
theorem rC{α:Type}{N:H L}{k:L}{v:α}{r:H (L × α)}:Du id N ((k,v)::r)=bif DP k N then Du id N r else(k,v)::Du id N r:=rfl
theorem qz{α:Type}{N:H L}{k:L}{v:α}{r:H (L × α)}:Du (· / 64) N ((k,v)::r)=bif DP (k / 64) N then Du (· / 64) N r else(k,v)::Du (· / 64) N r:=rfl
theorem wt{σ τ:St}{N:H L}{d:L}:Bp σ N (E d) (E τ)=bif (τ.get d).avoids N then E (σ.set d (τ.get d)) else G:=rfl
theorem xR{σ:St}{d:L}:CI σ (E d)=E (σ.set d .no):=rfl
theorem dr{N:H L}{d:D}:AV.avoids N (.v (.sc (.dat d)))=T:=by simp[AV.avoids,AV.cells,V1.cells,AC.avoids,AC.uses]
theorem dt{N:H L}:AV.avoids N (.v (.sc .nil))=T:=by simp[AV.avoids,AV.cells,V1.cells,AC.avoids,AC.uses]
theorem dv{N:H L}{i:L}:AV.avoids N (.v (.sc (.own i)))= !DP (i / 64) N:=by
 rw[MK]
 induction N with
 | nil=>rfl
 | cons n N ih=>
  simp only[AV.avoids,AV.cells,V1.cells,AC.avoids,AC.uses,U,List.all_nil,V,O] at ih ⊢
  rw[ih];cases(i / 64==n)<;>simp
theorem dw{N:H L}{i o:L}:AV.avoids N (.v (.sc (.pb i o)))= !DP i N:=by
 rw[MK]
 induction N with
 | nil=>rfl
 | cons n N ih=>
  simp only[AV.avoids,AV.cells,V1.cells,AC.avoids,AC.uses,U,List.all_nil,V,O] at ih ⊢
  rw[ih];cases(i==n)<;>simp
theorem dx{N:H L}{i x o:L}:AV.avoids N (.v (.sc (.pe i x o)))= !DP (i / 64) N:=by
 rw[MK]
 induction N with
 | nil=>rfl
 | cons n N ih=>
  simp only[AV.avoids,AV.cells,V1.cells,AC.avoids,AC.uses,U,List.all_nil,V,O] at ih ⊢
  rw[ih];cases(i / 64==n)<;>simp
theorem dq{N:H L}:AV.avoids N (.v (.ag []))=T:=rfl
theorem dp{N:H L}{c:AC}{cs:H AC}:AV.avoids N (.v (.ag (c::cs)))=((AV.v (.sc c)).avoids N&&(AV.v (.ag cs)).avoids N):=by simp[AV.avoids,AV.cells,V1.cells]
theorem tM:(!F)=T:=rfl
theorem tN:(!T)=F:=rfl
theorem dR:(T&&T)=T:=rfl
theorem jU{d x}:AOp.dst (.mv d x)=E d:=rfl
theorem jW{d c a b}:AOp.dst (.pick d c a b)=E d:=rfl
theorem jE{d zs ps}:AOp.dst (.build d zs ps)=E d:=rfl
theorem jP{d x g n}:AOp.dst (.load d x g n)=E d:=rfl
theorem jV{d x}:AOp.dst (.nilc d x)=E d:=rfl
theorem jB{d op x y}:AOp.dst (.bin d op x y)=E d:=rfl
theorem jL{d g ks x y}:AOp.dst (.geq d g ks x y)=E d:=rfl
theorem jA{d g x y}:AOp.dst (.beq d g x y)=E d:=rfl
theorem jc{d op x}:AOp.dst (.un d op x)=E d:=rfl
theorem jH{d kd x}:AOp.dst (.conv d kd x)=E d:=rfl
theorem jY{d sz x lo hi mx}:AOp.dst (.slc d sz x lo hi mx)=E d:=rfl
theorem ja{d x lo hi}:AOp.dst (.sslc d x lo hi)=E d:=rfl
theorem jJ{d x off}:AOp.dst (.faddr d x off)=E d:=rfl
theorem jK{d x off g n}:AOp.dst (.field d x off g n)=E d:=rfl
theorem jM{d x i sz}:AOp.dst (.iaddr d x i sz)=E d:=rfl
theorem iy{d x i len sz}:AOp.dst (.aaddr d x i len sz)=E d:=rfl
theorem jN{d x i}:AOp.dst (.idx d x i)=E d:=rfl
theorem jI{d x i}:AOp.dst (.extr d x i)=E d:=rfl
theorem jR{d t x}:AOp.dst (.mkif d t x)=E d:=rfl
theorem jb{d x t zc}:AOp.dst (.tass d x t zc)=E d:=rfl
theorem jO{d x}:AOp.dst (.len d x)=E d:=rfl
theorem jZ{d x}:AOp.dst (.slen d x)=E d:=rfl
theorem jX{d x}:AOp.dst (.sconv d x)=E d:=rfl
theorem jT{d m x y}:AOp.dst (.mm d m x y)=E d:=rfl
theorem jQ{d f caps}:AOp.dst (.mkf d f caps)=E d:=rfl
theorem jC{d x}:AOp.dst (.box d x)=E d:=rfl
theorem iz{d cs}:AOp.dst (.alloc d cs)=E d:=rfl
theorem jD{d sz zs len ps}:AOp.dst (.bslice d sz zs len ps)=E d:=rfl
theorem jS{d sz b zs x y}:AOp.dst (.mksl d sz b zs x y)=E d:=rfl
theorem jF{d f args}:AOp.dst (.call d f args)=E d:=rfl
theorem jG{d x args}:AOp.dst (.callv d x args)=E d:=rfl
def lX(rs:H R1):Bool:=(rs.flatMap R1.cells).all fun | .v d=>d.flat | .o _ _=>F
theorem Cm{rs:H R1}(h:lX rs=T):CD rs:=by
 intro c hc;have:=List.all_eq_true.1 h c hc;cases c with
 | v d=>exact this
 | o=>cases this
end Go.Vi
