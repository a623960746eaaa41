/-
The value level. No condition.
-/
import Derived.Test.YthneeiblhklckaaGreatDoorPVi26
namespace Go.Vi
set_option linter.all false
open List renaming contains_cons → O, all_cons → U
open Bool renaming and_true → V, true → T, false → F
open Option renaming some → E, none → G
open _root_ renaming List → H, Nat → L
section
variable {P : Program}
end
theorem eP{α:Type}{n:L}:A1 ([]:H (L × α)) n=G:=rfl
theorem eO{α:Type}{k n:L}{v:α}{r:H (L × α)}:A1 ((k,v)::r) n=bif k==n then E v else A1 r n:=rfl
theorem nY{α:Type}{n:L}{v:α}:put ([]:H (L × α)) n v= [(n,v)]:=rfl
theorem nX{α:Type}{k n:L}{u v:α}{r:H (L × α)}:put ((k,u)::r) n v=bif k==n then(k,v)::r else(k,u)::put r n v:=rfl
theorem qX{σ:St}{n:L}:σ.val (.t n)=σ.get n:=rfl
theorem qW{σ:St}{v:AV}:σ.val (.c v)=v:=rfl
theorem fP{env bx rows}{k:L}:(St.mk env bx rows).get k=(A1 env k).getD .undef:=rfl
theorem oq{env bx rows}{k:L}{v:AV}:(St.mk env bx rows).set k v=⟨put env k v,bx,rows⟩:=rfl
theorem getD_some{α:Type}{a b:α}:(E a).getD b=a:=rfl
theorem fO{α:Type}{b:α}:(G:Option α).getD b=b:=rfl
theorem map_some{α β:Type}{f:α→β}{a:α}:(E a).map f=E (f a):=rfl
theorem map_none{α β:Type}{f:α→β}:(G:Option α).map f=G:=rfl
theorem aT{α:Type}{a b:α}:cond T a b=a:=rfl
theorem aR{α:Type}{a b:α}:cond F a b=b:=rfl
theorem pA{s:H UInt8}:Jb (.v (.sc (.dat (.str s))))=E (.v (.sc (.dat (.int .i64 s.length)))):=rfl
theorem lF{rs:Rows}{es:H (H D)}:DF rs (.v (.sc (.dat (.sl es))))=E (.v (.sc (.dat (.int .i64 es.length)))):=rfl
theorem oW{rs:Rows}{es:H (H D)}:G4 rs (.v (.sc (.dat (.sl es))))=(CV es).map fun b=> .v (.sc (.dat (.str b))):=rfl
theorem oV{rs:Rows}{id:L}:G4 rs (.v (.sc (.own id)))=match A1 rs id with | some (_,es)=>(CV es).map fun b=> .v (.sc (.dat (.str b))) | none=>G:=rfl
theorem lC{rs:Rows}:DF rs (.v (.sc .nil))=E (.v (.sc (.dat (.int .i64 0)))):=rfl
theorem aW{k k':IntKind}{n:Int}:ON k (.v (.sc (.dat (.int k' n))))=E (.v (.sc (.dat (.int k (k.wrap n))))):=rfl
theorem Zt{op:BinOp}{k:IntKind}{x y:Int}:BI op (.v (.sc (.dat (.int k x)))) (.v (.sc (.dat (.int k y))))=(AA op k x y).map fun d=> .v (.sc (.dat d)):=by simp[BI]
theorem ZB{op:BinOp}{x y:H UInt8}:BI op (.v (.sc (.dat (.str x)))) (.v (.sc (.dat (.str y))))=(G6 op x y).map fun d=> .v (.sc (.dat d)):=rfl
theorem jM{k:IntKind}{x y:Int}:AA .add k x y=E (.int k (k.wrap (x+y))):=rfl
theorem jg{k:IntKind}{x y:Int}:AA .sub k x y=E (.int k (k.wrap (x - y))):=rfl
theorem jU{k:IntKind}{x y:Int}:AA .mul k x y=E (.int k (k.wrap (x*y))):=rfl
theorem jX{k:IntKind}{x y:Int}:AA .quo k x y=bif y==0 then G else E (.int k (k.wrap (x.tdiv y))):=by
 by_cases h:y=0
 ·simp[AA,h]
 ·have h':(y==0)=F:=by simpa using h
  simp[AA,h,h']
theorem jY{k:IntKind}{x y:Int}:AA .rem k x y=bif y==0 then G else E (.int k (k.wrap (x.tmod y))):=by
 by_cases h:y=0
 ·simp[AA,h]
 ·have h':(y==0)=F:=by simpa using h
  simp[AA,h,h']
theorem jP{k:IntKind}{x y:Int}:AA .eql k x y=E (.bool (x==y)):=rfl
theorem jV{k:IntKind}{x y:Int}:AA .neq k x y=E (.bool (x !=y)):=rfl
theorem jT{k:IntKind}{x y:Int}:AA .lss k x y=E (.bool (decide (x<y))):=rfl
theorem jS{k:IntKind}{x y:Int}:AA .leq k x y=E (.bool (decide (x≤y))):=rfl
theorem jR{k:IntKind}{x y:Int}:AA .gtr k x y=E (.bool (decide (y<x))):=rfl
theorem jQ{k:IntKind}{x y:Int}:AA .geq k x y=E (.bool (decide (y≤x))):=rfl
theorem pf{x y:H UInt8}:G6 .eql x y=E (.bool (x==y)):=rfl
theorem pg{x y:H UInt8}:G6 .neq x y=E (.bool (!(x==y))):=rfl
theorem qQ{b:Bool}:HP .not (.v (.sc (.dat (.bool b))))=E (.v (.sc (.dat (.bool (!b))))):=rfl
theorem iY{s:H UInt8}{k:IntKind}{i:Int}:IN (.v (.sc (.dat (.str s)))) (.v (.sc (.dat (.int k i))))=(ix s i).map fun b=> .v (.sc (.dat (.int .u8 b.toNat))):=rfl
theorem jk{α:Type}{l:H α}{i:L}(h:i<l.length):ix l (i:Int)=E l[i]:=by simp[ix,h]
theorem eL{off:L}{g:Bool}{n:L}{cs:H AC}:FP off g n (.v (.ag cs))=Cr cs off g n:=rfl
theorem ZW{cs:H AC}{off n:L}:Cr cs off F n=(cs[off]?).map fun c=> .v (.sc c):=rfl
theorem jI{env bx rows}{d:L}{rs:H R1}:(St.mk env bx rows).inst d rs=⟨put env d (Bq d rs),bx,B1 rows (Bz d rs)⟩:=rfl
theorem jA{g:L}{r:R1}:Bq g [r]= .v (r.inst g 0):=rfl
theorem jB{g:L}{r r':R1}{rs:H R1}:Bq g (r::r'::rs)= .tup (D5 g 0 (r::r'::rs)):=rfl
theorem jF{g j:L}:D5 g j []= []:=rfl
theorem jE{g j:L}{r:R1}{rs:H R1}:D5 g j (r::rs)=r.inst g j::D5 g (j+r.width) rs:=rfl
theorem sR{c:RC}:R1.width (.sc c)=1:=rfl
theorem sQ{cs:H RC}:R1.width (.ag cs)=cs.length:=rfl
theorem jL{g j:L}{d:D}:RC.inst g j (.v d)= .dat d:=rfl
theorem jJ{g j sz:L}{es:H (H D)}:RC.inst g j (.o sz es)= .own (g*64+j):=rfl
theorem jK{g j:L}{c:RC}:R1.inst g j (.sc c)= .sc (c.inst g j):=rfl
theorem jH{g j:L}{cs:H RC}:R1.inst g j (.ag cs)= .ag (DE g j cs):=rfl
theorem jD{g j:L}:DE g j []= []:=rfl
theorem jC{g j:L}{c:RC}{cs:H RC}:DE g j (c::cs)=c.inst g j::DE g (j+1) cs:=rfl
theorem oG{g:L}:Bz g []= []:=rfl
theorem oH{g:L}{r:R1}:Bz g [r]=BA g 0 r.cells:=by simp[Bz]
theorem oJ{g:L}{r r':R1}:Bz g [r,r']=BA g 0 (r.cells++r'.cells):=by simp[Bz]
theorem ZY{c:RC}:R1.cells (.sc c)= [c]:=rfl
theorem ZU{cs:H RC}:R1.cells (.ag cs)=cs:=rfl
theorem oK{g j:L}:BA g j []= []:=rfl
theorem oM{g j:L}{d:D}{cs:H RC}:BA g j (.v d::cs)=BA g (j+1) cs:=rfl
theorem oL{g j sz:L}{es:H (H D)}{cs:H RC}:BA g j (.o sz es::cs)=(g*64+j,sz,es)::BA g (j+1) cs:=rfl
theorem nU{rows:Rows}:B1 rows []=rows:=rfl
theorem nT{rows r:Rows}{k:L}{x:L × H (H D)}:B1 rows ((k,x)::r)=put (B1 rows r) k x:=rfl
theorem YP{α:Type}{l:H α}: []++l=l:=rfl
theorem YO{α:Type}{a:α}{l m:H α}:(a::l)++m=a::(l++m):=rfl
theorem ZJ{x:Int}:(x !=x)=F:=by simp
theorem Zm{x:Int}:(x==x)=T:=by simp
section
variable {P : Program} {k : H Fr} {Q : Xm → St → Prop} {σ : St} {its : H AN} {n : L} {N : H L}
theorem bM{d x}:go P (.dops ((E [],G,.mv d x)::its)::k) Q .normal (E σ)=go P (.ops [(G,.mv d x)]:: .dops its::k) Q .normal (E σ):=B5 rfl rfl
theorem bO{d c a b}:go P (.dops ((E [],G,.pick d c a b)::its)::k) Q .normal (E σ)=go P (.ops [(G,.pick d c a b)]:: .dops its::k) Q .normal (E σ):=B5 rfl rfl
theorem aw{d zs ps}:go P (.dops ((E [],G,.build d zs ps)::its)::k) Q .normal (E σ)=go P (.ops [(G,.build d zs ps)]:: .dops its::k) Q .normal (E σ):=B5 rfl rfl
theorem bH{d x g n}:go P (.dops ((E [],G,.load d x g n)::its)::k) Q .normal (E σ)=go P (.ops [(G,.load d x g n)]:: .dops its::k) Q .normal (E σ):=B5 rfl rfl
theorem bN{d x}:go P (.dops ((E [],G,.nilc d x)::its)::k) Q .normal (E σ)=go P (.ops [(G,.nilc d x)]:: .dops its::k) Q .normal (E σ):=B5 rfl rfl
theorem ar{d op x y}:go P (.dops ((E [],G,.bin d op x y)::its)::k) Q .normal (E σ)=go P (.ops [(G,.bin d op x y)]:: .dops its::k) Q .normal (E σ):=B5 rfl rfl
theorem bD{d g ks x y}:go P (.dops ((E [],G,.geq d g ks x y)::its)::k) Q .normal (E σ)=go P (.ops [(G,.geq d g ks x y)]:: .dops its::k) Q .normal (E σ):=B5 rfl rfl
theorem aq{d g x y}:go P (.dops ((E [],G,.beq d g x y)::its)::k) Q .normal (E σ)=go P (.ops [(G,.beq d g x y)]:: .dops its::k) Q .normal (E σ):=B5 rfl rfl
theorem bU{d op x}:go P (.dops ((E [],G,.un d op x)::its)::k) Q .normal (E σ)=go P (.ops [(G,.un d op x)]:: .dops its::k) Q .normal (E σ):=B5 rfl rfl
theorem az{d kd x}:go P (.dops ((E [],G,.conv d kd x)::its)::k) Q .normal (E σ)=go P (.ops [(G,.conv d kd x)]:: .dops its::k) Q .normal (E σ):=B5 rfl rfl
theorem bQ{d sz x lo hi mx}:go P (.dops ((E [],G,.slc d sz x lo hi mx)::its)::k) Q .normal (E σ)=go P (.ops [(G,.slc d sz x lo hi mx)]:: .dops its::k) Q .normal (E σ):=B5 rfl rfl
theorem bS{d x lo hi}:go P (.dops ((E [],G,.sslc d x lo hi)::its)::k) Q .normal (E σ)=go P (.ops [(G,.sslc d x lo hi)]:: .dops its::k) Q .normal (E σ):=B5 rfl rfl
theorem bB{d x off}:go P (.dops ((E [],G,.faddr d x off)::its)::k) Q .normal (E σ)=go P (.ops [(G,.faddr d x off)]:: .dops its::k) Q .normal (E σ):=B5 rfl rfl
theorem bC{d x off g n}:go P (.dops ((E [],G,.field d x off g n)::its)::k) Q .normal (E σ)=go P (.ops [(G,.field d x off g n)]:: .dops its::k) Q .normal (E σ):=B5 rfl rfl
theorem bE{d x i sz}:go P (.dops ((E [],G,.iaddr d x i sz)::its)::k) Q .normal (E σ)=go P (.ops [(G,.iaddr d x i sz)]:: .dops its::k) Q .normal (E σ):=B5 rfl rfl
theorem al{d x i len sz}:go P (.dops ((E [],G,.aaddr d x i len sz)::its)::k) Q .normal (E σ)=go P (.ops [(G,.aaddr d x i len sz)]:: .dops its::k) Q .normal (E σ):=B5 rfl rfl
theorem bF{d x i}:go P (.dops ((E [],G,.idx d x i)::its)::k) Q .normal (E σ)=go P (.ops [(G,.idx d x i)]:: .dops its::k) Q .normal (E σ):=B5 rfl rfl
theorem bA{d x i}:go P (.dops ((E [],G,.extr d x i)::its)::k) Q .normal (E σ)=go P (.ops [(G,.extr d x i)]:: .dops its::k) Q .normal (E σ):=B5 rfl rfl
theorem bJ{d t x}:go P (.dops ((E [],G,.mkif d t x)::its)::k) Q .normal (E σ)=go P (.ops [(G,.mkif d t x)]:: .dops its::k) Q .normal (E σ):=B5 rfl rfl
theorem bT{d x t zc}:go P (.dops ((E [],G,.tass d x t zc)::its)::k) Q .normal (E σ)=go P (.ops [(G,.tass d x t zc)]:: .dops its::k) Q .normal (E σ):=B5 rfl rfl
theorem bG{d x}:go P (.dops ((E [],G,.len d x)::its)::k) Q .normal (E σ)=go P (.ops [(G,.len d x)]:: .dops its::k) Q .normal (E σ):=B5 rfl rfl
theorem bR{d x}:go P (.dops ((E [],G,.slen d x)::its)::k) Q .normal (E σ)=go P (.ops [(G,.slen d x)]:: .dops its::k) Q .normal (E σ):=B5 rfl rfl
theorem bP{d x}:go P (.dops ((E [],G,.sconv d x)::its)::k) Q .normal (E σ)=go P (.ops [(G,.sconv d x)]:: .dops its::k) Q .normal (E σ):=B5 rfl rfl
theorem bL{d m x y}:go P (.dops ((E [],G,.mm d m x y)::its)::k) Q .normal (E σ)=go P (.ops [(G,.mm d m x y)]:: .dops its::k) Q .normal (E σ):=B5 rfl rfl
theorem bI{d f caps}:go P (.dops ((E [],G,.mkf d f caps)::its)::k) Q .normal (E σ)=go P (.ops [(G,.mkf d f caps)]:: .dops its::k) Q .normal (E σ):=B5 rfl rfl
theorem as_{d x}:go P (.dops ((E [],G,.box d x)::its)::k) Q .normal (E σ)=go P (.ops [(G,.box d x)]:: .dops its::k) Q .normal (E σ):=B5 rfl rfl
theorem am{d cs}:go P (.dops ((E [],G,.alloc d cs)::its)::k) Q .normal (E σ)=go P (.ops [(G,.alloc d cs)]:: .dops its::k) Q .normal (E σ):=B5 rfl rfl
theorem au{d sz zs len ps}:go P (.dops ((E [],G,.bslice d sz zs len ps)::its)::k) Q .normal (E σ)=go P (.ops [(G,.bslice d sz zs len ps)]:: .dops its::k) Q .normal (E σ):=B5 rfl rfl
theorem bK{d sz b zs x y}:go P (.dops ((E [],G,.mksl d sz b zs x y)::its)::k) Q .normal (E σ)=go P (.ops [(G,.mksl d sz b zs x y)]:: .dops its::k) Q .normal (E σ):=B5 rfl rfl
theorem br{d x}:go P (.dops ((E (n::N),G,.mv d x)::its)::k) Q .normal (E σ)=go P (.dops its::k) Q .normal (Be σ (n::N) (E d) ((σ.less (n::N)).step (.mv d x))):=Bi rfl
theorem bu{d c a b}:go P (.dops ((E (n::N),G,.pick d c a b)::its)::k) Q .normal (E σ)=go P (.dops its::k) Q .normal (Be σ (n::N) (E d) ((σ.less (n::N)).step (.pick d c a b))):=Bi rfl
theorem bY{d zs ps}:go P (.dops ((E (n::N),G,.build d zs ps)::its)::k) Q .normal (E σ)=go P (.dops its::k) Q .normal (Be σ (n::N) (E d) ((σ.less (n::N)).step (.build d zs ps))):=Bi rfl
theorem bj{d x g m}:go P (.dops ((E (n::N),G,.load d x g m)::its)::k) Q .normal (E σ)=go P (.dops its::k) Q .normal (Be σ (n::N) (E d) ((σ.less (n::N)).step (.load d x g m))):=Bi rfl
theorem bt{d x}:go P (.dops ((E (n::N),G,.nilc d x)::its)::k) Q .normal (E σ)=go P (.dops its::k) Q .normal (Be σ (n::N) (E d) ((σ.less (n::N)).step (.nilc d x))):=Bi rfl
theorem bX{d op x y}:go P (.dops ((E (n::N),G,.bin d op x y)::its)::k) Q .normal (E σ)=go P (.dops its::k) Q .normal (Be σ (n::N) (E d) ((σ.less (n::N)).step (.bin d op x y))):=Bi rfl
theorem be{d g ks x y}:go P (.dops ((E (n::N),G,.geq d g ks x y)::its)::k) Q .normal (E σ)=go P (.dops its::k) Q .normal (Be σ (n::N) (E d) ((σ.less (n::N)).step (.geq d g ks x y))):=Bi rfl
theorem bW{d g x y}:go P (.dops ((E (n::N),G,.beq d g x y)::its)::k) Q .normal (E σ)=go P (.dops its::k) Q .normal (Be σ (n::N) (E d) ((σ.less (n::N)).step (.beq d g x y))):=Bi rfl
theorem cD{d op x}:go P (.dops ((E (n::N),G,.un d op x)::its)::k) Q .normal (E σ)=go P (.dops its::k) Q .normal (Be σ (n::N) (E d) ((σ.less (n::N)).step (.un d op x))):=Bi rfl
theorem bZ{d kd x}:go P (.dops ((E (n::N),G,.conv d kd x)::its)::k) Q .normal (E σ)=go P (.dops its::k) Q .normal (Be σ (n::N) (E d) ((σ.less (n::N)).step (.conv d kd x))):=Bi rfl
theorem bw{d sz x lo hi mx}:go P (.dops ((E (n::N),G,.slc d sz x lo hi mx)::its)::k) Q .normal (E σ)=go P (.dops its::k) Q .normal (Be σ (n::N) (E d) ((σ.less (n::N)).step (.slc d sz x lo hi mx))):=Bi rfl
theorem cB{d x lo hi}:go P (.dops ((E (n::N),G,.sslc d x lo hi)::its)::k) Q .normal (E σ)=go P (.dops its::k) Q .normal (Be σ (n::N) (E d) ((σ.less (n::N)).step (.sslc d x lo hi))):=Bi rfl
theorem bc{d x off}:go P (.dops ((E (n::N),G,.faddr d x off)::its)::k) Q .normal (E σ)=go P (.dops its::k) Q .normal (Be σ (n::N) (E d) ((σ.less (n::N)).step (.faddr d x off))):=Bi rfl
theorem bd{d x off g m}:go P (.dops ((E (n::N),G,.field d x off g m)::its)::k) Q .normal (E σ)=go P (.dops its::k) Q .normal (Be σ (n::N) (E d) ((σ.less (n::N)).step (.field d x off g m))):=Bi rfl
theorem bf{d x i sz}:go P (.dops ((E (n::N),G,.iaddr d x i sz)::its)::k) Q .normal (E σ)=go P (.dops its::k) Q .normal (Be σ (n::N) (E d) ((σ.less (n::N)).step (.iaddr d x i sz))):=Bi rfl
theorem bV{d x i len sz}:go P (.dops ((E (n::N),G,.aaddr d x i len sz)::its)::k) Q .normal (E σ)=go P (.dops its::k) Q .normal (Be σ (n::N) (E d) ((σ.less (n::N)).step (.aaddr d x i len sz))):=Bi rfl
theorem bg{d x i}:go P (.dops ((E (n::N),G,.idx d x i)::its)::k) Q .normal (E σ)=go P (.dops its::k) Q .normal (Be σ (n::N) (E d) ((σ.less (n::N)).step (.idx d x i))):=Bi rfl
theorem ba{d x i}:go P (.dops ((E (n::N),G,.extr d x i)::its)::k) Q .normal (E σ)=go P (.dops its::k) Q .normal (Be σ (n::N) (E d) ((σ.less (n::N)).step (.extr d x i))):=Bi rfl
theorem bp{d t x}:go P (.dops ((E (n::N),G,.mkif d t x)::its)::k) Q .normal (E σ)=go P (.dops its::k) Q .normal (Be σ (n::N) (E d) ((σ.less (n::N)).step (.mkif d t x))):=Bi rfl
theorem cC{d x t zc}:go P (.dops ((E (n::N),G,.tass d x t zc)::its)::k) Q .normal (E σ)=go P (.dops its::k) Q .normal (Be σ (n::N) (E d) ((σ.less (n::N)).step (.tass d x t zc))):=Bi rfl
theorem bh{d x}:go P (.dops ((E (n::N),G,.len d x)::its)::k) Q .normal (E σ)=go P (.dops its::k) Q .normal (Be σ (n::N) (E d) ((σ.less (n::N)).step (.len d x))):=Bi rfl
theorem cA{d x}:go P (.dops ((E (n::N),G,.slen d x)::its)::k) Q .normal (E σ)=go P (.dops its::k) Q .normal (Be σ (n::N) (E d) ((σ.less (n::N)).step (.slen d x))):=Bi rfl
theorem bv{d x}:go P (.dops ((E (n::N),G,.sconv d x)::its)::k) Q .normal (E σ)=go P (.dops its::k) Q .normal (Be σ (n::N) (E d) ((σ.less (n::N)).step (.sconv d x))):=Bi rfl
theorem bq{d m x y}:go P (.dops ((E (n::N),G,.mm d m x y)::its)::k) Q .normal (E σ)=go P (.dops its::k) Q .normal (Be σ (n::N) (E d) ((σ.less (n::N)).step (.mm d m x y))):=Bi rfl
theorem bl{d f caps}:go P (.dops ((E (n::N),G,.mkf d f caps)::its)::k) Q .normal (E σ)=go P (.dops its::k) Q .normal (Be σ (n::N) (E d) ((σ.less (n::N)).step (.mkf d f caps))):=Bi rfl
theorem cF{t:L}{o:AOp}{N:H L}:go P (.dops ((E N,E (t,T),o)::its)::k) Q .normal (E σ)=go P (.gdd (σ.get t) T (E N) o its::k) Q .normal (E σ):=by
 show AF (E (t,T)) σ _ _=_
 rw[R6];show _=By _ _ _ _
 simp only[cond_true];congr 1<;>(cases o.dst<;>rfl)
theorem cE{t:L}{o:AOp}{N:H L}:go P (.dops ((E N,E (t,F),o)::its)::k) Q .normal (E σ)=go P (.gdd (σ.get t) F (E N) o its::k) Q .normal (E σ):=by
 show AF (E (t,F)) σ _ _=_
 rw[R5];show _=By _ _ _ _
 simp only[cond_false];congr 1<;>(cases o.dst<;>rfl)
theorem cJ{b:Bool}{o:AOp}{N:Option (H L)}:go P (.gdd (.v (.sc (.dat (.bool b)))) b N o its::k) Q .normal (E σ)=go P (.dops ((N,G,o)::its)::k) Q .normal (E σ):=by
 cases b<;>simp[go,Az,By]
theorem cI{o:AOp}{N:Option (H L)}:go P (.gdd (.v (.sc (.dat (.bool F)))) T N o its::k) Q .normal (E σ)=go P (.dops its::k) Q .normal (Cm σ o.dst):=by
 simp only[go,Az,By,cond_true];cases o.dst<;>simp[BN,Cm]
theorem cH{o:AOp}{N:Option (H L)}:go P (.gdd (.v (.sc (.dat (.bool T)))) F N o its::k) Q .normal (E σ)=go P (.dops its::k) Q .normal (Cm σ o.dst):=by
 simp only[go,Az,By,cond_false];cases o.dst<;>simp[BN,Cm]
theorem cG{w:Bool}{o:AOp}{N:Option (H L)}:go P (.gdd .no w N o its::k) Q .normal (E σ)=go P (.dops its::k) Q .normal (Cm σ o.dst):=by
 simp only[go,Az,By];cases o.dst<;>simp[BN,Cm]
theorem gI{w:Bool}{o:AOp}{its:H AItem}:go P (.gd .no w o its::k) Q .normal (E σ)=go P (.ops its::k) Q .normal (Cm σ o.dst):=by
 simp only[go,Az,By];cases o.dst<;>simp[BN,Cm]
end
def Dm(k:L):H L→Bool
 | []=>F
 | n::r=>bif k==n then T else Dm k r
def D6{α:Type}(f:L→L)(N:H L):H (L × α)→H (L × α)
 | []=> []
 | (k,v)::r=>bif Dm (f k) N then D6 f N r else(k,v)::D6 f N r
theorem Lz(k:L):∀N:H L,Dm k N=N.contains k
 | []=>rfl
 | n::r=>by
  simp only[Dm,O,Lz k r];cases k==n<;>rfl
theorem PA{α:Type}(f:L→L)(N:H L):∀l:H (L × α),D6 f N l=l.filter fun p=> !N.contains (f p.1)
 | []=>rfl
 | (k,v)::r=>by
  simp only[D6,Lz,List.filter_cons,PA f N r];cases N.contains (f k)<;>rfl
theorem lK{env bx rows}{n:L}{N:H L}:(St.mk env bx rows).less (n::N)=⟨env,D6 id (n::N) bx,D6 (· / 64) (n::N) rows⟩:=by
 rw[PA,PA];rfl
theorem lj{k:L}:Dm k []=F:=rfl
theorem lh{k n:L}{r:H L}:Dm k (n::r)=bif k==n then T else Dm k r:=rfl
theorem jp{α:Type}{f:L→L}{N:H L}:D6 f N ([]:H (L × α))= []:=rfl
theorem jo{α:Type}{N:H L}{k:L}{v:α}{r:H (L × α)}:D6 id N ((k,v)::r)=bif Dm k N then D6 id N r else(k,v)::D6 id N r:=rfl
theorem jm{α:Type}{N:H L}{k:L}{v:α}{r:H (L × α)}:D6 (· / 64) N ((k,v)::r)=bif Dm (k / 64) N then D6 (· / 64) N r else(k,v)::D6 (· / 64) N r:=rfl
theorem py{σ τ:St}{N:H L}{d:L}:Be σ N (E d) (E τ)=bif (τ.get d).avoids N then E (σ.set d (τ.get d)) else G:=rfl
theorem qS{σ:St}{d:L}:Cm σ (E d)=E (σ.set d .no):=rfl
theorem YZ{N:H L}{d:D}:AV.avoids N (.v (.sc (.dat d)))=T:=by simp[AV.avoids,AV.cells,V1.cells,AC.avoids,AC.uses]
theorem Z0{N:H L}:AV.avoids N (.v (.sc .nil))=T:=by simp[AV.avoids,AV.cells,V1.cells,AC.avoids,AC.uses]
theorem Z2{N:H L}{i:L}:AV.avoids N (.v (.sc (.own i)))= !Dm (i / 64) N:=by
 rw[Lz]
 induction N with
 | nil=>rfl
 | cons n N ih=>
  simp only[AV.avoids,AV.cells,V1.cells,AC.avoids,AC.uses,U,List.all_nil,V,O] at ih ⊢
  rw[ih];cases(i / 64==n)<;>simp
theorem Z3{N:H L}{i o:L}:AV.avoids N (.v (.sc (.pb i o)))= !Dm i N:=by
 rw[Lz]
 induction N with
 | nil=>rfl
 | cons n N ih=>
  simp only[AV.avoids,AV.cells,V1.cells,AC.avoids,AC.uses,U,List.all_nil,V,O] at ih ⊢
  rw[ih];cases(i==n)<;>simp
theorem Z4{N:H L}{i x o:L}:AV.avoids N (.v (.sc (.pe i x o)))= !Dm (i / 64) N:=by
 rw[Lz]
 induction N with
 | nil=>rfl
 | cons n N ih=>
  simp only[AV.avoids,AV.cells,V1.cells,AC.avoids,AC.uses,U,List.all_nil,V,O] at ih ⊢
  rw[ih];cases(i / 64==n)<;>simp
theorem YY{N:H L}:AV.avoids N (.v (.ag []))=T:=rfl
theorem YX{N:H L}{c:AC}{cs:H AC}:AV.avoids N (.v (.ag (c::cs)))=((AV.v (.sc c)).avoids N&&(AV.v (.ag cs)).avoids N):=by simp[AV.avoids,AV.cells,V1.cells]
theorem mR:(!F)=T:=rfl
theorem mS:(!T)=F:=rfl
theorem YG:(T&&T)=T:=rfl
theorem cw{d x}:AOp.dst (.mv d x)=E d:=rfl
theorem cz{d c a b}:AOp.dst (.pick d c a b)=E d:=rfl
theorem cZ{d zs ps}:AOp.dst (.build d zs ps)=E d:=rfl
theorem cp{d x g n}:AOp.dst (.load d x g n)=E d:=rfl
theorem cy{d x}:AOp.dst (.nilc d x)=E d:=rfl
theorem cW{d op x y}:AOp.dst (.bin d op x y)=E d:=rfl
theorem cl{d g ks x y}:AOp.dst (.geq d g ks x y)=E d:=rfl
theorem cV{d g x y}:AOp.dst (.beq d g x y)=E d:=rfl
theorem dF{d op x}:AOp.dst (.un d op x)=E d:=rfl
theorem cf{d kd x}:AOp.dst (.conv d kd x)=E d:=rfl
theorem dB{d sz x lo hi mx}:AOp.dst (.slc d sz x lo hi mx)=E d:=rfl
theorem dD{d x lo hi}:AOp.dst (.sslc d x lo hi)=E d:=rfl
theorem cj{d x off}:AOp.dst (.faddr d x off)=E d:=rfl
theorem ck{d x off g n}:AOp.dst (.field d x off g n)=E d:=rfl
theorem cm{d x i sz}:AOp.dst (.iaddr d x i sz)=E d:=rfl
theorem cT{d x i len sz}:AOp.dst (.aaddr d x i len sz)=E d:=rfl
theorem cn{d x i}:AOp.dst (.idx d x i)=E d:=rfl
theorem cg{d x i}:AOp.dst (.extr d x i)=E d:=rfl
theorem cr{d t x}:AOp.dst (.mkif d t x)=E d:=rfl
theorem dE{d x t zc}:AOp.dst (.tass d x t zc)=E d:=rfl
theorem co{d x}:AOp.dst (.len d x)=E d:=rfl
theorem dC{d x}:AOp.dst (.slen d x)=E d:=rfl
theorem dA{d x}:AOp.dst (.sconv d x)=E d:=rfl
theorem cv{d m x y}:AOp.dst (.mm d m x y)=E d:=rfl
theorem cq{d f caps}:AOp.dst (.mkf d f caps)=E d:=rfl
theorem cX{d x}:AOp.dst (.box d x)=E d:=rfl
theorem cU{d cs}:AOp.dst (.alloc d cs)=E d:=rfl
theorem cY{d sz zs len ps}:AOp.dst (.bslice d sz zs len ps)=E d:=rfl
theorem cu{d sz b zs x y}:AOp.dst (.mksl d sz b zs x y)=E d:=rfl
theorem cd{d f args}:AOp.dst (.call d f args)=E d:=rfl
theorem ce{d x args}:AOp.dst (.callv d x args)=E d:=rfl
def eU(rs:H R1):Bool:=(rs.flatMap R1.cells).all fun | .v d=>d.flat | .o _ _=>F
theorem Cv{rs:H R1}(h:eU rs=T):Cd rs:=by
 intro c hc;have:=List.all_eq_true.1 h c hc;cases c with
 | v d=>exact this
 | o=>cases this
end Go.Vi
