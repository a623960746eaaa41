/-
The value level. No condition.
-/
import Derived.Test.YtfoohbeloilepaaGreatRVi26
namespace Go.Vi
set_option linter.all false
open List renaming contains_cons → O, all_cons → U
open Bool renaming and_true → V, true → T, false → F
open Option renaming some → E, none → G
open _root_ renaming List → H, Nat → L
section
variable {P : Program}
end
theorem mD{α:Type}{n:L}:A2 ([]:H (L × α)) n=G:=rfl
theorem mC{α:Type}{k n:L}{v:α}{r:H (L × α)}:A2 ((k,v)::r) n=bif k==n then E v else A2 r n:=rfl
theorem tp{α:Type}{n:L}{v:α}:put ([]:H (L × α)) n v= [(n,v)]:=rfl
theorem tn{α:Type}{k n:L}{u v:α}{r:H (L × α)}:put ((k,u)::r) n v=bif k==n then(k,v)::r else(k,u)::put r n v:=rfl
theorem xH{σ:St}{n:L}:σ.val (.t n)=σ.get n:=rfl
theorem xG{σ:St}{v:AV}:σ.val (.c v)=v:=rfl
theorem me{env bx rows}{k:L}:(St.mk env bx rows).get k=(A2 env k).getD .undef:=rfl
theorem uz{env bx rows}{k:L}{v:AV}:(St.mk env bx rows).set k v=⟨put env k v,bx,rows⟩:=rfl
theorem getD_some{α:Type}{a b:α}:(E a).getD b=a:=rfl
theorem getD_none{α:Type}{b:α}:(G:Option α).getD b=b:=rfl
theorem map_some{α β:Type}{f:α→β}{a:α}:(E a).map f=E (f a):=rfl
theorem map_none{α β:Type}{f:α→β}:(G:Option α).map f=G:=rfl
theorem gr{α:Type}{a b:α}:cond T a b=a:=rfl
theorem gp{α:Type}{a b:α}:cond F a b=b:=rfl
theorem vH{s:H UInt8}:KO (.v (.sc (.dat (.str s))))=E (.v (.sc (.dat (.int .i64 s.length)))):=rfl
theorem ri{rs:Rows}{es:H (H D)}:DW rs (.v (.sc (.dat (.sl es))))=E (.v (.sc (.dat (.int .i64 es.length)))):=rfl
theorem uh{rs:Rows}{es:H (H D)}:GP rs (.v (.sc (.dat (.sl es))))=(D3 es).map fun b=> .v (.sc (.dat (.str b))):=rfl
theorem ug{rs:Rows}{id:L}:GP rs (.v (.sc (.own id)))=match A2 rs id with | some (_,es)=>(D3 es).map fun b=> .v (.sc (.dat (.str b))) | none=>G:=rfl
theorem rf{rs:Rows}:DW rs (.v (.sc .nil))=E (.v (.sc (.dat (.int .i64 0)))):=rfl
theorem gu{k k':IntKind}{n:Int}:RB k (.v (.sc (.dat (.int k' n))))=E (.v (.sc (.dat (.int k (k.wrap n))))):=rfl
theorem fw{op:BinOp}{k:IntKind}{x y:Int}:Cf op (.v (.sc (.dat (.int k x)))) (.v (.sc (.dat (.int k y))))=(AK op k x y).map fun d=> .v (.sc (.dat d)):=by simp[Cf]
theorem gD{op:BinOp}{x y:H UInt8}:Cf op (.v (.sc (.dat (.str x)))) (.v (.sc (.dat (.str y))))=(GT op x y).map fun d=> .v (.sc (.dat d)):=rfl
theorem qR{k:IntKind}{x y:Int}:AK .add k x y=E (.int k (k.wrap (x+y))):=rfl
theorem qk{k:IntKind}{x y:Int}:AK .sub k x y=E (.int k (k.wrap (x - y))):=rfl
theorem qZ{k:IntKind}{x y:Int}:AK .mul k x y=E (.int k (k.wrap (x*y))):=rfl
theorem qc{k:IntKind}{x y:Int}:AK .quo k x y=bif y==0 then G else E (.int k (k.wrap (x.tdiv y))):=by
 by_cases h:y=0
 ·simp[AK,h]
 ·have h':(y==0)=F:=by simpa using h
  simp[AK,h,h']
theorem qd{k:IntKind}{x y:Int}:AK .rem k x y=bif y==0 then G else E (.int k (k.wrap (x.tmod y))):=by
 by_cases h:y=0
 ·simp[AK,h]
 ·have h':(y==0)=F:=by simpa using h
  simp[AK,h,h']
theorem qU{k:IntKind}{x y:Int}:AK .eql k x y=E (.bool (x==y)):=rfl
theorem qa{k:IntKind}{x y:Int}:AK .neq k x y=E (.bool (x !=y)):=rfl
theorem qY{k:IntKind}{x y:Int}:AK .lss k x y=E (.bool (decide (x<y))):=rfl
theorem qX{k:IntKind}{x y:Int}:AK .leq k x y=E (.bool (decide (x≤y))):=rfl
theorem qW{k:IntKind}{x y:Int}:AK .gtr k x y=E (.bool (decide (y<x))):=rfl
theorem qV{k:IntKind}{x y:Int}:AK .geq k x y=E (.bool (decide (y≤x))):=rfl
theorem wB{x y:H UInt8}:GT .eql x y=E (.bool (x==y)):=rfl
theorem wC{x y:H UInt8}:GT .neq x y=E (.bool (!(x==y))):=rfl
theorem xA{b:Bool}:Ja .not (.v (.sc (.dat (.bool b))))=E (.v (.sc (.dat (.bool (!b))))):=rfl
theorem pV{s:H UInt8}{k:IntKind}{i:Int}:Kv (.v (.sc (.dat (.str s)))) (.v (.sc (.dat (.int k i))))=(ix s i).map fun b=> .v (.sc (.dat (.int .u8 b.toNat))):=rfl
theorem qn{α:Type}{l:H α}{i:L}(h:i<l.length):ix l (i:Int)=E l[i]:=by simp[ix,h]
theorem lz{off:L}{g:Bool}{n:L}{cs:H AC}:Gv off g n (.v (.ag cs))=CN cs off g n:=rfl
theorem gY{cs:H AC}{off n:L}:CN cs off F n=(cs[off]?).map fun c=> .v (.sc c):=rfl
theorem qN{env bx rows}{d:L}{rs:H R1}:(St.mk env bx rows).inst d rs=⟨put env d (BR d rs),bx,Bc rows (BO d rs)⟩:=rfl
theorem qF{g:L}{r:R1}:BR g [r]= .v (r.inst g 0):=rfl
theorem qG{g:L}{r r':R1}{rs:H R1}:BR g (r::r'::rs)= .tup (D9 g 0 (r::r'::rs)):=rfl
theorem qK{g j:L}:D9 g j []= []:=rfl
theorem qJ{g j:L}{r:R1}{rs:H R1}:D9 g j (r::rs)=r.inst g j::D9 g (j+r.width) rs:=rfl
theorem yx{c:RC}:R1.width (.sc c)=1:=rfl
theorem yw{cs:H RC}:R1.width (.ag cs)=cs.length:=rfl
theorem qQ{g j:L}{d:D}:RC.inst g j (.v d)= .dat d:=rfl
theorem qO{g j sz:L}{es:H (H D)}:RC.inst g j (.o sz es)= .own (g*64+j):=rfl
theorem qP{g j:L}{c:RC}:R1.inst g j (.sc c)= .sc (c.inst g j):=rfl
theorem qM{g j:L}{cs:H RC}:R1.inst g j (.ag cs)= .ag (DT g j cs):=rfl
theorem qI{g j:L}:DT g j []= []:=rfl
theorem qH{g j:L}{c:RC}{cs:H RC}:DT g j (c::cs)=c.inst g j::DT g (j+1) cs:=rfl
theorem uP{g:L}:BO g []= []:=rfl
theorem uQ{g:L}{r:R1}:BO g [r]=BF g 0 r.cells:=by simp[BO]
theorem uS{g:L}{r r':R1}:BO g [r,r']=BF g 0 (r.cells++r'.cells):=by simp[BO]
theorem ga{c:RC}:R1.cells (.sc c)= [c]:=rfl
theorem gW{cs:H RC}:R1.cells (.ag cs)=cs:=rfl
theorem uU{g j:L}:BF g j []= []:=rfl
theorem uW{g j:L}{d:D}{cs:H RC}:BF g j (.v d::cs)=BF g (j+1) cs:=rfl
theorem uV{g j sz:L}{es:H (H D)}{cs:H RC}:BF g j (.o sz es::cs)=(g*64+j,sz,es)::BF g (j+1) cs:=rfl
theorem tk{rows:Rows}:Bc rows []=rows:=rfl
theorem tj{rows r:Rows}{k:L}{x:L × H (H D)}:Bc rows ((k,x)::r)=put (Bc rows r) k x:=rfl
theorem fG{α:Type}{l:H α}: []++l=l:=rfl
theorem fF{α:Type}{a:α}{l m:H α}:(a::l)++m=a::(l++m):=rfl
theorem gL{x:Int}:(x !=x)=F:=by simp
theorem fk{x:Int}:(x==x)=T:=by simp
section
variable {P : Program} {k : H Fr} {Q : Xn → St → Prop} {σ : St} {its : H AT} {n : L} {N : H L}
theorem iR{d x}:go P (.dops ((E [],G,.mv d x)::its)::k) Q .normal (E σ)=go P (.ops [(G,.mv d x)]:: .dops its::k) Q .normal (E σ):=Bb rfl rfl
theorem iT{d c a b}:go P (.dops ((E [],G,.pick d c a b)::its)::k) Q .normal (E σ)=go P (.ops [(G,.pick d c a b)]:: .dops its::k) Q .normal (E σ):=Bb rfl rfl
theorem iC{d zs ps}:go P (.dops ((E [],G,.build d zs ps)::its)::k) Q .normal (E σ)=go P (.ops [(G,.build d zs ps)]:: .dops its::k) Q .normal (E σ):=Bb rfl rfl
theorem iL{d x g n}:go P (.dops ((E [],G,.load d x g n)::its)::k) Q .normal (E σ)=go P (.ops [(G,.load d x g n)]:: .dops its::k) Q .normal (E σ):=Bb rfl rfl
theorem iS{d x}:go P (.dops ((E [],G,.nilc d x)::its)::k) Q .normal (E σ)=go P (.ops [(G,.nilc d x)]:: .dops its::k) Q .normal (E σ):=Bb rfl rfl
theorem hZ{d op x y}:go P (.dops ((E [],G,.bin d op x y)::its)::k) Q .normal (E σ)=go P (.ops [(G,.bin d op x y)]:: .dops its::k) Q .normal (E σ):=Bb rfl rfl
theorem iH{d g ks x y}:go P (.dops ((E [],G,.geq d g ks x y)::its)::k) Q .normal (E σ)=go P (.ops [(G,.geq d g ks x y)]:: .dops its::k) Q .normal (E σ):=Bb rfl rfl
theorem hU{d g x y}:go P (.dops ((E [],G,.beq d g x y)::its)::k) Q .normal (E σ)=go P (.ops [(G,.beq d g x y)]:: .dops its::k) Q .normal (E σ):=Bb rfl rfl
theorem iZ{d op x}:go P (.dops ((E [],G,.un d op x)::its)::k) Q .normal (E σ)=go P (.ops [(G,.un d op x)]:: .dops its::k) Q .normal (E σ):=Bb rfl rfl
theorem iD{d kd x}:go P (.dops ((E [],G,.conv d kd x)::its)::k) Q .normal (E σ)=go P (.ops [(G,.conv d kd x)]:: .dops its::k) Q .normal (E σ):=Bb rfl rfl
theorem iV{d sz x lo hi mx}:go P (.dops ((E [],G,.slc d sz x lo hi mx)::its)::k) Q .normal (E σ)=go P (.ops [(G,.slc d sz x lo hi mx)]:: .dops its::k) Q .normal (E σ):=Bb rfl rfl
theorem iX{d x lo hi}:go P (.dops ((E [],G,.sslc d x lo hi)::its)::k) Q .normal (E σ)=go P (.ops [(G,.sslc d x lo hi)]:: .dops its::k) Q .normal (E σ):=Bb rfl rfl
theorem iF{d x off}:go P (.dops ((E [],G,.faddr d x off)::its)::k) Q .normal (E σ)=go P (.ops [(G,.faddr d x off)]:: .dops its::k) Q .normal (E σ):=Bb rfl rfl
theorem iG{d x off g n}:go P (.dops ((E [],G,.field d x off g n)::its)::k) Q .normal (E σ)=go P (.ops [(G,.field d x off g n)]:: .dops its::k) Q .normal (E σ):=Bb rfl rfl
theorem iI{d x i sz}:go P (.dops ((E [],G,.iaddr d x i sz)::its)::k) Q .normal (E σ)=go P (.ops [(G,.iaddr d x i sz)]:: .dops its::k) Q .normal (E σ):=Bb rfl rfl
theorem hO{d x i len sz}:go P (.dops ((E [],G,.aaddr d x i len sz)::its)::k) Q .normal (E σ)=go P (.ops [(G,.aaddr d x i len sz)]:: .dops its::k) Q .normal (E σ):=Bb rfl rfl
theorem iJ{d x i}:go P (.dops ((E [],G,.idx d x i)::its)::k) Q .normal (E σ)=go P (.ops [(G,.idx d x i)]:: .dops its::k) Q .normal (E σ):=Bb rfl rfl
theorem iE{d x i}:go P (.dops ((E [],G,.extr d x i)::its)::k) Q .normal (E σ)=go P (.ops [(G,.extr d x i)]:: .dops its::k) Q .normal (E σ):=Bb rfl rfl
theorem iO{d t x}:go P (.dops ((E [],G,.mkif d t x)::its)::k) Q .normal (E σ)=go P (.ops [(G,.mkif d t x)]:: .dops its::k) Q .normal (E σ):=Bb rfl rfl
theorem iY{d x t zc}:go P (.dops ((E [],G,.tass d x t zc)::its)::k) Q .normal (E σ)=go P (.ops [(G,.tass d x t zc)]:: .dops its::k) Q .normal (E σ):=Bb rfl rfl
theorem iK{d x}:go P (.dops ((E [],G,.len d x)::its)::k) Q .normal (E σ)=go P (.ops [(G,.len d x)]:: .dops its::k) Q .normal (E σ):=Bb rfl rfl
theorem iW{d x}:go P (.dops ((E [],G,.slen d x)::its)::k) Q .normal (E σ)=go P (.ops [(G,.slen d x)]:: .dops its::k) Q .normal (E σ):=Bb rfl rfl
theorem iU{d x}:go P (.dops ((E [],G,.sconv d x)::its)::k) Q .normal (E σ)=go P (.ops [(G,.sconv d x)]:: .dops its::k) Q .normal (E σ):=Bb rfl rfl
theorem iQ{d m x y}:go P (.dops ((E [],G,.mm d m x y)::its)::k) Q .normal (E σ)=go P (.ops [(G,.mm d m x y)]:: .dops its::k) Q .normal (E σ):=Bb rfl rfl
theorem iM{d f caps}:go P (.dops ((E [],G,.mkf d f caps)::its)::k) Q .normal (E σ)=go P (.ops [(G,.mkf d f caps)]:: .dops its::k) Q .normal (E σ):=Bb rfl rfl
theorem iA{d x}:go P (.dops ((E [],G,.box d x)::its)::k) Q .normal (E σ)=go P (.ops [(G,.box d x)]:: .dops its::k) Q .normal (E σ):=Bb rfl rfl
theorem hP{d cs}:go P (.dops ((E [],G,.alloc d cs)::its)::k) Q .normal (E σ)=go P (.ops [(G,.alloc d cs)]:: .dops its::k) Q .normal (E σ):=Bb rfl rfl
theorem iB{d sz zs len ps}:go P (.dops ((E [],G,.bslice d sz zs len ps)::its)::k) Q .normal (E σ)=go P (.ops [(G,.bslice d sz zs len ps)]:: .dops its::k) Q .normal (E σ):=Bb rfl rfl
theorem iP{d sz b zs x y}:go P (.dops ((E [],G,.mksl d sz b zs x y)::its)::k) Q .normal (E σ)=go P (.ops [(G,.mksl d sz b zs x y)]:: .dops its::k) Q .normal (E σ):=Bb rfl rfl
theorem jA{d x}:go P (.dops ((E (n::N),G,.mv d x)::its)::k) Q .normal (E σ)=go P (.dops its::k) Q .normal (Bm σ (n::N) (E d) ((σ.less (n::N)).step (.mv d x))):=Bs rfl
theorem jC{d c a b}:go P (.dops ((E (n::N),G,.pick d c a b)::its)::k) Q .normal (E σ)=go P (.dops its::k) Q .normal (Bm σ (n::N) (E d) ((σ.less (n::N)).step (.pick d c a b))):=Bs rfl
theorem ij{d zs ps}:go P (.dops ((E (n::N),G,.build d zs ps)::its)::k) Q .normal (E σ)=go P (.dops its::k) Q .normal (Bm σ (n::N) (E d) ((σ.less (n::N)).step (.build d zs ps))):=Bs rfl
theorem iv{d x g m}:go P (.dops ((E (n::N),G,.load d x g m)::its)::k) Q .normal (E σ)=go P (.dops its::k) Q .normal (Bm σ (n::N) (E d) ((σ.less (n::N)).step (.load d x g m))):=Bs rfl
theorem jB{d x}:go P (.dops ((E (n::N),G,.nilc d x)::its)::k) Q .normal (E σ)=go P (.dops its::k) Q .normal (Bm σ (n::N) (E d) ((σ.less (n::N)).step (.nilc d x))):=Bs rfl
theorem ii{d op x y}:go P (.dops ((E (n::N),G,.bin d op x y)::its)::k) Q .normal (E σ)=go P (.dops its::k) Q .normal (Bm σ (n::N) (E d) ((σ.less (n::N)).step (.bin d op x y))):=Bs rfl
theorem ip{d g ks x y}:go P (.dops ((E (n::N),G,.geq d g ks x y)::its)::k) Q .normal (E σ)=go P (.dops its::k) Q .normal (Bm σ (n::N) (E d) ((σ.less (n::N)).step (.geq d g ks x y))):=Bs rfl
theorem ig{d g x y}:go P (.dops ((E (n::N),G,.beq d g x y)::its)::k) Q .normal (E σ)=go P (.dops its::k) Q .normal (Bm σ (n::N) (E d) ((σ.less (n::N)).step (.beq d g x y))):=Bs rfl
theorem jI{d op x}:go P (.dops ((E (n::N),G,.un d op x)::its)::k) Q .normal (E σ)=go P (.dops its::k) Q .normal (Bm σ (n::N) (E d) ((σ.less (n::N)).step (.un d op x))):=Bs rfl
theorem ik{d kd x}:go P (.dops ((E (n::N),G,.conv d kd x)::its)::k) Q .normal (E σ)=go P (.dops its::k) Q .normal (Bm σ (n::N) (E d) ((σ.less (n::N)).step (.conv d kd x))):=Bs rfl
theorem jE{d sz x lo hi mx}:go P (.dops ((E (n::N),G,.slc d sz x lo hi mx)::its)::k) Q .normal (E σ)=go P (.dops its::k) Q .normal (Bm σ (n::N) (E d) ((σ.less (n::N)).step (.slc d sz x lo hi mx))):=Bs rfl
theorem jG{d x lo hi}:go P (.dops ((E (n::N),G,.sslc d x lo hi)::its)::k) Q .normal (E σ)=go P (.dops its::k) Q .normal (Bm σ (n::N) (E d) ((σ.less (n::N)).step (.sslc d x lo hi))):=Bs rfl
theorem im{d x off}:go P (.dops ((E (n::N),G,.faddr d x off)::its)::k) Q .normal (E σ)=go P (.dops its::k) Q .normal (Bm σ (n::N) (E d) ((σ.less (n::N)).step (.faddr d x off))):=Bs rfl
theorem io{d x off g m}:go P (.dops ((E (n::N),G,.field d x off g m)::its)::k) Q .normal (E σ)=go P (.dops its::k) Q .normal (Bm σ (n::N) (E d) ((σ.less (n::N)).step (.field d x off g m))):=Bs rfl
theorem iq{d x i sz}:go P (.dops ((E (n::N),G,.iaddr d x i sz)::its)::k) Q .normal (E σ)=go P (.dops its::k) Q .normal (Bm σ (n::N) (E d) ((σ.less (n::N)).step (.iaddr d x i sz))):=Bs rfl
theorem ib{d x i len sz}:go P (.dops ((E (n::N),G,.aaddr d x i len sz)::its)::k) Q .normal (E σ)=go P (.dops its::k) Q .normal (Bm σ (n::N) (E d) ((σ.less (n::N)).step (.aaddr d x i len sz))):=Bs rfl
theorem ir{d x i}:go P (.dops ((E (n::N),G,.idx d x i)::its)::k) Q .normal (E σ)=go P (.dops its::k) Q .normal (Bm σ (n::N) (E d) ((σ.less (n::N)).step (.idx d x i))):=Bs rfl
theorem il{d x i}:go P (.dops ((E (n::N),G,.extr d x i)::its)::k) Q .normal (E σ)=go P (.dops its::k) Q .normal (Bm σ (n::N) (E d) ((σ.less (n::N)).step (.extr d x i))):=Bs rfl
theorem iy{d t x}:go P (.dops ((E (n::N),G,.mkif d t x)::its)::k) Q .normal (E σ)=go P (.dops its::k) Q .normal (Bm σ (n::N) (E d) ((σ.less (n::N)).step (.mkif d t x))):=Bs rfl
theorem jH{d x t zc}:go P (.dops ((E (n::N),G,.tass d x t zc)::its)::k) Q .normal (E σ)=go P (.dops its::k) Q .normal (Bm σ (n::N) (E d) ((σ.less (n::N)).step (.tass d x t zc))):=Bs rfl
theorem iu{d x}:go P (.dops ((E (n::N),G,.len d x)::its)::k) Q .normal (E σ)=go P (.dops its::k) Q .normal (Bm σ (n::N) (E d) ((σ.less (n::N)).step (.len d x))):=Bs rfl
theorem jF{d x}:go P (.dops ((E (n::N),G,.slen d x)::its)::k) Q .normal (E σ)=go P (.dops its::k) Q .normal (Bm σ (n::N) (E d) ((σ.less (n::N)).step (.slen d x))):=Bs rfl
theorem jD{d x}:go P (.dops ((E (n::N),G,.sconv d x)::its)::k) Q .normal (E σ)=go P (.dops its::k) Q .normal (Bm σ (n::N) (E d) ((σ.less (n::N)).step (.sconv d x))):=Bs rfl
theorem iz{d m x y}:go P (.dops ((E (n::N),G,.mm d m x y)::its)::k) Q .normal (E σ)=go P (.dops its::k) Q .normal (Bm σ (n::N) (E d) ((σ.less (n::N)).step (.mm d m x y))):=Bs rfl
theorem iw{d f caps}:go P (.dops ((E (n::N),G,.mkf d f caps)::its)::k) Q .normal (E σ)=go P (.dops its::k) Q .normal (Bm σ (n::N) (E d) ((σ.less (n::N)).step (.mkf d f caps))):=Bs rfl
theorem jK{t:L}{o:AOp}{N:H L}:go P (.dops ((E N,E (t,T),o)::its)::k) Q .normal (E σ)=go P (.gdd (σ.get t) T (E N) o its::k) Q .normal (E σ):=by
 show AI (E (t,T)) σ _ _=_
 rw[Ua];show _=BD _ _ _ _
 simp only[cond_true];congr 1<;>(cases o.dst<;>rfl)
theorem jJ{t:L}{o:AOp}{N:H L}:go P (.dops ((E N,E (t,F),o)::its)::k) Q .normal (E σ)=go P (.gdd (σ.get t) F (E N) o its::k) Q .normal (E σ):=by
 show AI (E (t,F)) σ _ _=_
 rw[U9];show _=BD _ _ _ _
 simp only[cond_false];congr 1<;>(cases o.dst<;>rfl)
theorem jO{b:Bool}{o:AOp}{N:Option (H L)}:go P (.gdd (.v (.sc (.dat (.bool b)))) b N o its::k) Q .normal (E σ)=go P (.dops ((N,G,o)::its)::k) Q .normal (E σ):=by
 cases b<;>simp[go,AE,BD]
theorem jN{o:AOp}{N:Option (H L)}:go P (.gdd (.v (.sc (.dat (.bool F)))) T N o its::k) Q .normal (E σ)=go P (.dops its::k) Q .normal (CL σ o.dst):=by
 simp only[go,AE,BD,cond_true];cases o.dst<;>simp[C7,CL]
theorem jM{o:AOp}{N:Option (H L)}:go P (.gdd (.v (.sc (.dat (.bool T)))) F N o its::k) Q .normal (E σ)=go P (.dops its::k) Q .normal (CL σ o.dst):=by
 simp only[go,AE,BD,cond_false];cases o.dst<;>simp[C7,CL]
theorem jL{w:Bool}{o:AOp}{N:Option (H L)}:go P (.gdd .no w N o its::k) Q .normal (E σ)=go P (.dops its::k) Q .normal (CL σ o.dst):=by
 simp only[go,AE,BD];cases o.dst<;>simp[C7,CL]
theorem nX{w:Bool}{o:AOp}{its:H AItem}:go P (.gd .no w o its::k) Q .normal (E σ)=go P (.ops its::k) Q .normal (CL σ o.dst):=by
 simp only[go,AE,BD];cases o.dst<;>simp[C7,CL]
end
def Dw(k:L):H L→Bool
 | []=>F
 | n::r=>bif k==n then T else Dw k r
def Db{α:Type}(f:L→L)(N:H L):H (L × α)→H (L × α)
 | []=> []
 | (k,v)::r=>bif Dw (f k) N then Db f N r else(k,v)::Db f N r
theorem O6(k:L):∀N:H L,Dw k N=N.contains k
 | []=>rfl
 | n::r=>by
  simp only[Dw,O,O6 k r];cases k==n<;>rfl
theorem Sw{α:Type}(f:L→L)(N:H L):∀l:H (L × α),Db f N l=l.filter fun p=> !N.contains (f p.1)
 | []=>rfl
 | (k,v)::r=>by
  simp only[Db,O6,List.filter_cons,Sw f N r];cases N.contains (f k)<;>rfl
theorem rp{env bx rows}{n:L}{N:H L}:(St.mk env bx rows).less (n::N)=⟨env,Db id (n::N) bx,Db (· / 64) (n::N) rows⟩:=by
 rw[Sw,Sw];rfl
theorem sM{k:L}:Dw k []=F:=rfl
theorem sL{k n:L}{r:H L}:Dw k (n::r)=bif k==n then T else Dw k r:=rfl
theorem qv{α:Type}{f:L→L}{N:H L}:Db f N ([]:H (L × α))= []:=rfl
theorem qu{α:Type}{N:H L}{k:L}{v:α}{r:H (L × α)}:Db id N ((k,v)::r)=bif Dw k N then Db id N r else(k,v)::Db id N r:=rfl
theorem qt{α:Type}{N:H L}{k:L}{v:α}{r:H (L × α)}:Db (· / 64) N ((k,v)::r)=bif Dw (k / 64) N then Db (· / 64) N r else(k,v)::Db (· / 64) N r:=rfl
theorem wV{σ τ:St}{N:H L}{d:L}:Bm σ N (E d) (E τ)=bif (τ.get d).avoids N then E (σ.set d (τ.get d)) else G:=rfl
theorem xC{σ:St}{d:L}:CL σ (E d)=E (σ.set d .no):=rfl
theorem fO{N:H L}{d:D}:AV.avoids N (.v (.sc (.dat d)))=T:=by simp[AV.avoids,AV.cells,V1.cells,AC.avoids,AC.uses]
theorem fP{N:H L}:AV.avoids N (.v (.sc .nil))=T:=by simp[AV.avoids,AV.cells,V1.cells,AC.avoids,AC.uses]
theorem fR{N:H L}{i:L}:AV.avoids N (.v (.sc (.own i)))= !Dw (i / 64) N:=by
 rw[O6]
 induction N with
 | nil=>rfl
 | cons n N ih=>
  simp only[AV.avoids,AV.cells,V1.cells,AC.avoids,AC.uses,U,List.all_nil,V,O] at ih ⊢
  rw[ih];cases(i / 64==n)<;>simp
theorem fS{N:H L}{i o:L}:AV.avoids N (.v (.sc (.pb i o)))= !Dw i N:=by
 rw[O6]
 induction N with
 | nil=>rfl
 | cons n N ih=>
  simp only[AV.avoids,AV.cells,V1.cells,AC.avoids,AC.uses,U,List.all_nil,V,O] at ih ⊢
  rw[ih];cases(i==n)<;>simp
theorem fT{N:H L}{i x o:L}:AV.avoids N (.v (.sc (.pe i x o)))= !Dw (i / 64) N:=by
 rw[O6]
 induction N with
 | nil=>rfl
 | cons n N ih=>
  simp only[AV.avoids,AV.cells,V1.cells,AC.avoids,AC.uses,U,List.all_nil,V,O] at ih ⊢
  rw[ih];cases(i / 64==n)<;>simp
theorem fN{N:H L}:AV.avoids N (.v (.ag []))=T:=rfl
theorem fM{N:H L}{c:AC}{cs:H AC}:AV.avoids N (.v (.ag (c::cs)))=((AV.v (.sc c)).avoids N&&(AV.v (.ag cs)).avoids N):=by simp[AV.avoids,AV.cells,V1.cells]
theorem ss:(!F)=T:=rfl
theorem su:(!T)=F:=rfl
theorem ey:(T&&T)=T:=rfl
theorem jw{d x}:AOp.dst (.mv d x)=E d:=rfl
theorem jy{d c a b}:AOp.dst (.pick d c a b)=E d:=rfl
theorem jd{d zs ps}:AOp.dst (.build d zs ps)=E d:=rfl
theorem jp{d x g n}:AOp.dst (.load d x g n)=E d:=rfl
theorem jx{d x}:AOp.dst (.nilc d x)=E d:=rfl
theorem ja{d op x y}:AOp.dst (.bin d op x y)=E d:=rfl
theorem jk{d g ks x y}:AOp.dst (.geq d g ks x y)=E d:=rfl
theorem jZ{d g x y}:AOp.dst (.beq d g x y)=E d:=rfl
theorem kg{d op x}:AOp.dst (.un d op x)=E d:=rfl
theorem jg{d kd x}:AOp.dst (.conv d kd x)=E d:=rfl
theorem ka{d sz x lo hi mx}:AOp.dst (.slc d sz x lo hi mx)=E d:=rfl
theorem ke{d x lo hi}:AOp.dst (.sslc d x lo hi)=E d:=rfl
theorem ji{d x off}:AOp.dst (.faddr d x off)=E d:=rfl
theorem jj{d x off g n}:AOp.dst (.field d x off g n)=E d:=rfl
theorem jl{d x i sz}:AOp.dst (.iaddr d x i sz)=E d:=rfl
theorem jX{d x i len sz}:AOp.dst (.aaddr d x i len sz)=E d:=rfl
theorem jm{d x i}:AOp.dst (.idx d x i)=E d:=rfl
theorem jh{d x i}:AOp.dst (.extr d x i)=E d:=rfl
theorem jr{d t x}:AOp.dst (.mkif d t x)=E d:=rfl
theorem kf{d x t zc}:AOp.dst (.tass d x t zc)=E d:=rfl
theorem jo{d x}:AOp.dst (.len d x)=E d:=rfl
theorem kb{d x}:AOp.dst (.slen d x)=E d:=rfl
theorem jz{d x}:AOp.dst (.sconv d x)=E d:=rfl
theorem jv{d m x y}:AOp.dst (.mm d m x y)=E d:=rfl
theorem jq{d f caps}:AOp.dst (.mkf d f caps)=E d:=rfl
theorem jb{d x}:AOp.dst (.box d x)=E d:=rfl
theorem jY{d cs}:AOp.dst (.alloc d cs)=E d:=rfl
theorem jc{d sz zs len ps}:AOp.dst (.bslice d sz zs len ps)=E d:=rfl
theorem ju{d sz b zs x y}:AOp.dst (.mksl d sz b zs x y)=E d:=rfl
theorem je{d f args}:AOp.dst (.call d f args)=E d:=rfl
theorem jf{d x args}:AOp.dst (.callv d x args)=E d:=rfl
def mG(rs:H R1):Bool:=(rs.flatMap R1.cells).all fun | .v d=>d.flat | .o _ _=>F
theorem Fg{rs:H R1}(h:mG rs=T):CD rs:=by
 intro c hc;have:=List.all_eq_true.1 h c hc;cases c with
 | v d=>exact this
 | o=>cases this
end Go.Vi
