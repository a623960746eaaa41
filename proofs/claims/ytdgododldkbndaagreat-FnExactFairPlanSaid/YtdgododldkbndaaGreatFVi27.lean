/-
The value level. No condition.
-/
import Derived.Test.YtdgododldkbndaaGreatFVi26
namespace Go.Vi
set_option linter.all false
open List renaming contains_cons → O, all_cons → U
open Bool renaming and_true → V, true → T, false → F
open Option renaming some → E, none → G
open _root_ renaming List → H, Nat → L
section
variable {P : Program}
end
theorem mC{α:Type}{n:L}:A1 ([]:H (L × α)) n=G:=rfl
theorem mB{α:Type}{k n:L}{v:α}{r:H (L × α)}:A1 ((k,v)::r) n=bif k==n then E v else A1 r n:=rfl
theorem th{α:Type}{n:L}{v:α}:put ([]:H (L × α)) n v= [(n,v)]:=rfl
theorem tf{α:Type}{k n:L}{u v:α}{r:H (L × α)}:put ((k,u)::r) n v=bif k==n then(k,v)::r else(k,u)::put r n v:=rfl
theorem wu{σ:St}{n:L}:σ.val (.t n)=σ.get n:=rfl
theorem wr{σ:St}{v:AV}:σ.val (.c v)=v:=rfl
theorem mc{env bx rows}{k:L}:(St.mk env bx rows).get k=(A1 env k).getD .undef:=rfl
theorem ue{env bx rows}{k:L}{v:AV}:(St.mk env bx rows).set k v=⟨put env k v,bx,rows⟩:=rfl
theorem getD_some{α:Type}{a b:α}:(E a).getD b=a:=rfl
theorem getD_none{α:Type}{b:α}:(G:Option α).getD b=b:=rfl
theorem map_some{α β:Type}{f:α→β}{a:α}:(E a).map f=E (f a):=rfl
theorem map_none{α β:Type}{f:α→β}:(G:Option α).map f=G:=rfl
theorem gZ{α:Type}{a b:α}:cond T a b=a:=rfl
theorem gY{α:Type}{a b:α}:cond F a b=b:=rfl
theorem uq{s:H UInt8}:Le (.v (.sc (.dat (.str s))))=E (.v (.sc (.dat (.int .i64 s.length)))):=rfl
theorem ra{rs:Rows}{es:H (H D)}:E8 rs (.v (.sc (.dat (.sl es))))=E (.v (.sc (.dat (.int .i64 es.length)))):=rfl
theorem uW{rs:Rows}{es:H (H D)}:H4 rs (.v (.sc (.dat (.sl es))))=(Db es).map fun b=> .v (.sc (.dat (.str b))):=rfl
theorem uV{rs:Rows}{id:L}:H4 rs (.v (.sc (.own id)))=match A1 rs id with | some (_,es)=>(Db es).map fun b=> .v (.sc (.dat (.str b))) | none=>G:=rfl
theorem rX{rs:Rows}:E8 rs (.v (.sc .nil))=E (.v (.sc (.dat (.int .i64 0)))):=rfl
theorem gb{k k':IntKind}{n:Int}:Rw k (.v (.sc (.dat (.int k' n))))=E (.v (.sc (.dat (.int k (k.wrap n))))):=rfl
theorem fi{op:BinOp}{k:IntKind}{x y:Int}:CI op (.v (.sc (.dat (.int k x)))) (.v (.sc (.dat (.int k y))))=(AS op k x y).map fun d=> .v (.sc (.dat d)):=by simp[CI]
theorem fq{op:BinOp}{x y:H UInt8}:CI op (.v (.sc (.dat (.str x)))) (.v (.sc (.dat (.str y))))=(H7 op x y).map fun d=> .v (.sc (.dat d)):=rfl
theorem qI{k:IntKind}{x y:Int}:AS .add k x y=E (.int k (k.wrap (x+y))):=rfl
theorem qa{k:IntKind}{x y:Int}:AS .sub k x y=E (.int k (k.wrap (x - y))):=rfl
theorem qQ{k:IntKind}{x y:Int}:AS .mul k x y=E (.int k (k.wrap (x*y))):=rfl
theorem qT{k:IntKind}{x y:Int}:AS .quo k x y=bif y==0 then G else E (.int k (k.wrap (x.tdiv y))):=by
 by_cases h:y=0
 ·simp[AS,h]
 ·have h':(y==0)=F:=by simpa using h
  simp[AS,h,h']
theorem qU{k:IntKind}{x y:Int}:AS .rem k x y=bif y==0 then G else E (.int k (k.wrap (x.tmod y))):=by
 by_cases h:y=0
 ·simp[AS,h]
 ·have h':(y==0)=F:=by simpa using h
  simp[AS,h,h']
theorem qL{k:IntKind}{x y:Int}:AS .eql k x y=E (.bool (x==y)):=rfl
theorem qR{k:IntKind}{x y:Int}:AS .neq k x y=E (.bool (x !=y)):=rfl
theorem qP{k:IntKind}{x y:Int}:AS .lss k x y=E (.bool (decide (x<y))):=rfl
theorem qO{k:IntKind}{x y:Int}:AS .leq k x y=E (.bool (decide (x≤y))):=rfl
theorem qN{k:IntKind}{x y:Int}:AS .gtr k x y=E (.bool (decide (y<x))):=rfl
theorem qM{k:IntKind}{x y:Int}:AS .geq k x y=E (.bool (decide (y≤x))):=rfl
theorem vh{x y:H UInt8}:H7 .eql x y=E (.bool (x==y)):=rfl
theorem vj{x y:H UInt8}:H7 .neq x y=E (.bool (!(x==y))):=rfl
theorem wj{b:Bool}:Jo .not (.v (.sc (.dat (.bool b))))=E (.v (.sc (.dat (.bool (!b))))):=rfl
theorem pN{s:H UInt8}{k:IntKind}{i:Int}:KT (.v (.sc (.dat (.str s)))) (.v (.sc (.dat (.int k i))))=(ix s i).map fun b=> .v (.sc (.dat (.int .u8 b.toNat))):=rfl
theorem qc{α:Type}{l:H α}{i:L}(h:i<l.length):ix l (i:Int)=E l[i]:=by simp[ix,h]
theorem ly{off:L}{g:Bool}{n:L}{cs:H AC}:GN off g n (.v (.ag cs))=CV cs off g n:=rfl
theorem gL{cs:H AC}{off n:L}:CV cs off F n=(cs[off]?).map fun c=> .v (.sc c):=rfl
theorem qE{env bx rows}{d:L}{rs:H R1}:(St.mk env bx rows).inst d rs=⟨put env d (BT d rs),bx,Bi rows (BP d rs)⟩:=rfl
theorem pw{g:L}{r:R1}:BT g [r]= .v (r.inst g 0):=rfl
theorem px{g:L}{r r':R1}{rs:H R1}:BT g (r::r'::rs)= .tup (Dl g 0 (r::r'::rs)):=rfl
theorem qB{g j:L}:Dl g j []= []:=rfl
theorem qA{g j:L}{r:R1}{rs:H R1}:Dl g j (r::rs)=r.inst g j::Dl g (j+r.width) rs:=rfl
theorem za{c:RC}:R1.width (.sc c)=1:=rfl
theorem yz{cs:H RC}:R1.width (.ag cs)=cs.length:=rfl
theorem qH{g j:L}{d:D}:RC.inst g j (.v d)= .dat d:=rfl
theorem qF{g j sz:L}{es:H (H D)}:RC.inst g j (.o sz es)= .own (g*64+j):=rfl
theorem qG{g j:L}{c:RC}:R1.inst g j (.sc c)= .sc (c.inst g j):=rfl
theorem qD{g j:L}{cs:H RC}:R1.inst g j (.ag cs)= .ag (E7 g j cs):=rfl
theorem pz{g j:L}:E7 g j []= []:=rfl
theorem py{g j:L}{c:RC}{cs:H RC}:E7 g j (c::cs)=c.inst g j::E7 g (j+1) cs:=rfl
theorem uF{g:L}:BP g []= []:=rfl
theorem uG{g:L}{r:R1}:BP g [r]=BJ g 0 r.cells:=by simp[BP]
theorem uI{g:L}{r r':R1}:BP g [r,r']=BJ g 0 (r.cells++r'.cells):=by simp[BP]
theorem gN{c:RC}:R1.cells (.sc c)= [c]:=rfl
theorem gJ{cs:H RC}:R1.cells (.ag cs)=cs:=rfl
theorem uK{g j:L}:BJ g j []= []:=rfl
theorem uM{g j:L}{d:D}{cs:H RC}:BJ g j (.v d::cs)=BJ g (j+1) cs:=rfl
theorem uL{g j sz:L}{es:H (H D)}{cs:H RC}:BJ g j (.o sz es::cs)=(g*64+j,sz,es)::BJ g (j+1) cs:=rfl
theorem tc{rows:Rows}:Bi rows []=rows:=rfl
theorem tb{rows r:Rows}{k:L}{x:L × H (H D)}:Bi rows ((k,x)::r)=put (Bi rows r) k x:=rfl
theorem ey{α:Type}{l:H α}: []++l=l:=rfl
theorem ex{α:Type}{a:α}{l m:H α}:(a::l)++m=a::(l++m):=rfl
theorem gB{x:Int}:(x !=x)=F:=by simp
theorem fb{x:Int}:(x==x)=T:=by simp
section
variable {P : Program} {k : H Fr} {Q : Xm → St → Prop} {σ : St} {its : H AZ} {n : L} {N : H L}
theorem iD{d x}:go P (.dops ((E [],G,.mv d x)::its)::k) Q .normal (E σ)=go P (.ops [(G,.mv d x)]:: .dops its::k) Q .normal (E σ):=Bh rfl rfl
theorem iF{d c a b}:go P (.dops ((E [],G,.pick d c a b)::its)::k) Q .normal (E σ)=go P (.ops [(G,.pick d c a b)]:: .dops its::k) Q .normal (E σ):=Bh rfl rfl
theorem gw{d zs ps}:go P (.dops ((E [],G,.build d zs ps)::its)::k) Q .normal (E σ)=go P (.ops [(G,.build d zs ps)]:: .dops its::k) Q .normal (E σ):=Bh rfl rfl
theorem hU{d x g n}:go P (.dops ((E [],G,.load d x g n)::its)::k) Q .normal (E σ)=go P (.ops [(G,.load d x g n)]:: .dops its::k) Q .normal (E σ):=Bh rfl rfl
theorem iE{d x}:go P (.dops ((E [],G,.nilc d x)::its)::k) Q .normal (E σ)=go P (.ops [(G,.nilc d x)]:: .dops its::k) Q .normal (E σ):=Bh rfl rfl
theorem gp{d op x y}:go P (.dops ((E [],G,.bin d op x y)::its)::k) Q .normal (E σ)=go P (.ops [(G,.bin d op x y)]:: .dops its::k) Q .normal (E σ):=Bh rfl rfl
theorem hH{d g ks x y}:go P (.dops ((E [],G,.geq d g ks x y)::its)::k) Q .normal (E σ)=go P (.ops [(G,.geq d g ks x y)]:: .dops its::k) Q .normal (E σ):=Bh rfl rfl
theorem gn{d g x y}:go P (.dops ((E [],G,.beq d g x y)::its)::k) Q .normal (E σ)=go P (.ops [(G,.beq d g x y)]:: .dops its::k) Q .normal (E σ):=Bh rfl rfl
theorem iL{d op x}:go P (.dops ((E [],G,.un d op x)::its)::k) Q .normal (E σ)=go P (.ops [(G,.un d op x)]:: .dops its::k) Q .normal (E σ):=Bh rfl rfl
theorem gx{d kd x}:go P (.dops ((E [],G,.conv d kd x)::its)::k) Q .normal (E σ)=go P (.ops [(G,.conv d kd x)]:: .dops its::k) Q .normal (E σ):=Bh rfl rfl
theorem iH{d sz x lo hi mx}:go P (.dops ((E [],G,.slc d sz x lo hi mx)::its)::k) Q .normal (E σ)=go P (.ops [(G,.slc d sz x lo hi mx)]:: .dops its::k) Q .normal (E σ):=Bh rfl rfl
theorem iJ{d x lo hi}:go P (.dops ((E [],G,.sslc d x lo hi)::its)::k) Q .normal (E σ)=go P (.ops [(G,.sslc d x lo hi)]:: .dops its::k) Q .normal (E σ):=Bh rfl rfl
theorem gz{d x off}:go P (.dops ((E [],G,.faddr d x off)::its)::k) Q .normal (E σ)=go P (.ops [(G,.faddr d x off)]:: .dops its::k) Q .normal (E σ):=Bh rfl rfl
theorem hD{d x off g n}:go P (.dops ((E [],G,.field d x off g n)::its)::k) Q .normal (E σ)=go P (.ops [(G,.field d x off g n)]:: .dops its::k) Q .normal (E σ):=Bh rfl rfl
theorem hI{d x i sz}:go P (.dops ((E [],G,.iaddr d x i sz)::its)::k) Q .normal (E σ)=go P (.ops [(G,.iaddr d x i sz)]:: .dops its::k) Q .normal (E σ):=Bh rfl rfl
theorem gl{d x i len sz}:go P (.dops ((E [],G,.aaddr d x i len sz)::its)::k) Q .normal (E σ)=go P (.ops [(G,.aaddr d x i len sz)]:: .dops its::k) Q .normal (E σ):=Bh rfl rfl
theorem hO{d x i}:go P (.dops ((E [],G,.idx d x i)::its)::k) Q .normal (E σ)=go P (.ops [(G,.idx d x i)]:: .dops its::k) Q .normal (E σ):=Bh rfl rfl
theorem gy{d x i}:go P (.dops ((E [],G,.extr d x i)::its)::k) Q .normal (E σ)=go P (.ops [(G,.extr d x i)]:: .dops its::k) Q .normal (E σ):=Bh rfl rfl
theorem iA{d t x}:go P (.dops ((E [],G,.mkif d t x)::its)::k) Q .normal (E σ)=go P (.ops [(G,.mkif d t x)]:: .dops its::k) Q .normal (E σ):=Bh rfl rfl
theorem iK{d x t zc}:go P (.dops ((E [],G,.tass d x t zc)::its)::k) Q .normal (E σ)=go P (.ops [(G,.tass d x t zc)]:: .dops its::k) Q .normal (E σ):=Bh rfl rfl
theorem hP{d x}:go P (.dops ((E [],G,.len d x)::its)::k) Q .normal (E σ)=go P (.ops [(G,.len d x)]:: .dops its::k) Q .normal (E σ):=Bh rfl rfl
theorem iI{d x}:go P (.dops ((E [],G,.slen d x)::its)::k) Q .normal (E σ)=go P (.ops [(G,.slen d x)]:: .dops its::k) Q .normal (E σ):=Bh rfl rfl
theorem iG{d x}:go P (.dops ((E [],G,.sconv d x)::its)::k) Q .normal (E σ)=go P (.ops [(G,.sconv d x)]:: .dops its::k) Q .normal (E σ):=Bh rfl rfl
theorem iC{d m x y}:go P (.dops ((E [],G,.mm d m x y)::its)::k) Q .normal (E σ)=go P (.ops [(G,.mm d m x y)]:: .dops its::k) Q .normal (E σ):=Bh rfl rfl
theorem hZ{d f caps}:go P (.dops ((E [],G,.mkf d f caps)::its)::k) Q .normal (E σ)=go P (.ops [(G,.mkf d f caps)]:: .dops its::k) Q .normal (E σ):=Bh rfl rfl
theorem gt{d x}:go P (.dops ((E [],G,.box d x)::its)::k) Q .normal (E σ)=go P (.ops [(G,.box d x)]:: .dops its::k) Q .normal (E σ):=Bh rfl rfl
theorem gm{d cs}:go P (.dops ((E [],G,.alloc d cs)::its)::k) Q .normal (E σ)=go P (.ops [(G,.alloc d cs)]:: .dops its::k) Q .normal (E σ):=Bh rfl rfl
theorem gu{d sz zs len ps}:go P (.dops ((E [],G,.bslice d sz zs len ps)::its)::k) Q .normal (E σ)=go P (.ops [(G,.bslice d sz zs len ps)]:: .dops its::k) Q .normal (E σ):=Bh rfl rfl
theorem iB{d sz b zs x y}:go P (.dops ((E [],G,.mksl d sz b zs x y)::its)::k) Q .normal (E σ)=go P (.ops [(G,.mksl d sz b zs x y)]:: .dops its::k) Q .normal (E σ):=Bh rfl rfl
theorem ii{d x}:go P (.dops ((E (n::N),G,.mv d x)::its)::k) Q .normal (E σ)=go P (.dops its::k) Q .normal (Br σ (n::N) (E d) ((σ.less (n::N)).step (.mv d x))):=Bv rfl
theorem ik{d c a b}:go P (.dops ((E (n::N),G,.pick d c a b)::its)::k) Q .normal (E σ)=go P (.dops its::k) Q .normal (Br σ (n::N) (E d) ((σ.less (n::N)).step (.pick d c a b))):=Bv rfl
theorem iP{d zs ps}:go P (.dops ((E (n::N),G,.build d zs ps)::its)::k) Q .normal (E σ)=go P (.dops its::k) Q .normal (Br σ (n::N) (E d) ((σ.less (n::N)).step (.build d zs ps))):=Bv rfl
theorem iY{d x g m}:go P (.dops ((E (n::N),G,.load d x g m)::its)::k) Q .normal (E σ)=go P (.dops its::k) Q .normal (Br σ (n::N) (E d) ((σ.less (n::N)).step (.load d x g m))):=Bv rfl
theorem ij{d x}:go P (.dops ((E (n::N),G,.nilc d x)::its)::k) Q .normal (E σ)=go P (.dops its::k) Q .normal (Br σ (n::N) (E d) ((σ.less (n::N)).step (.nilc d x))):=Bv rfl
theorem iO{d op x y}:go P (.dops ((E (n::N),G,.bin d op x y)::its)::k) Q .normal (E σ)=go P (.dops its::k) Q .normal (Br σ (n::N) (E d) ((σ.less (n::N)).step (.bin d op x y))):=Bv rfl
theorem iU{d g ks x y}:go P (.dops ((E (n::N),G,.geq d g ks x y)::its)::k) Q .normal (E σ)=go P (.dops its::k) Q .normal (Br σ (n::N) (E d) ((σ.less (n::N)).step (.geq d g ks x y))):=Bv rfl
theorem iN{d g x y}:go P (.dops ((E (n::N),G,.beq d g x y)::its)::k) Q .normal (E σ)=go P (.dops its::k) Q .normal (Br σ (n::N) (E d) ((σ.less (n::N)).step (.beq d g x y))):=Bv rfl
theorem ir{d op x}:go P (.dops ((E (n::N),G,.un d op x)::its)::k) Q .normal (E σ)=go P (.dops its::k) Q .normal (Br σ (n::N) (E d) ((σ.less (n::N)).step (.un d op x))):=Bv rfl
theorem iQ{d kd x}:go P (.dops ((E (n::N),G,.conv d kd x)::its)::k) Q .normal (E σ)=go P (.dops its::k) Q .normal (Br σ (n::N) (E d) ((σ.less (n::N)).step (.conv d kd x))):=Bv rfl
theorem im{d sz x lo hi mx}:go P (.dops ((E (n::N),G,.slc d sz x lo hi mx)::its)::k) Q .normal (E σ)=go P (.dops its::k) Q .normal (Br σ (n::N) (E d) ((σ.less (n::N)).step (.slc d sz x lo hi mx))):=Bv rfl
theorem ip{d x lo hi}:go P (.dops ((E (n::N),G,.sslc d x lo hi)::its)::k) Q .normal (E σ)=go P (.dops its::k) Q .normal (Br σ (n::N) (E d) ((σ.less (n::N)).step (.sslc d x lo hi))):=Bv rfl
theorem iS{d x off}:go P (.dops ((E (n::N),G,.faddr d x off)::its)::k) Q .normal (E σ)=go P (.dops its::k) Q .normal (Br σ (n::N) (E d) ((σ.less (n::N)).step (.faddr d x off))):=Bv rfl
theorem iT{d x off g m}:go P (.dops ((E (n::N),G,.field d x off g m)::its)::k) Q .normal (E σ)=go P (.dops its::k) Q .normal (Br σ (n::N) (E d) ((σ.less (n::N)).step (.field d x off g m))):=Bv rfl
theorem iV{d x i sz}:go P (.dops ((E (n::N),G,.iaddr d x i sz)::its)::k) Q .normal (E σ)=go P (.dops its::k) Q .normal (Br σ (n::N) (E d) ((σ.less (n::N)).step (.iaddr d x i sz))):=Bv rfl
theorem iM{d x i len sz}:go P (.dops ((E (n::N),G,.aaddr d x i len sz)::its)::k) Q .normal (E σ)=go P (.dops its::k) Q .normal (Br σ (n::N) (E d) ((σ.less (n::N)).step (.aaddr d x i len sz))):=Bv rfl
theorem iW{d x i}:go P (.dops ((E (n::N),G,.idx d x i)::its)::k) Q .normal (E σ)=go P (.dops its::k) Q .normal (Br σ (n::N) (E d) ((σ.less (n::N)).step (.idx d x i))):=Bv rfl
theorem iR{d x i}:go P (.dops ((E (n::N),G,.extr d x i)::its)::k) Q .normal (E σ)=go P (.dops its::k) Q .normal (Br σ (n::N) (E d) ((σ.less (n::N)).step (.extr d x i))):=Bv rfl
theorem ib{d t x}:go P (.dops ((E (n::N),G,.mkif d t x)::its)::k) Q .normal (E σ)=go P (.dops its::k) Q .normal (Br σ (n::N) (E d) ((σ.less (n::N)).step (.mkif d t x))):=Bv rfl
theorem iq{d x t zc}:go P (.dops ((E (n::N),G,.tass d x t zc)::its)::k) Q .normal (E σ)=go P (.dops its::k) Q .normal (Br σ (n::N) (E d) ((σ.less (n::N)).step (.tass d x t zc))):=Bv rfl
theorem iX{d x}:go P (.dops ((E (n::N),G,.len d x)::its)::k) Q .normal (E σ)=go P (.dops its::k) Q .normal (Br σ (n::N) (E d) ((σ.less (n::N)).step (.len d x))):=Bv rfl
theorem io{d x}:go P (.dops ((E (n::N),G,.slen d x)::its)::k) Q .normal (E σ)=go P (.dops its::k) Q .normal (Br σ (n::N) (E d) ((σ.less (n::N)).step (.slen d x))):=Bv rfl
theorem il{d x}:go P (.dops ((E (n::N),G,.sconv d x)::its)::k) Q .normal (E σ)=go P (.dops its::k) Q .normal (Br σ (n::N) (E d) ((σ.less (n::N)).step (.sconv d x))):=Bv rfl
theorem ig{d m x y}:go P (.dops ((E (n::N),G,.mm d m x y)::its)::k) Q .normal (E σ)=go P (.dops its::k) Q .normal (Br σ (n::N) (E d) ((σ.less (n::N)).step (.mm d m x y))):=Bv rfl
theorem iZ{d f caps}:go P (.dops ((E (n::N),G,.mkf d f caps)::its)::k) Q .normal (E σ)=go P (.dops its::k) Q .normal (Br σ (n::N) (E d) ((σ.less (n::N)).step (.mkf d f caps))):=Bv rfl
theorem iv{t:L}{o:AOp}{N:H L}:go P (.dops ((E N,E (t,T),o)::its)::k) Q .normal (E σ)=go P (.gdd (σ.get t) T (E N) o its::k) Q .normal (E σ):=by
 show AO (E (t,T)) σ _ _=_
 rw[Ub];show _=BH _ _ _ _
 simp only[cond_true];congr 1<;>(cases o.dst<;>rfl)
theorem iu{t:L}{o:AOp}{N:H L}:go P (.dops ((E N,E (t,F),o)::its)::k) Q .normal (E σ)=go P (.gdd (σ.get t) F (E N) o its::k) Q .normal (E σ):=by
 show AO (E (t,F)) σ _ _=_
 rw[Ua];show _=BH _ _ _ _
 simp only[cond_false];congr 1<;>(cases o.dst<;>rfl)
theorem jA{b:Bool}{o:AOp}{N:Option (H L)}:go P (.gdd (.v (.sc (.dat (.bool b)))) b N o its::k) Q .normal (E σ)=go P (.dops ((N,G,o)::its)::k) Q .normal (E σ):=by
 cases b<;>simp[go,AJ,BH]
theorem iz{o:AOp}{N:Option (H L)}:go P (.gdd (.v (.sc (.dat (.bool F)))) T N o its::k) Q .normal (E σ)=go P (.dops its::k) Q .normal (CT σ o.dst):=by
 simp only[go,AJ,BH,cond_true];cases o.dst<;>simp[Cg,CT]
theorem iy{o:AOp}{N:Option (H L)}:go P (.gdd (.v (.sc (.dat (.bool T)))) F N o its::k) Q .normal (E σ)=go P (.dops its::k) Q .normal (CT σ o.dst):=by
 simp only[go,AJ,BH,cond_false];cases o.dst<;>simp[Cg,CT]
theorem iw{w:Bool}{o:AOp}{N:Option (H L)}:go P (.gdd .no w N o its::k) Q .normal (E σ)=go P (.dops its::k) Q .normal (CT σ o.dst):=by
 simp only[go,AJ,BH];cases o.dst<;>simp[Cg,CT]
theorem nV{w:Bool}{o:AOp}{its:H AItem}:go P (.gd .no w o its::k) Q .normal (E σ)=go P (.ops its::k) Q .normal (CT σ o.dst):=by
 simp only[go,AJ,BH];cases o.dst<;>simp[Cg,CT]
end
def DI(k:L):H L→Bool
 | []=>F
 | n::r=>bif k==n then T else DI k r
def Dn{α:Type}(f:L→L)(N:H L):H (L × α)→H (L × α)
 | []=> []
 | (k,v)::r=>bif DI (f k) N then Dn f N r else(k,v)::Dn f N r
theorem Og(k:L):∀N:H L,DI k N=N.contains k
 | []=>rfl
 | n::r=>by
  simp only[DI,O,Og k r];cases k==n<;>rfl
theorem Sq{α:Type}(f:L→L)(N:H L):∀l:H (L × α),Dn f N l=l.filter fun p=> !N.contains (f p.1)
 | []=>rfl
 | (k,v)::r=>by
  simp only[Dn,Og,List.filter_cons,Sq f N r];cases N.contains (f k)<;>rfl
theorem rg{env bx rows}{n:L}{N:H L}:(St.mk env bx rows).less (n::N)=⟨env,Dn id (n::N) bx,Dn (· / 64) (n::N) rows⟩:=by
 rw[Sq,Sq];rfl
theorem sG{k:L}:DI k []=F:=rfl
theorem sF{k n:L}{r:H L}:DI k (n::r)=bif k==n then T else DI k r:=rfl
theorem qf{α:Type}{f:L→L}{N:H L}:Dn f N ([]:H (L × α))= []:=rfl
theorem qe{α:Type}{N:H L}{k:L}{v:α}{r:H (L × α)}:Dn id N ((k,v)::r)=bif DI k N then Dn id N r else(k,v)::Dn id N r:=rfl
theorem qd{α:Type}{N:H L}{k:L}{v:α}{r:H (L × α)}:Dn (· / 64) N ((k,v)::r)=bif DI (k / 64) N then Dn (· / 64) N r else(k,v)::Dn (· / 64) N r:=rfl
theorem wI{σ τ:St}{N:H L}{d:L}:Br σ N (E d) (E τ)=bif (τ.get d).avoids N then E (σ.set d (τ.get d)) else G:=rfl
theorem wm{σ:St}{d:L}:CT σ (E d)=E (σ.set d .no):=rfl
theorem fG{N:H L}{d:D}:AV.avoids N (.v (.sc (.dat d)))=T:=by simp[AV.avoids,AV.cells,V1.cells,AC.avoids,AC.uses]
theorem fH{N:H L}:AV.avoids N (.v (.sc .nil))=T:=by simp[AV.avoids,AV.cells,V1.cells,AC.avoids,AC.uses]
theorem fJ{N:H L}{i:L}:AV.avoids N (.v (.sc (.own i)))= !DI (i / 64) N:=by
 rw[Og]
 induction N with
 | nil=>rfl
 | cons n N ih=>
  simp only[AV.avoids,AV.cells,V1.cells,AC.avoids,AC.uses,U,List.all_nil,V,O] at ih ⊢
  rw[ih];cases(i / 64==n)<;>simp
theorem fK{N:H L}{i o:L}:AV.avoids N (.v (.sc (.pb i o)))= !DI i N:=by
 rw[Og]
 induction N with
 | nil=>rfl
 | cons n N ih=>
  simp only[AV.avoids,AV.cells,V1.cells,AC.avoids,AC.uses,U,List.all_nil,V,O] at ih ⊢
  rw[ih];cases(i==n)<;>simp
theorem fL{N:H L}{i x o:L}:AV.avoids N (.v (.sc (.pe i x o)))= !DI (i / 64) N:=by
 rw[Og]
 induction N with
 | nil=>rfl
 | cons n N ih=>
  simp only[AV.avoids,AV.cells,V1.cells,AC.avoids,AC.uses,U,List.all_nil,V,O] at ih ⊢
  rw[ih];cases(i / 64==n)<;>simp
theorem fF{N:H L}:AV.avoids N (.v (.ag []))=T:=rfl
theorem fE{N:H L}{c:AC}{cs:H AC}:AV.avoids N (.v (.ag (c::cs)))=((AV.v (.sc c)).avoids N&&(AV.v (.ag cs)).avoids N):=by simp[AV.avoids,AV.cells,V1.cells]
theorem sg:(!F)=T:=rfl
theorem si:(!T)=F:=rfl
theorem eh:(T&&T)=T:=rfl
theorem jf{d x}:AOp.dst (.mv d x)=E d:=rfl
theorem jh{d c a b}:AOp.dst (.pick d c a b)=E d:=rfl
theorem jP{d zs ps}:AOp.dst (.build d zs ps)=E d:=rfl
theorem ja{d x g n}:AOp.dst (.load d x g n)=E d:=rfl
theorem jg{d x}:AOp.dst (.nilc d x)=E d:=rfl
theorem jM{d op x y}:AOp.dst (.bin d op x y)=E d:=rfl
theorem jW{d g ks x y}:AOp.dst (.geq d g ks x y)=E d:=rfl
theorem jL{d g x y}:AOp.dst (.beq d g x y)=E d:=rfl
theorem jo{d op x}:AOp.dst (.un d op x)=E d:=rfl
theorem jS{d kd x}:AOp.dst (.conv d kd x)=E d:=rfl
theorem jj{d sz x lo hi mx}:AOp.dst (.slc d sz x lo hi mx)=E d:=rfl
theorem jl{d x lo hi}:AOp.dst (.sslc d x lo hi)=E d:=rfl
theorem jU{d x off}:AOp.dst (.faddr d x off)=E d:=rfl
theorem jV{d x off g n}:AOp.dst (.field d x off g n)=E d:=rfl
theorem jX{d x i sz}:AOp.dst (.iaddr d x i sz)=E d:=rfl
theorem jJ{d x i len sz}:AOp.dst (.aaddr d x i len sz)=E d:=rfl
theorem jY{d x i}:AOp.dst (.idx d x i)=E d:=rfl
theorem jT{d x i}:AOp.dst (.extr d x i)=E d:=rfl
theorem jc{d t x}:AOp.dst (.mkif d t x)=E d:=rfl
theorem jm{d x t zc}:AOp.dst (.tass d x t zc)=E d:=rfl
theorem jZ{d x}:AOp.dst (.len d x)=E d:=rfl
theorem jk{d x}:AOp.dst (.slen d x)=E d:=rfl
theorem ji{d x}:AOp.dst (.sconv d x)=E d:=rfl
theorem je{d m x y}:AOp.dst (.mm d m x y)=E d:=rfl
theorem jb{d f caps}:AOp.dst (.mkf d f caps)=E d:=rfl
theorem jN{d x}:AOp.dst (.box d x)=E d:=rfl
theorem jK{d cs}:AOp.dst (.alloc d cs)=E d:=rfl
theorem jO{d sz zs len ps}:AOp.dst (.bslice d sz zs len ps)=E d:=rfl
theorem jd{d sz b zs x y}:AOp.dst (.mksl d sz b zs x y)=E d:=rfl
theorem jQ{d f args}:AOp.dst (.call d f args)=E d:=rfl
theorem jR{d x args}:AOp.dst (.callv d x args)=E d:=rfl
def mF(rs:H R1):Bool:=(rs.flatMap R1.cells).all fun | .v d=>d.flat | .o _ _=>F
theorem Cd{rs:H R1}(h:mF rs=T):CL rs:=by
 intro c hc;have:=List.all_eq_true.1 h c hc;cases c with
 | v d=>exact this
 | o=>cases this
end Go.Vi
