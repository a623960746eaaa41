/-
Plain laws. No condition.
-/
import Derived.Test.YtfmhammmkkbonaaGreatDoorCVi32
namespace Go.Vi
set_option linter.all false
open _root_ renaming Int → T
theorem Bz{α:Type}(l:List α)(i:Nat):ix l (i:T)=l[i]?:=by simp[ix]
theorem Aa{α:Type}{l:List α}{i:Nat}(h:i<l.length):ix l (i:T)=some l[i]:=by rw[Bz,List.getElem?_eq_getElem h]
theorem Ag(i n:Nat):decide ((i:T)<(n:T))=decide (i<n):=by simp[Int.ofNat_lt]
theorem Ak{i n:Nat}(h:i<n)(hn:n≤maxLen):IntKind.i64.wrap ((i:T)+1)=((i+1:Nat):T):=A1a h hn
theorem DF:bigN=1208925819614629174706176:=by unfold bigN; rfl
theorem Bo:maxLen=9223372036854775807:=rfl
theorem Aj{n:Nat}(h:n≤maxLen):n<bigN:=by rw[DF]; rw[Bo] at h; omega
theorem MU{R:Type}(L:Nat→T→Option R)(len:Nat)(hl:len≤maxLen)(g:Nat→Option R→Option R)(Az:Option R)
  (hs:∀(n i:Nat),i<len→L (n+1) (i:T)=g i (L n (IntKind.i64.wrap ((i:T)+1)))) (he:∀n,L (n+1) (len:T)=Az) :
  ∀(k i n:Nat),i+k=len→k<n→L n (i:T)=(List.range' i k).foldr g Az
 | 0,i,n,hi,hn=>by
  obtain⟨m,rfl⟩:∃m,n=m+1:=⟨n - 1,by omega⟩;have:i=len:=by omega
  subst this;rw[he]; rfl
 | k+1,i,n,hi,hn=>by
  obtain⟨m,rfl⟩:∃m,n=m+1:=⟨n - 1,by omega⟩;rw[hs m i (by omega),Ak (show i<len by omega) hl,MU L len hl g Az hs he k (i+1) m (by omega) (by omega)];rfl
theorem Nu{α:Type}{L:Nat→T→Option Bool}(xs:List α)(p:α→Bool)(hl:xs.length≤maxLen)
  (hs:∀(n i:Nat) (h:i<xs.length),L (n+1) (i:T)=if p xs[i]=true then L n (IntKind.i64.wrap ((i:T)+1)) else some false) (he:∀n,L (n+1) (xs.length:T)=some true):L bigN 0=some (xs.all p):=by
 have key:∀(k i n:Nat),i+k=xs.length→k<n→L n (i:T)=some ((xs.drop i).all p):=by
  intro k
  induction k with
  | zero=>
   intro i n hi hn;obtain⟨m,rfl⟩:∃m,n=m+1:=⟨n - 1,by omega⟩;have:i=xs.length:=by omega
   subst this;rw[he]; simp
  | succ k ih=>
   intro i n hi hn;obtain⟨m,rfl⟩:∃m,n=m+1:=⟨n - 1,by omega⟩;have hlt:i<xs.length:=by omega
   rw[hs m i hlt,Ak hlt hl,ih (i+1) m (by omega) (by omega),List.drop_eq_getElem_cons hlt,List.all_cons];cases p xs[i]<;>simp
 have:=key xs.length 0 bigN (by omega) (Aj hl);simpa using this
theorem dL{L:Nat→T→Option Bool}(len:Nat)(p:Nat→Bool)(hl:len≤maxLen)
  (hs:∀(n i:Nat) (_:i<len),L (n+1) (i:T)=if p i=true then L n (IntKind.i64.wrap ((i:T)+1)) else some false) (he:∀n,L (n+1) (len:T)=some true):L bigN 0=some ((List.range len).all p):=by
 refine Nu (List.range len) p (by simpa using hl) (fun n i h=> ?_) (fun n=> ?_)
 ·have h':i<len:=by simpa using h
  rw[hs n i h'];simp
 ·simpa using he n
end Go.Vi
