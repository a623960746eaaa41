/-
Plain laws. No condition.
-/
import Derived.Test.YthneeiblhklckaaGreatDoorPVi32
namespace Go.Vi
set_option linter.all false
open _root_ renaming Int → T
theorem Br{α:Type}(l:List α)(i:Nat):ix l (i:T)=l[i]?:=by simp[ix]
theorem Ad{α:Type}{l:List α}{i:Nat}(h:i<l.length):ix l (i:T)=some l[i]:=by rw[Br,List.getElem?_eq_getElem h]
theorem Ag(i n:Nat):decide ((i:T)<(n:T))=decide (i<n):=by simp[Int.ofNat_lt]
theorem Am{i n:Nat}(h:i<n)(hn:n≤maxLen):IntKind.i64.wrap ((i:T)+1)=((i+1:Nat):T):=si h hn
theorem C9:bigN=1208925819614629174706176:=by unfold bigN; rfl
theorem Bj:maxLen=9223372036854775807:=rfl
theorem Al{n:Nat}(h:n≤maxLen):n<bigN:=by rw[C9]; rw[Bj] at h; omega
theorem LJ{R:Type}(L:Nat→T→Option R)(len:Nat)(hl:len≤maxLen)(g:Nat→Option R→Option R)(fin:Option R)
  (hs:∀(n i:Nat),i<len→L (n+1) (i:T)=g i (L n (IntKind.i64.wrap ((i:T)+1)))) (he:∀n,L (n+1) (len:T)=fin) :
  ∀(k i n:Nat),i+k=len→k<n→L n (i:T)=(List.range' i k).foldr g fin
 | 0,i,n,hi,hn=>by
  obtain⟨m,rfl⟩:∃m,n=m+1:=⟨n - 1,by omega⟩;have:i=len:=by omega
  subst this;rw[he]; rfl
 | k+1,i,n,hi,hn=>by
  obtain⟨m,rfl⟩:∃m,n=m+1:=⟨n - 1,by omega⟩;rw[hs m i (by omega),Am (show i<len by omega) hl,LJ L len hl g fin hs he k (i+1) m (by omega) (by omega)];rfl
theorem Mh{α:Type}{L:Nat→T→Option Bool}(xs:List α)(p:α→Bool)(hl:xs.length≤maxLen)
  (hs:∀(n i:Nat) (h:i<xs.length),L (n+1) (i:T)=if p xs[i]=true then L n (IntKind.i64.wrap ((i:T)+1)) else some false) (he:∀n,L (n+1) (xs.length:T)=some true):L bigN 0=some (xs.all p):=by
 have key:∀(k i n:Nat),i+k=xs.length→k<n→L n (i:T)=some ((xs.drop i).all p):=by
  intro k
  induction k with
  | zero=>
   intro i n hi hn;obtain⟨m,rfl⟩:∃m,n=m+1:=⟨n - 1,by omega⟩;have:i=xs.length:=by omega
   subst this;rw[he]; simp
  | succ k ih=>
   intro i n hi hn;obtain⟨m,rfl⟩:∃m,n=m+1:=⟨n - 1,by omega⟩;have hlt:i<xs.length:=by omega
   rw[hs m i hlt,Am hlt hl,ih (i+1) m (by omega) (by omega),List.drop_eq_getElem_cons hlt,List.all_cons];cases p xs[i]<;>simp
 have:=key xs.length 0 bigN (by omega) (Al hl);simpa using this
theorem YB{L:Nat→T→Option Bool}(len:Nat)(p:Nat→Bool)(hl:len≤maxLen)
  (hs:∀(n i:Nat) (_:i<len),L (n+1) (i:T)=if p i=true then L n (IntKind.i64.wrap ((i:T)+1)) else some false) (he:∀n,L (n+1) (len:T)=some true):L bigN 0=some ((List.range len).all p):=by
 refine Mh (List.range len) p (by simpa using hl) (fun n i h=> ?_) (fun n=> ?_)
 ·have h':i<len:=by simpa using h
  rw[hs n i h'];simp
 ·simpa using he n
end Go.Vi
