/-
Plain laws. No condition.
-/
import Derived.Test.YtpigjggbnclpbaaGreatOVi32
namespace Go.Vi
set_option linter.all false
open List renaming getElem?_eq_getElem → G, take_succ_eq_append_getElem → H
open _root_ renaming Option → T, Int → F, Nat → E
theorem Ao{α:Type}(l:List α)(i:E):ix l (i:F)=l[i]?:=by simp[ix]
theorem At{α:Type}{l:List α}{i:E}(h:i<l.length):ix l (i:F)=some l[i]:=by rw[Ao,G h]
theorem Aj(i n:E):decide ((i:F)<(n:F))=decide (i<n):=by simp[Int.ofNat_lt]
theorem AK{i n:E}(h:i<n)(hn:n≤maxLen):IntKind.i64.wrap ((i:F)+1)=((i+1:E):F):=VS h hn
theorem M8:bigN=1208925819614629174706176:=by unfold bigN; rfl
theorem AI:maxLen=9223372036854775807:=rfl
theorem Bo{n:E}(h:n≤maxLen):n<bigN:=by rw[M8]; rw[AI] at h; omega
theorem Hd{R:Type}(L:E→F→T R)(len:E)(hl:len≤maxLen)(g:E→T R→T R)(fin:T R)
  (hs:∀(n i:E),i<len→L (n+1) (i:F)=g i (L n (IntKind.i64.wrap ((i:F)+1)))) (he:∀n,L (n+1) (len:F)=fin) :
  ∀(k i n:E),i+k=len→k<n→L n (i:F)=(List.range' i k).foldr g fin
 | 0,i,n,hi,hn=>by
  obtain⟨m,rfl⟩:∃m,n=m+1:=⟨n - 1,by omega⟩;have:i=len:=by omega
  subst this;rw[he]; rfl
 | k+1,i,n,hi,hn=>by
  obtain⟨m,rfl⟩:∃m,n=m+1:=⟨n - 1,by omega⟩;rw[hs m i (by omega),AK (show i<len by omega) hl,Hd L len hl g fin hs he k (i+1) m (by omega) (by omega)];rfl
theorem EE{α:Type}{L:E→F→T Bool}(xs:List α)(p:α→Bool)(hl:xs.length≤maxLen)
  (hs:∀(n i:E) (h:i<xs.length),L (n+1) (i:F)=if p xs[i]=true then L n (IntKind.i64.wrap ((i:F)+1)) else some false) (he:∀n,L (n+1) (xs.length:F)=some true):L bigN 0=some (xs.all p):=by
 have key:∀(k i n:E),i+k=xs.length→k<n→L n (i:F)=some ((xs.drop i).all p):=by
  intro k
  induction k with
  | zero=>
   intro i n hi hn;obtain⟨m,rfl⟩:∃m,n=m+1:=⟨n - 1,by omega⟩;have:i=xs.length:=by omega
   subst this;rw[he]; simp
  | succ k ih=>
   intro i n hi hn;obtain⟨m,rfl⟩:∃m,n=m+1:=⟨n - 1,by omega⟩;have hlt:i<xs.length:=by omega
   rw[hs m i hlt,AK hlt hl,ih (i+1) m (by omega) (by omega),List.drop_eq_getElem_cons hlt,List.all_cons];cases p xs[i]<;>simp
 have:=key xs.length 0 bigN (by omega) (Bo hl);simpa using this
theorem J9{L:E→F→T Bool}(len:E)(p:E→Bool)(hl:len≤maxLen)
  (hs:∀(n i:E) (_:i<len),L (n+1) (i:F)=if p i=true then L n (IntKind.i64.wrap ((i:F)+1)) else some false) (he:∀n,L (n+1) (len:F)=some true):L bigN 0=some ((List.range len).all p):=by
 refine EE (List.range len) p (by simpa using hl) (fun n i h=> ?_) (fun n=> ?_)
 ·have h':i<len:=by simpa using h
  rw[hs n i h'];simp
 ·simpa using he n
theorem FR{α β:Type}{L:E→F→List β→T (List β)}(xs:List α)(g:α→β)(hl:xs.length≤maxLen)
  (hs:∀(n i:E) (acc:List β) (h:i<xs.length),acc.length=xs.length→L (n+1) (i:F) acc=L n (IntKind.i64.wrap ((i:F)+1)) (acc.set i (g xs[i]))) (he:∀n acc,L (n+1) (xs.length:F) acc=some acc)
  (z:List β) (hz:z.length=xs.length):L bigN 0 z=some (xs.map g):=by
 have key:∀(k i n:E) (acc:List β),i+k=xs.length→k<n→acc.length=xs.length→acc.take i=(xs.take i).map g→L n (i:F) acc=some (xs.map g):=by
  intro k
  induction k with
  | zero=>
   intro i n acc hi hn ha ht;obtain⟨m,rfl⟩:∃m,n=m+1:=⟨n - 1,by omega⟩;have:i=xs.length:=by omega
   subst this;rw[he];rw[← ha,List.take_length,ha,List.take_length] at ht
   rw[ht]
  | succ k ih=>
   intro i n acc hi hn ha ht;obtain⟨m,rfl⟩:∃m,n=m+1:=⟨n - 1,by omega⟩;have hlt:i<xs.length:=by omega
   rw[hs m i acc hlt ha,AK hlt hl];refine ih (i+1) m _ (by omega) (by omega) (by simpa using ha) ?_;rw[H (by simpa[ha] using hlt),H hlt,List.map_append,← ht];simp[List.take_set_of_le]
 exact key xs.length 0 bigN z (by omega) (Bo hl) hz (by simp)
theorem EK{α:Type} [DecidableEq α]{L:E→F→T Bool}(xs ys:List α)(hl:xs.length≤maxLen)(hlen:xs.length=ys.length)
  (hs:∀(n i:E) (h:i<xs.length) (h2:i<ys.length),L (n+1) (i:F)=if xs[i]=ys[i] then L n (IntKind.i64.wrap ((i:F)+1)) else some false) (he:∀n,L (n+1) (xs.length:F)=some true) :
  L bigN 0=some (decide (xs=ys)):=by
 have:=J9 (L:=L) xs.length (fun i=>decide (xs[i]?=ys[i]?)) hl (fun n i h=>by
  rw[hs n i h (hlen▸h),G h,G (hlen▸h)];simp) he
 rw[this];congr 1
 rw[Bool.eq_iff_iff];simp only[List.all_eq_true,List.mem_range,decide_eq_true_eq];constructor
 ·intro h;apply List.ext_getElem?
  intro i;by_cases hi:i<xs.length
  ·exact h i hi
  ·rw[List.getElem?_eq_none (by omega),List.getElem?_eq_none (by omega)]
 ·rintro rfl i _; rfl
end Go.Vi
