/-
Plain laws. No condition.
-/
import Derived.Test.YtfoohbeloilepaaGreatDD8x
namespace Go.Vi
set_option linter.all false
open List renaming range → E
open Option renaming bind_some → G, some → T
open _root_ renaming Nat → F
def Hx:F→F→List (List F)
 | _,0=> [[]]
 | n,s+1=>(E n).flatMap fun f=>(Hx (n - f - 1) s).map fun r=>f::r.map (f+1+ ·)
def Bm(n b:F):List F:=(E n).filter fun i=>b.testBit i
abbrev iN(l:List F):List Int:=l.map fun k:F=>(k:Int)
theorem A0j:∀n:F,n<7→∀s:F,s<7→Ts n s=T ((Hx n s).map iN):=by decide +kernel
theorem Wx:∀n:F,n<7→∀b:F,b<2 ^ n→OB n b=T (iN (Bm 6 b)):=by decide +kernel
theorem bY:∀n:F,n<7→Bh .i64 1 n=((2 ^ n:F):Int):=by decide +kernel
def sets(n:F):List (List F):=(E (n+1)).reverse.flatMap (Hx n)
def CS(n:F):List F:=(sets n).map fun l=>l.foldl (fun s k=>s+2 ^ k) 0
def rk(b:F):F:=(CS 6).idxOf b
theorem ah:∀n:F,n<7→(CS n).map (Bm 6)=sets n:=by decide +kernel
theorem xd:∀n:F,n<7→(CS n).Pairwise (fun a b=>rk a<rk b):=by decide +kernel
theorem af:∀n:F,n<7→∀b:F,b<2 ^ n→b∈CS n:=by decide +kernel
theorem Sh:∀n:F,n<7→∀b∈CS n,b<2 ^ n:=by decide +kernel
theorem xc:∀n:F,n<7→∀l∈sets n,l.Pairwise (· < ·)∧(∀k∈l,k<n)∧l.length<7:=by decide +kernel
theorem ze:∀a:F,a<64→∀b:F,b<64→((Bm 6 b).length<(Bm 6 a).length→rk a<rk b)∧((Bm 6 a).length<(Bm 6 b).length→rk b<rk a):=by decide +kernel
theorem zf:∀a:F,a<64→∀b:F,b<64→(Bm 6 a).length=(Bm 6 b).length→R9 (iN (Bm 6 a)) (iN (Bm 6 b))=T (decide (rk a<rk b)):=by decide +kernel
def Ht(p:F→Bool)(o:Option F)(i:F):Option F:=if p i=true then(match o with | none=>T i | some c=>if rk i<rk c then T i else T c) else o
def Q1(p:F→Bool)(i:F):Option F→Prop
 | none=>∀j,j<i→p j=false
 | some c=>c<i∧p c=true∧∀j,j<i→p j=true→rk c≤rk j
theorem vq{p:F→Bool}{i:F}{o:Option F}(h:Q1 p i o):Q1 p (i+1) (Ht p o i):=by
 unfold Ht;cases hp:p i with
 | false=>
  rw[if_neg (by simp)];cases o with
  | none=>
   exact fun j hj=>by
    by_cases e:j=i
    ·rw[e,hp]
    ·exact h j (by omega)
  | some c=>
   exact⟨by have:=h.1; omega,h.2.1,fun j hj h1=>by
    by_cases e:j=i
    ·rw[e,hp] at h1; cases h1
    ·exact h.2.2 j (by omega) h1⟩
 | true=>
  rw[if_pos rfl];cases o with
  | none=>
   exact⟨by omega,hp,fun j hj h1=>by
    by_cases e:j=i
    ·rw[e]; exact Nat.le_refl _
    ·rw[h j (by omega)] at h1; cases h1⟩
  | some c=>
   obtain⟨h1,h2,h3⟩:=h;dsimp only
   split
   ·exact⟨by omega,hp,fun j hj hj1=>by
     by_cases e:j=i
     ·rw[e]; exact Nat.le_refl _
     ·have:=h3 j (by omega) hj1; omega⟩
   ·exact⟨by omega,h2,fun j hj hj1=>by
     by_cases e:j=i
     ·rw[e]; omega
     ·exact h3 j (by omega) hj1⟩
theorem Xx{p:F→Bool}:∀{L:List F},L.Pairwise (fun a b=>rk a<rk b)→∀{c:F},c∈L→p c=true→(∀j∈L,p j=true→rk c≤rk j)→L.find? p=T c
 | [],_,c,hc,_,_=>by cases hc
 | a::L,hs,c,hc,hp,hm=>by
  rw[List.pairwise_cons] at hs
  rcases List.mem_cons.1 hc with e|e
  ·subst e; rw[List.find?_cons,hp]
  ·cases ha:p a with
   | true=>
    have h1:=hm a (List.mem_cons_self ..) ha;have h2:=hs.1 c e;omega
   | false=>
    rw[List.find?_cons,ha];exact Xx hs.2 e hp fun j hj=>hm j (List.mem_cons_of_mem _ hj)
theorem vo{p:F→Bool}{n:F}(hn:n<7){o:Option F}(h:Q1 p (2 ^ n) o):(CS n).find? p=o:=by
 cases o with
 | none=>
  rw[List.find?_eq_none];intro b hb;rw[h b (Sh n hn b hb)];simp
 | some c=>exact Xx (xd n hn) (af n hn c h.1) h.2.1 fun j hj h1=>h.2.2 j (Sh n hn j hj) h1
def DA(o:Option F):List Int:=match o with | none=> [] | some c=>iN (Bm 6 c)
theorem V9{n:F}(hn:n<7):2 ^ n≤64:=Nat.pow_le_pow_right (n:=2) (by omega) (show n≤6 by omega)
theorem xu{n:F}(hn:n<7)(q:F→Bool):OD n ((E (2 ^ n)).map q) true true=T (DA ((CS n).find? q)):=by
 have h64:=V9 hn;have hl:((E (2 ^ n)).map q).length=2 ^ n:=by simp
 unfold OD;refine B9 (fun m i=>∀o:Option F,Q1 q i o→FS n true ((E (2 ^ n)).map q) m true (DA o) o.isSome (i:Int)=T (DA ((CS n).find? q))) (Af (n:=2 ^ n) (by omega)) (fun m o ho=> ?_) (fun m i hi ih o ho=> ?_) (Nat.zero_le _) none (fun j hj=>by omega)
 ·rw[FS,if_neg (by simp),vo hn ho];cases o<;>rfl
 ·have st:=vq ho;have hi':i<((E (2 ^ n)).map q).length:=by omega
  have ei:((E (2 ^ n)).map q)[i]=q i:=by simp
  rw[FS,if_pos (decide_eq_true (Int.ofNat_lt.2 hi')),Ac hi',G,ei];have ew:IntKind.i64.wrap ((i:Int)+1)=((i+1:F):Int):=Am hi (Af (by omega));cases hq:q i with
  | false=>
   have e:Ht q o i=o:=by unfold Ht; rw[if_neg (by simp[hq])]
   rw[e] at st
   rw[if_neg (by simp),ew];exact ih o st
  | true=>
   rw[if_pos (by simp),Wx n hn i hi,G];cases o with
   | none=>
    have e:Ht q none i=T i:=by simp[Ht,hq]
    rw[e] at st
    simp only[Option.isSome_none,Lr,Ls,Lt,Jr,Bool.false_eq_true,if_false,if_true,ew];exact ih (T i) st
   | some c=>
    have e:Ht q (T c) i=if rk i<rk c then T i else T c:=by simp[Ht,hq]
    rw[e] at st
    obtain⟨c1,_,_⟩:=ho;have hi64:i<64:=by omega
    have hc64:c<64:=by omega
    have A:=ze i hi64 c hc64;simp only[Option.isSome_some,Lr,Ls,Lt,Jr,Bool.false_eq_true,if_false,if_true,ew,DA,List.length_map,Int.ofNat_lt];by_cases g1:(Bm 6 c).length<(Bm 6 i).length
    ·rw[if_pos (A.1 g1)] at st
     rw[if_pos (by simpa using g1)];exact ih (T i) st
    ·rw[if_neg (by simpa using g1)];by_cases g2:(Bm 6 i).length=(Bm 6 c).length
     ·rw[if_pos (by rw[g2]; simp),zf i hi64 c hc64 g2,G];by_cases g3:rk i<rk c
      ·rw[if_pos g3] at st
       rw[if_pos (by simpa using g3)];exact ih (T i) st
      ·rw[if_neg g3] at st
       rw[if_neg (by simpa using g3)];exact ih (T c) st
     ·have g3:=A.2 (by omega);rw[if_neg (by omega)] at st
      rw[if_neg (by rw[beq_iff_eq]; omega)];exact ih (T c) st
end Go.Vi
