/-
Plain laws. No condition.
-/
import Derived.Test.YtfoohbeloilepaaGreatRR8b
namespace Go.Vi
open Go.Lib
set_option linter.all false
open List renaming range → E
open Option renaming bind_some → G, some → T
open _root_ renaming Nat → F
def GQ:F→F→List (List F)
 | _,0=> [[]]
 | n,s+1=>(E n).flatMap fun f=>(GQ (n - f - 1) s).map fun r=>f::r.map (f+1+ ·)
def Bv(n b:F):List F:=(E n).filter fun i=>b.testBit i
abbrev iN(l:List F):List Int:=l.map fun k:F=>(k:Int)
theorem ur:∀n:F,n<7→∀s:F,s<7→RP n s=T ((GQ n s).map iN):=by decide +kernel
theorem Ux:∀n:F,n<7→∀b:F,b<2 ^ n→Nj n b=T (iN (Bv 6 b)):=by decide +kernel
theorem YM:∀n:F,n<7→B9 .i64 1 n=((2 ^ n:F):Int):=by decide +kernel
def sets(n:F):List (List F):=(E (n+1)).flatMap (GQ n)
def CO(n:F):List F:=(sets n).map fun l=>l.foldl (fun s k=>s+2 ^ k) 0
def rk(b:F):F:=(CO 6).idxOf b
theorem Yc:∀n:F,n<7→(CO n).map (Bv 6)=sets n:=by decide +kernel
theorem tN:∀n:F,n<7→(CO n).Pairwise (fun a b=>rk a<rk b):=by decide +kernel
theorem Yb:∀n:F,n<7→∀b:F,b<2 ^ n→b∈CO n:=by decide +kernel
theorem SK:∀n:F,n<7→∀b∈CO n,b<2 ^ n:=by decide +kernel
theorem tM:∀n:F,n<7→∀l∈sets n,l.Pairwise (· < ·)∧(∀k∈l,k<n)∧l.length<7:=by decide +kernel
theorem uM:∀a:F,a<64→∀b:F,b<64→((Bv 6 a).length<(Bv 6 b).length→rk a<rk b)∧((Bv 6 b).length<(Bv 6 a).length→rk b<rk a):=by decide +kernel
theorem uN:∀a:F,a<64→∀b:F,b<64→(Bv 6 a).length=(Bv 6 b).length→PL (iN (Bv 6 a)) (iN (Bv 6 b))=T (decide (rk a<rk b)):=by decide +kernel
def GN(p:F→Bool)(o:Option F)(i:F):Option F:=if p i=true then(match o with | none=>T i | some c=>if rk i<rk c then T i else T c) else o
def OL(p:F→Bool)(i:F):Option F→Prop
 | none=>∀j,j<i→p j=false
 | some c=>c<i∧p c=true∧∀j,j<i→p j=true→rk c≤rk j
theorem rW{p:F→Bool}{i:F}{o:Option F}(h:OL p i o):OL p (i+1) (GN p o i):=by
 unfold GN;cases hp:p i with
 | false=>
  rw[if_neg (by simp)];cases o with
  | none=>
   exact fun j hj=>by
    by_cases e:j=i
    ·rw[e,hp]
    ·exact h j (by omega)
  | some c=>
   exact⟨by have:=h.1; omega,h.2.1,fun j hj h1=>by
    by_cases e:j=i
    ·rw[e,hp] at h1; cases h1
    ·exact h.2.2 j (by omega) h1⟩
 | true=>
  rw[if_pos rfl];cases o with
  | none=>
   exact⟨by omega,hp,fun j hj h1=>by
    by_cases e:j=i
    ·rw[e]; exact Nat.le_refl _
    ·rw[h j (by omega)] at h1; cases h1⟩
  | some c=>
   obtain⟨h1,h2,h3⟩:=h;dsimp only
   split
   ·exact⟨by omega,hp,fun j hj hj1=>by
     by_cases e:j=i
     ·rw[e]; exact Nat.le_refl _
     ·have:=h3 j (by omega) hj1; omega⟩
   ·exact⟨by omega,h2,fun j hj hj1=>by
     by_cases e:j=i
     ·rw[e]; omega
     ·exact h3 j (by omega) hj1⟩
theorem V6{p:F→Bool}:∀{L:List F},L.Pairwise (fun a b=>rk a<rk b)→∀{c:F},c∈L→p c=true→(∀j∈L,p j=true→rk c≤rk j)→L.find? p=T c
 | [],_,c,hc,_,_=>by cases hc
 | a::L,hs,c,hc,hp,hm=>by
  rw[List.pairwise_cons] at hs
  rcases List.mem_cons.1 hc with e|e
  ·subst e; rw[List.find?_cons,hp]
  ·cases ha:p a with
   | true=>
    have h1:=hm a (List.mem_cons_self ..) ha;have h2:=hs.1 c e;omega
   | false=>
    rw[List.find?_cons,ha];exact V6 hs.2 e hp fun j hj=>hm j (List.mem_cons_of_mem _ hj)
theorem rT{p:F→Bool}{n:F}(hn:n<7){o:Option F}(h:OL p (2 ^ n) o):(CO n).find? p=o:=by
 cases o with
 | none=>
  rw[List.find?_eq_none];intro b hb;rw[h b (SK n hn b hb)];simp
 | some c=>exact V6 (tN n hn) (Yb n hn c h.1) h.2.1 fun j hj h1=>h.2.2 j (SK n hn j hj) h1
def GR(o:Option F):List Int:=match o with | none=> [] | some c=>iN (Bv 6 c)
theorem ZF{n:F}(hn:n<7):2 ^ n≤64:=Nat.pow_le_pow_right (n:=2) (by omega) (show n≤6 by omega)
theorem tb{n:F}(hn:n<7)(q:F→Bool):Nl n ((E (2 ^ n)).map q) false false=T (GR ((CO n).find? fun b=> !q b)):=by
 have h64:=ZF hn;have hl:((E (2 ^ n)).map q).length=2 ^ n:=by simp
 unfold Nl;refine B8 (fun m i=>∀o:Option F,OL (fun b=> !q b) i o→Ff n false ((E (2 ^ n)).map q) m false (GR o) o.isSome (i:Int)=T (GR ((CO n).find? fun b=> !q b))) (Ag (n:=2 ^ n) (by omega)) (fun m o ho=> ?_) (fun m i hi ih o ho=> ?_) (Nat.zero_le _) none (fun j hj=>by omega)
 ·rw[Ff,if_neg (by simp),rT hn ho];cases o<;>rfl
 ·have st:=rW ho;have hi':i<((E (2 ^ n)).map q).length:=by omega
  have ei:((E (2 ^ n)).map q)[i]=q i:=by simp
  rw[Ff,if_pos (decide_eq_true (Int.ofNat_lt.2 hi')),Af hi',G,ei];have ew:IntKind.i64.wrap ((i:Int)+1)=((i+1:F):Int):=An hi (Ag (by omega));cases hq:q i with
  | true=>
   have e:GN (fun b=> !q b) o i=o:=by unfold GN; rw[if_neg (by simp[hq])]
   rw[e] at st
   rw[if_neg (by simp),ew];exact ih o st
  | false=>
   rw[if_pos (by simp),Ux n hn i hi,G];cases o with
   | none=>
    have e:GN (fun b=> !q b) none i=T i:=by simp[GN,hq]
    rw[e] at st
    rw[if_neg (by simp)];simp only[Kk,Kl,Km,IF,Bool.false_eq_true,if_false,if_true,ew];exact ih (T i) st
   | some c=>
    have e:GN (fun b=> !q b) (T c) i=if rk i<rk c then T i else T c:=by simp[GN,hq]
    rw[e] at st
    obtain⟨c1,_,_⟩:=ho;have hi64:i<64:=by omega
    have hc64:c<64:=by omega
    have A:=uM i hi64 c hc64;simp only[Option.isSome_some,Kk,Kl,Km,IF,Bool.false_eq_true,if_false,if_true,ew,GR,List.length_map,Int.ofNat_lt];by_cases g1:(Bv 6 i).length<(Bv 6 c).length
    ·rw[if_pos (A.1 g1)] at st
     rw[if_pos (by simpa using g1)];exact ih (T i) st
    ·rw[if_neg (by simpa using g1)];by_cases g2:(Bv 6 i).length=(Bv 6 c).length
     ·rw[if_pos (by rw[g2]; simp),uN i hi64 c hc64 g2,G];by_cases g3:rk i<rk c
      ·rw[if_pos g3] at st
       rw[if_pos (by simpa using g3)];exact ih (T i) st
      ·rw[if_neg g3] at st
       rw[if_neg (by simpa using g3)];exact ih (T c) st
     ·have g3:=A.2 (by omega);rw[if_neg (by omega)] at st
      rw[if_neg (by rw[beq_iff_eq]; omega)];exact ih (T c) st
end Go.Vi
