/-
Plain law. No condition.
-/
import Derived.Test.YtfoohbeloilepaaGreatRR8d
namespace Go.Vi
open Go.Lib
set_option linter.all false
open Option renaming bind_some → T
theorem Zs:∀(l:List (List UInt8)),(∀w∈l,w.length≤8)→(joinTail [43] l).length≤9*l.length
 | [],_=>by simp[joinTail]
 | a::l,H=>by
  have h1:=H a (by simp);have h2:=Zs l fun w hw=>H w (List.mem_cons_of_mem _ hw)
  simp only[joinTail,List.map_cons,List.flatten_cons,List.length_append,List.length_cons,List.length_nil] at *
  omega
theorem qp:∀(l:List (List UInt8)),(∀w∈l,w.length≤8)→(join l [43]).length≤9*l.length
 | [],_=>by simp[join_nil]
 | a::l,H=>by
  have h1:=H a (by simp);have h2:=Zs l fun w hw=>H w (List.mem_cons_of_mem _ hw)
  rw[join_cons,List.length_append,List.length_cons];omega
theorem XL{h:X4}(hh:AO h=true){cs:List Xb}(h6:cs.length≤6)(hcs:∀a∈cs,Bt h a=true){l:List Nat}(hl:EN cs.length l):∃r,Gf cs (iN l) h bigN 0 []=some r∧FV cs (iN l) h bigN 0 []=some r:=by
 obtain⟨l1,l2,l3⟩:=hl;have el:(iN l).length=l.length:=by simp
 refine B8 (fun n i=>∀v:List (List UInt8),v.length=i→(∀w∈v,w.length≤8)→∃r,Gf cs (iN l) h n (i:Int) v=some r∧FV cs (iN l) h n (i:Int) v=some r) (Ag (n:=l.length) (by omega)) (fun n v hv hw=> ?_) (fun n i hi ih v hv hw=> ?_) (Nat.zero_le _) [] rfl (fun w hw=>by cases hw)
 ·have hd:decide ((l.length:Int)<((iN l).length:Int))=false:=by simp
  rw[Gf,FV];simp only[hd,Bool.false_eq_true,if_false];have hj:=qp v hw;split
  ·exact⟨_,rfl,rfl⟩
  ·rw[qo (Ag (by omega)) (by omega),pq (by omega) (by omega)];exact⟨_,rfl,rfl⟩
 ·have hi':i<(iN l).length:=by omega
  have ei:(iN l)[i]=(l[i]:Int):=by simp
  have hk:=l2 _ (List.getElem_mem hi);have ha:=hcs _ (UG hk);simp only[Bt,Bool.and_eq_true] at ha
  obtain⟨s1,s2⟩:=GC ha.1;have hso:=(Kq (En hh).2.2.1).2 _ s2;simp only[Ck,DU,KH,Bool.and_eq_true,decide_eq_true_eq] at hso
  have hn:=hso.1.1.2;have hap:∀w:List UInt8,A3 v.length ([w]:List (List UInt8)).length 16=true:=fun w=>AN (by omega) (by simp) (by omega)
  rw[Gf,FV];simp only[decide_eq_true (Int.ofNat_lt.2 hi'),if_true,Af hi',ei,UF hk,s1,T,hap,An hi (Ag (n:=l.length) (by omega))]
  exact ih _ (by simp[hv]) fun w hw'=>by
   rcases List.mem_append.1 hw' with e|e
   ·exact hw w e
   ·rw[List.mem_singleton] at e; subst e; omega
theorem uA{h:X4}(s:HSmall h){cs:List Xb}:∃r,MY h cs=some r∧Ly h cs=some r:=by
 obtain⟨b,b1,b2,b3⟩:=gT s (cs:=cs);unfold MY Ly;rw[b1,b2,T,T];cases b with
 | false=>exact⟨_,rfl,rfl⟩
 | true=>
  obtain⟨hh,h6,hcs⟩:=b3 rfl;rw[if_pos rfl,if_pos rfl,vV s hh b2 b1 h6 hcs,pw s hh b2 h6,T,T];cases hf:(CO cs.length).find? (H4 h cs) with
  | none=>exact XL hh h6 hcs (l:= []) ⟨List.Pairwise.nil,(fun k hk=>by cases hk),by simp⟩
  | some c=>exact XL hh h6 hcs (Uy (by omega) (SK _ (by omega) c (List.mem_of_find?_eq_some hf)))
theorem law_FnExactRefusalLine(a:X4)(cs:List Xb)(ok:DsOk [.ag (X4.row a),.sc (.sl (List.map Xb.row cs))]):Pl a cs=some true:=by
 unfold Pl;obtain⟨q1,q2,q3,q4,q5,s⟩:=oT ok.ag.1;have hcm:=GE (row:=Xb.row) ok.ag.2.sc.1;obtain⟨r,e,k⟩:=wK (a:=a) (l:=1048576) (by omega) (by omega) q1 q2 q3 q4 q5 s;by_cases hr:r<0
 ·simp[e,hr]
 obtain⟨b0,b1,b2,b3,b4,b5,b6⟩:=k (by omega)
 have hsz:Mg cs r=some (if r - (cs.length:Int)<0 then -1 else r - (cs.length:Int)):=by
  unfold Mg;rw[Az] at hcm
  rw[Ap (by omega) (by omega)];split<;>split<;>simp_all
 by_cases hc:r - (cs.length:Int)<0
 ·simp[e,hr,hsz,hc]
 have kc:cs.length≤1048576:=by omega
 obtain⟨x,x1,x2⟩:=uA s (cs:=cs);simp only[e,hr,hsz,hc,T,decide_false,Bool.false_eq_true,if_false,wg b1 b2 b3 b4 b5 b6,wa kc,x1,x2,beq_self_eq_true,if_true,lC q1 q2 q3 q4 q5 s.mv,kw hcm]
end Go.Vi
