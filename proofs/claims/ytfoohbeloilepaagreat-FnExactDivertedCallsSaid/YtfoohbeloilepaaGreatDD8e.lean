/-
The law of DivertedCalls. No condition.
-/
import Derived.Test.YtfoohbeloilepaaGreatDD8d
namespace Go.Vi
set_option linter.all false
open Option renaming bind_some → T
theorem law_FnExactDivertedCalls(a:X5)(cs:List Xb)(cl:List X9)(ok:DsOk [.ag (X5.row a),.sc (.sl (List.map Xb.row cs)),.sc (.sl (List.map X9.row cl))]):Qx a cs cl=some true:=by
 unfold Qx;obtain⟨q1,q2,q3,q4,q5,s⟩:=sj ok.ag.1;have hcm:=FX (row:=Xb.row) ok.ag.2.sc.1;have hlm:=FX (row:=X9.row) ok.ag.2.sc.2.sc.1;obtain⟨r,e,k⟩:=A2e (a:=a) (l:=1048576) (by omega) (by omega) q1 q2 q3 q4 q5 s;by_cases hr:r<0
 ·simp[e,hr]
 obtain⟨b0,b1,b2,b3,b4,b5,b6⟩:=k (by omega)
 have hsz:Nu cs r=some (if r - (cs.length:Int)<0 then -1 else r - (cs.length:Int)):=by
  unfold Nu;rw[Az] at hcm
  rw[Ao (by omega) (by omega)];split<;>split<;>simp_all
 by_cases hc:r - (cs.length:Int)<0
 ·simp[e,hr,hsz,hc]
 have kc:cs.length≤1048576:=by omega
 obtain⟨r3,e3,k3⟩:=A2c (xs:=cl) (l:=r - (cs.length:Int)) (by omega) (by omega) hlm;by_cases hr3:r3<0
 ·simp[e,hr,hsz,hc,e3,hr3]
 obtain⟨_,kl⟩:=k3 (by omega);obtain⟨x,x1,x2,x3⟩:=nl s (cs:=cs) (cl:=cl);obtain⟨m1,f1,g1,g2⟩:=we a b1 b2 b3 b4 b5 b6
 obtain⟨m2,f2,g3,g4⟩:=Hh (Lm:=Fv) 5 (by omega) (fun n i k acc hi h0 h1=>⟨_,by
  simp (disch:=omega) only[Fv,Ag,hi,decide_true,if_true,Ac hi,T,Int.toNat_natCast,Jy hi,List.set_set,Ao,ZO];rfl⟩) (fun n k acc=>by simp[Fv]) cs m1.1 g1 (by omega) kc
 have f2:KM cs m1.1=some m2:=f2
 obtain⟨m3,f3,g5,g6⟩:=Hh (Lm:=Fw) 3 (by omega) (fun n i k acc hi h0 h1=>⟨_,by
  simp (disch:=omega) only[Fw,Ag,hi,decide_true,if_true,Ac hi,T,Int.toNat_natCast,Jy hi,List.set_set,Ao,Ug];rfl⟩) (fun n k acc=>by simp[Fw]) cl m2.1 g3 (by omega) kl
 have f3:KP cl m2.1=some m3:=f3;obtain⟨w,w1,w2,w3⟩:=wg x.1 1 (by omega) (by omega) (by omega);have ea:Fu x.1 x.1=some true:=by simp[Xt (xs:=x.1) (ys:=x.1) (Af (by omega))]
 have ec:KK cl cl=some true:=by simp[pR (xs:=cl) (ys:=cl) hlm]
 have n3:¬m3.1<0:=by omega
 have n4:¬1+1*(x.1.length:Int)<0:=by omega
 simp only[e,hr,hsz,hc,e3,hr3,T,decide_false,Bool.false_eq_true,if_false,A20 b1 b2 b3 b4 b5 b6,A2u kc,A2w kl,x1,x2,ea,ec,if_true,beq_self_eq_true,bne_self_eq_false,pY q1 q2 q3 q4 q5 s.mv,pP hcm,f1,f2,f3,n3,w1,w3,n4]
end Go.Vi
