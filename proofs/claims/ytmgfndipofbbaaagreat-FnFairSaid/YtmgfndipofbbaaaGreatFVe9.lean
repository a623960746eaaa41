/-
Plain law. No condition.
-/
import Derived.Test.YtmgfndipofbbaaaGreatFVd9
namespace Go.Vi
set_option linter.all false
open Option renaming bind_some → T
open Bool renaming false_eq_true → E
theorem C5w{l:List Int}(hl:l.length≤maxLen):A3p l=some (gr l):=
 C6q l hl (fun v=>some v) (F:=fun n v i=>U2 l n v i) fun n i v=>by
  show U2 l (n+1) v (i:Int)=_
  rw[U2]
  by_cases h:i<l.length
  ·simp only[D3,h,decide_true,if_true,F1 h,T,dif_pos,I1 h hl]
  ·simp only[D3,h,decide_false,E,if_false,dif_neg,not_false_eq_true]
def B69(h:X4)(cs:List X9)(pl:List X0):Xh:=⟨gr (tot (prs h cs pl)),A6l pl⟩
theorem C6c{h:X4}(hh:N1 h=true){cs:List X9}(hc:CallsGood h cs){pl:List X0}(hp:B1u pl)(hl:pl.length≤cs.length):A0b pl h cs=some (B69 h cs pl):=by
 have h6:=hc.six
 unfold A0b
 rw[B78 hh hc hp hl,T]
 have h4:(tot (prs h cs pl)).length≤maxLen:=by rw[A7r,E6]; omega
 exact C6q (tot (prs h cs pl)) h4 (fun v=>some (⟨v,A6l pl⟩:Xh)) (F:=fun n v i=>Q1 pl ⟨tot (prs h cs pl),tot (A6p (prs h cs pl))⟩ n v i) fun n i v=>by
  show Q1 pl ⟨tot (prs h cs pl),tot (A6p (prs h cs pl))⟩ (n+1) v (i:Int)=_
  rw[Q1]
  by_cases h:i<(tot (prs h cs pl)).length
  ·simp only[D3,h,decide_true,if_true,F1 h,T,dif_pos,I1 h h4]
  ·simp only[D3,h,decide_false,E,if_false,dif_neg,not_false_eq_true,B40 (l:=pl) (by omega) hp,T]
theorem C5k{h:X4}(s:HSmall h)(hh:N1 h=true){cs:List X9}(hc:CallsGood h cs){os:List (List X0)}(e1:P7 h cs=some os)(ho:OptsOf h cs os):∃ch lw f,A28 h cs=some (ch,lw.i0,f)∧Best h os (B69 h cs) ch lw f:=by
 have h6:=hc.six
 have hlen:=ho.len
 obtain⟨ch,lw,f,e2,e3⟩:=B3d s hh hc ho (w:=fun z0=>A0b z0 h cs) (wv:=B69 h cs) (fun pl ch hch=>by
  have:=hch.2.1
  exact C6c hh hc (A3q ho hch) (by omega)) fun pl ch o c h1 h2=>by
  have hco:=A3q ho h2 o (by simp)
  have hl:pl.length<cs.length:=by have:=h2.2.1; simp at this; omega
  have hg:gr (tot (prs h cs pl))≤gr (tot (prs h cs (pl++ [o]))):=D9p (A7r _) (A7r _) fun L hL=>by
   rw[C3y h hl]
   exact D5w _ hco.1 hL
  simp only[wle,wlt,B69,B3r]
  omega
 exact⟨ch,lw,f,by simp only[A28,A6w s hh hc,T,if_true,e1,e2],e3⟩
theorem law_FnFair(a0:List Int)(ok:DsOk [.sc (.sl (List.map r8 a0))]):A6f a0=some true:=by
 unfold A6f
 by_cases hlen:(decide ((1048576:Int)<(a0.length:Int)))=true
 ·rw[if_pos hlen]
 rw[if_neg hlen]
 have hl:a0.length≤maxLen:=by
  simp only[decide_eq_true_eq] at hlen
  rw[E6]; omega
 obtain⟨h,cs,e1,s,hh,hc,hc1⟩:=C4p hl
 obtain⟨os,e0,ho⟩:=C1k s hh hc
 obtain⟨ch,lw,f,e2,B⟩:=C5s s hh hc e0 ho
 obtain⟨ch',lw',f',e3,B'⟩:=C5k s hh hc e0 ho
 have e4:=A6w s hh hc
 have hff:f=f':=by
  cases hf:f with
  | true=>
   obtain⟨pl,p1,p2,p3,_⟩:=B.plan hf
   exact(B'.least pl _ p1 p2 p3).1.symm
  | false=>
   cases hf':f' with
   | false=>rfl
   | true=>
    obtain⟨pl,p1,p2,p3,_⟩:=B'.plan hf'
    rw[(B.least pl _ p1 p2 p3).1] at hf
    exact absurd hf (by simp)
 subst hff
 simp only[e1,e2,e3,e4,T,if_true,beq_self_eq_true]
 cases f with
 | false=>
  simp only[E,if_false,B'.emp rfl]
  rfl
 | true=>
  obtain⟨pl,p1,p2,p3,p4⟩:=B.plan rfl
  obtain⟨ql,q1,q2,q3,q4⟩:=B'.plan rfl
  have hlen:=ho.len
  have h6:=hc.six
  have c1:=B40 (l:=pl) (by omega) (A3q ho p1)
  have c2:=B40 (l:=ql) (by omega) (A3q ho q1)
  have w1:=(B.least ql _ q1 q2 q3).2
  have w2:=(B'.least pl _ p1 p2 p3).2
  rw[p4] at w1
  simp only[wle,wlt,C1t] at w1
  simp only[wle,wlt,B69] at w2
  have h4:∀ks:List (Nat × Int),(tot ks).length≤maxLen:=fun ks=>by rw[A7r,E6]; omega
  have g1:=B3o s hh hc ho p1 p2 p3
  have g2:=B3o s hh hc ho q1 q2 q3
  have hne:¬A6l ql<A6l pl:=by omega
  have hq:lw'.i0=gr (tot (prs h cs ql)):=by rw[q4]; rfl
  simp only[if_true,C0i s hh hc ho p1 p2,C0i s hh hc ho q1 q2,g1,g2,c1,c2,T,hne,decide_false,E,if_false,C5w (h4 _),hq,beq_self_eq_true]
  rw[hq] at w2
  simp only[Option.some.injEq,decide_eq_true_eq]
  omega
end Go.Vi
