/-
Plain laws. No condition.
-/
import Derived.Test.YtfmhammmkkbonaaGreatDoorCC14a
import Derived.KernelRfl
namespace Go.Vi
open Go.Lib
set_option linter.all false
open Option renaming bind_some → W, some → G
open List renaming length_nil → X, length_append → Y, length_cons → Z, mem_append_right → zA, mem_append → zB, replicate_zero → zC, nil_append → zD, mem_append_left → zE, mem_cons → zG, mem_singleton → zH, drop_eq_getElem_cons → zI, replicate → zJ, not_mem_nil → zK, drop_zero → zM, append_assoc → zO, drop_length → zP, all_eq_true → zQ
open Nat renaming le_refl → B, mul_le_mul_left → zL
open Bool renaming and_eq_true → C, false_eq_true → zN, true → T, false → E
open Int renaming toNat_zero → zF
open IntKind renaming wrap → zR
open _root_ renaming List → N, Int → O, Nat → Q, UInt8 → U, rfl → V
theorem Wd{n:Q}(h:n≤1048576):n≤maxLen:=by rw[Bo]; omega
theorem dY{m n b:Q}(h:m+n≤2000000)(hb:b≤1000):A4 m n b=T:=by
 unfold A4;rw[decide_eq_true_eq];have:(m+n)*b≤2000000*1000:=Nat.mul_le_mul h hb;omega
theorem VH{α:Type}{m n b:Q}(h:m+n≤2000000)(hb:b≤1000)(x y:α):(if A4 m n b=T then x else y)=x:=by rw[if_pos (dY h hb)]
theorem Sg(c:U):∀(s cur:N U),(BP c cur s).length≤s.length+1
 | [],cur=>by simp[BP]
 | b::r,cur=>by
  unfold BP;split
  ·have:=Sg c r []; simp; omega
  ·have:=Sg c r (cur++ [b]); simp; omega
theorem Sh(c:U):∀(s cur x:N U),x∈BP c cur s→x.length≤cur.length+s.length
 | [],cur,x,h=>by simp[BP] at h; subst h; simp
 | b::r,cur,x,h=>by
  unfold BP at h;split at h
  ·rcases zG.1 h with rfl|h
   ·simp
   ·have:=Sh c r [] x h; simp at *; omega
  ·have:=Sh c r (cur++ [b]) x h; simp at *; omega
theorem Y5(c:U)(s cur:N U):BP c cur s≠ []:=by
 cases s with
 | nil=>simp[BP]
 | cons b r=>
  unfold BP;split
  ·simp
  ·exact Y5 c r _
termination_by s.length
theorem Y6(c:U):∀(w cur r:N U),(∀b∈w,b≠c)→BP c cur (w++c::r)=(cur++w)::BP c [] r
 | [],cur,r,_=>by simp[BP]
 | b::w,cur,r,h=>by
  rw[List.cons_append,BP,if_neg (h b (by simp)),Y6 c w (cur++ [b]) r fun x hx=>h x (by simp[hx])];simp
theorem Y4(c:U):∀(w cur:N U),(∀b∈w,b≠c)→BP c cur w= [cur++w]
 | [],cur,_=>by simp[BP]
 | b::w,cur,h=>by
  rw[BP,if_neg (h b (by simp)),Y4 c w (cur++ [b]) fun x hx=>h x (by simp[hx])];simp
theorem Y7(c:U):∀(l:N (N U)),l≠ []→(∀w∈l,∀b∈w,b≠c)→split c (join l [c])=l
 | [],h,_=>absurd rfl h
 | [w],_,h=>by rw[join_one,split,Y4 c w [] (h w (by simp))]; simp
 | w::v::r,_,h=>by
  have e:join (w::v::r) [c]=w++c::join (v::r) [c]:=by rw[join_cons,join_cons]; simp[joinTail]
  rw[e,split,Y6 c w [] _ (h w (by simp))];have:=Y7 c (v::r) (by simp) fun x hx=>h x (by simp only[zG] at hx ⊢; exact .inr hx)
  rw[split] at this
  rw[this];simp
theorem Qk{n a b:Q}(h1:a≤b)(h2:b≤n):bnd (n:O) (b:O) (a:O) n=G (a,b):=by
 unfold bnd;rw[if_pos ⟨by omega,by omega,by omega,by omega⟩];simp
theorem uJ{s:N U}{a i:Q}(h1:a≤i)(h2:i<s.length):(s.drop a).take (i+1 - a)=(s.drop a).take (i - a)++ [s[i]]:=by
 rw[show i+1 - a=(i - a)+1 by omega,List.take_succ_eq_append_getElem (by simp; omega)];simp[show a+(i - a)=i by omega]
theorem wE(L:Q→O→O→N (N U)→Option (N (N U)))(s:N U)(c:U)(hl:s.length≤1048576)
  (hs:∀(n i a:Q) (acc:N (N U)) (hi:i<s.length),a≤i→acc.length≤i→L (n+1) (a:O) (i:O) acc=if s[i]=c then L n (zR .i64 ((i:O)+1)) (zR .i64 ((i:O)+1)) (acc++ [(s.drop a).take (i - a)]) else L n (a:O) (zR .i64 ((i:O)+1)) acc)
  (he:∀(n a:Q) acc,a≤s.length→acc.length≤s.length→L (n+1) (a:O) (s.length:O) acc=G (acc++ [(s.drop a).take (s.length - a)])):L bigN 0 0 []=G (split c s):=by
 have key:∀(k i a n:Q) (acc:N (N U)),i+k=s.length→k<n→a≤i→acc.length≤i→L n (a:O) (i:O) acc=G (acc++BP c ((s.drop a).take (i - a)) (s.drop i)):=by
  intro k
  induction k with
  | zero=>
   intro i a n acc hi hn ha hc;obtain⟨m,rfl⟩:∃m,n=m+1:=⟨n - 1,by omega⟩;have:i=s.length:=by omega
   subst this;rw[he m a acc ha hc,zP,BP]
  | succ k ih=>
   intro i a n acc hi hn ha hc;obtain⟨m,rfl⟩:∃m,n=m+1:=⟨n - 1,by omega⟩;have hlt:i<s.length:=by omega
   rw[hs m i a acc hlt ha hc,zI hlt,BP,Ak hlt (Wd hl)];by_cases e:s[i]=c
   ·rw[if_pos e,if_pos e,ih (i+1) (i+1) m _ (by omega) (by omega) (B _) (by simp; omega)];simp
   ·rw[if_neg e,if_neg e,ih (i+1) a m _ (by omega) (by omega) (by omega) (by omega),uJ ha hlt]
 have:=key s.length 0 0 bigN [] (by omega) (Aj (Wd hl)) (B _) (B _);simpa[split] using this
theorem qF(c b:U):decide ((0:O)≤indexByte [c] b)=decide (c=b):=by
 by_cases h:c=b
 ·subst h; simp[indexByte]
 ·have h':(c==b)=E:=by simpa using h
  simp[indexByte,h,h']
theorem eJ(b:U):((b.toNat:O)).toNat.toUInt8=b:=by simp
theorem px{s:N U}{c:U}(hl:s.length≤1048576):HJ s [c]=G (split c s):=by
 unfold HJ;refine wE (Gg s [c]) s c hl (fun n i a acc hi ha hc=> ?_) (fun n a acc ha hc=> ?_)
 ·have hb:bnd (s.length:O) (i:O) (a:O) s.length=G (a,i):=Qk ha (by omega);rw[Gg];simp only[Ag,hi,decide_true,if_true,Aa hi,W,Ox,eJ,qF,LA];by_cases e:s[i]=c
  ·rw[if_pos (decide_eq_true e.symm),if_pos e,hb];simp only[W];rw[VH (by simp; omega) (by omega)]
  ·have e':¬decide (c=s[i])=T:=by simpa using fun h=>e h.symm
   rw[if_neg e',if_neg e]
 ·have hb:bnd (s.length:O) (s.length:O) (a:O) s.length=G (a,s.length):=Qk ha (B _);rw[Gg];simp only[Int.lt_irrefl,decide_false,zN,if_false,hb,W];rw[VH (by simp; omega) (by omega)]
theorem uI{c:U}{s:N U}(hl:s.length≤1048576):(split c s).length≤1100000∧∀x∈split c s,x.length≤1048576:=by
 refine⟨?_,fun x hx=> ?_⟩
 ·have:=Sg c s [];unfold split;omega
 ·have:=Sh c s [] x hx;simp at this
  omega
def Ry(s:N U):N (N U):=if(split 10 s).getD ((split 10 s).length - 1) []= [] then(split 10 s).take ((split 10 s).length - 1) else split 10 s
theorem sF{q:N (N U)}(hq:q≠ [])(hn:q.length≤1100000):((ix q (zR .i64 ((q.length:O) - (1:O)))).bind fun x2=>
  if(x2==([]:N U))=T then((bnd (q.length:O) (zR .i64 ((q.length:O) - (1:O))) (0:O) q.length).bind fun p4=>G ((q.drop p4.1).take (p4.2 - p4.1))) else G q) =
  G (if q.getD (q.length - 1) []= [] then q.take (q.length - 1) else q):=by
 have h0:0<q.length:=List.length_pos_iff.2 hq
 have hw:zR .i64 ((q.length:O) - 1)=((q.length - 1:Q):O):=by
  rw[Ah (by omega) (by omega)]; omega
 have hlt:q.length - 1<q.length:=by omega
 have hb:bnd (q.length:O) ((q.length - 1:Q):O) (0:O) q.length=G (0,q.length - 1):=Qk (a:=0) (Nat.zero_le _) (by omega);rw[hw,Aa hlt,hb];simp only[W,List.getD_eq_getElem?_getD,List.getElem?_eq_getElem hlt,Option.getD_some,beq_iff_eq,zM,Nat.sub_zero];split<;>rfl
theorem py{s:N U}(hl:s.length≤1048576):LB s=G (Ry s):=by
 unfold LB Ry;rw[px hl];exact sF (Y5 10 s []) (uI hl).1
abbrev Au:Q:=20000000000
structure Inv (c:X6):Prop where
 hh:Ap c.Harbour=T
 hc:CallsGood c.Harbour c.Calls
 ds:c.Desk.Starts.length≤6
 dc:c.Desk.Cleared.length=c.Desk.Starts.length
theorem D5{h:X1}(hh:Ap h=T):D3 h.Forecast=T∧AQ h.Chart=T∧FA h.Fleet=T∧h.Crew.Moves.length=64:=by
 simp only[Ap,C] at hh
 obtain⟨h1,h2,h3,h4,h5⟩:=hh;simp only[IZ,C,decide_eq_true_eq] at h5
 exact⟨h1,h2,h3,h5.2.2.2.1⟩
theorem Ia{h:X1}(hh:Ap h=T):HSmall h:=by
 obtain⟨h1,h2,h3,h4⟩:=D5 hh;exact⟨(BD h2).2.2.1,fun x hx=>Iy ((DK h3).2 x hx),A5 (by omega)⟩
theorem TU{l:N X3}(hl:l.length≤1000):E5 l=G l:=by
 unfold E5 B2;rw[if_pos ⟨by omega,by omega,by omega,by omega⟩];simp only[W,zF,zC,zD];rw[if_pos (by simp only[A4,X,decide_eq_true_eq]; omega)]
theorem fp{l:N Xa}(hl:l.length≤1000):LO l=G l:=by
 unfold LO B2;rw[if_pos ⟨by omega,by omega,by omega,by omega⟩];simp only[W,zF,zC,zD];rw[if_pos (by simp only[A4,X,decide_eq_true_eq]; omega)]
theorem fq{l:N X7}(hl:l.length≤1000):LP l=G l:=by
 unfold LP B2;rw[if_pos ⟨by omega,by omega,by omega,by omega⟩];simp only[W,zF,zC,zD];rw[if_pos (by simp only[A4,X,decide_eq_true_eq]; omega)]
theorem ft{l:N X8}(hl:l.length≤1000):LQ l=G l:=by
 unfold LQ B2;rw[if_pos ⟨by omega,by omega,by omega,by omega⟩];simp only[W,zF,zC,zD];rw[if_pos (by simp only[A4,X,decide_eq_true_eq]; omega)]
theorem fo{l:N Xf}(hl:l.length≤1000):LM l=G l:=by
 unfold LM B2;rw[if_pos ⟨by omega,by omega,by omega,by omega⟩];simp only[W,zF,zC,zD];rw[if_pos (by simp only[A4,X,decide_eq_true_eq]; omega)]
theorem fu{l:N Xc}(hl:l.length≤1000):LR l=G l:=by
 unfold LR B2;rw[if_pos ⟨by omega,by omega,by omega,by omega⟩];simp only[W,zF,zC,zD];rw[if_pos (by simp only[A4,X,decide_eq_true_eq]; omega)]
theorem fk{l:N Bool}(hl:l.length≤1000):LS l=G l:=by
 unfold LS B2;rw[if_pos ⟨by omega,by omega,by omega,by omega⟩];simp only[W,zF,zC,zD];rw[if_pos (by simp only[A4,X,decide_eq_true_eq]; omega)]
theorem KR{h:X1}(hh:Ap h=T):Bs h=G h:=by
 obtain⟨h1,h2,h3,h4⟩:=D5 hh;have a1:=(Md h1);have a2:=BD h2;have a3:=(DK h3).1
 have a4:h.Forecast.Tide.Parts.length≤4:=by
  have:=a1.1;simp only[FS,C,decide_eq_true_eq] at this
  exact this.2.1
 simp only[Bs,Og,Oh,fo (l:=h.Forecast.Tide.Parts) (by omega),fu (l:=h.Forecast.Surges) (by omega),fp (l:=h.Chart.Points) (by omega),fq (l:=h.Chart.Segments) (by omega),ft (l:=h.Fleet) (by omega),IX (l:=h.Crew.Moves) (by omega),W]
theorem U3{d:Xo}(h1:d.Starts.length≤6)(h2:d.Cleared.length=d.Starts.length):JC d=G d:=by
 simp only[JC,IX (l:=d.Starts) (by omega),fk (l:=d.Cleared) (by omega),W]
theorem Qu{c:X6}(I:Inv c):Gm c=G c:=by
 have h6:=I.hc.six;simp only[Gm,KR I.hh,U3 I.ds I.dc,TU (l:=c.Calls) (by omega),W]
theorem Rm{i:O}{n m:Q}(h:n≤m)(e:idx i n=T):idx i m=T:=Ds.2 ⟨(Ds.1 e).1,by have:=(Ds.1 e).2; omega⟩
theorem fU{h h':X1}(hf:h.Fleet.length≤h'.Fleet.length)(hp:h.Chart.Points.length≤h'.Chart.Points.length){a:X3}(e:Ck h a=T):Ck h' a=T:=by
 simp only[Ck,C] at e ⊢
 exact⟨Rm hf e.1,Rm hp e.2.1,Rm hp e.2.2.1,e.2.2.2⟩
def BQ(c:X6)(r:Option (N U × X6)):Prop:=∃o c',r=G (o,c')∧Inv c'∧o.length≤Au
theorem Di{c:X6}(I:Inv c){o:N U}(h:o.length≤Au):BQ c (G (o,c)):=⟨o,c,rfl,I,h⟩
theorem Sc{c:X6}{h:X1}(I:Inv c)(s:HSmall h)(hf:c.Harbour.Fleet.length≤h.Fleet.length)(hp:c.Harbour.Chart.Points.length≤h.Chart.Points.length):BQ c (Bk c h):=by
 unfold Bk;rw[Mr s,W];cases e:Ap h with
 | false=>exact⟨_,c,rfl,I,by simp[Au]⟩
 | true=>exact⟨_,⟨h,c.Calls,c.Desk⟩,rfl,⟨e,⟨fun a ha=>fU hf hp (I.hc.ok a ha),I.hc.ne,I.hc.six⟩,I.ds,I.dc⟩,by simp[Au]⟩
theorem J1{c:X6}{r:Option (N U × X6)}(h:BQ c r):BQ c (r.bind fun r=>G (r.1,r.2)):=by
 obtain⟨o,c',rfl,h2⟩:=h;exact⟨o,c',V,h2⟩
theorem MZ{c:X6}(I:Inv c)(F:X1→X1)(k:X1→Q)(s:∀h,HSmall h→HSmall (F h))(hf:∀h,h.Fleet.length≤(F h).Fleet.length)(hp:∀h,h.Chart.Points.length≤(F h).Chart.Points.length)(hk:∀h,Ap h=T→k h≤10){b:Q}(hb:b≤100) :
  BQ c ((Bs c.Harbour).bind fun r=>if A4 (k r) 1 b then(Bk c (F r)).bind fun r=>G (r.1,r.2) else none):=by
 rw[KR I.hh,W,if_pos (AR (by have:=hk _ I.hh; omega) (by omega) (by omega))];exact J1 (Sc I (s _ (Ia I.hh)) (hf _) (hp _))
theorem N0{c:X6}(I:Inv c)(F:X1→X1)(s:∀h,HSmall h→HSmall (F h))(hf:∀h,h.Fleet.length≤(F h).Fleet.length)(hp:∀h,h.Chart.Points.length≤(F h).Chart.Points.length) :
  BQ c ((Bs c.Harbour).bind fun r=>(Bk c (F r)).bind fun r=>G (r.1,r.2)):=by
 rw[KR I.hh,W];exact J1 (Sc I (s _ (Ia I.hh)) (hf _) (hp _))
theorem fV{h:X1}(s:HSmall h)(hh:Ap h=T){cs:N X3}:∃b,BR h cs=G b∧(b=T→CallsGood h cs):=by
 unfold BR;rw[Mr s,hh,W,if_pos rfl];by_cases h6:cs.length≤6
 ·rw[if_neg (by simp; omega)]
  have key:∀(k i n:Q),i+k=cs.length→k<n→(∀j (hj:j<cs.length),j<i→Ck h cs[j]=T)→(∀p q (hp:p<cs.length) (hq:q<cs.length),p<q→q<i→cs[p].Ship≠cs[q].Ship)→
    ∃b,DH cs h n (i:O)=G b∧(b=T→CallsGood h cs):=by
   intro k
   induction k with
   | zero=>
    intro i n hi hn h1 h2;obtain⟨q,rfl⟩:=sn (n:=n) (by omega);have:i=cs.length:=by omega
    subst this;refine⟨T,by simp[DH],fun _=>⟨fun a ha=> ?_,fun p q hp hq hpq=>h2 p q hp hq hpq hq,h6⟩⟩;obtain⟨j,hj,rfl⟩:=List.getElem_of_mem ha;exact h1 j hj hj
   | succ k ih=>
    intro i n hi hn h1 h2;obtain⟨q,rfl⟩:=sn (n:=n) (by omega);have hlt:i<cs.length:=by omega
    rw[DH];simp only[Ag,hlt,decide_true,if_true,Aa hlt,W,Rp,Ep (Nat.le_of_lt hlt),zM,Nat.sub_zero];cases e:Ck h cs[i] with
    | false=>exact⟨E,rfl,fun h=>by cases h⟩
    | true=>
     rw[if_pos rfl];have hlen:(cs.take i).length=i:=by simp; omega
     have inner:∀(k j n:Q),j+k=i→k<n→(∀p (hp:p<cs.length),p<j→cs[p].Ship≠cs[i].Ship)→∃b,Eu cs (i:O) h cs[i] (cs.take i) ((cs.take i).length:O) (DH cs h q) n (j:O)=G b∧(b=T→CallsGood h cs):=by
      intro k
      induction k with
      | zero=>
       intro j n hj hn h3;obtain⟨q',rfl⟩:=sn (n:=n) (by omega);have:j=i:=by omega
       subst this
       have e0:=ih (j+1) q (by omega) (by omega) (fun p hp hpi=>by
        by_cases hpj:p<j
        ·exact h1 p hp hpj
        ·have:p=j:=by omega
         subst this; exact e) (fun a b ha hb hab hbi=>by
        by_cases hbj:b<j
        ·exact h2 a b ha hb hab hbj
        ·have:b=j:=by omega
         subst this; exact h3 a ha hab)
       rw[← Ak hlt (A5 (by omega))] at e0
       rw[Eu];simp only[hlen,Ag,Nat.lt_irrefl,decide_false,zN,if_false];exact e0
      | succ k ihk=>
       intro j n hj hn h3;obtain⟨q',rfl⟩:=sn (n:=n) (by omega);have hji:j<i:=by omega
       have hjl:j<(cs.take i).length:=by omega
       have hg:(cs.take i)[j]=cs[j]'(by omega):=by simp
       rw[Eu];simp only[Ag,hjl,decide_true,if_true,Aa hjl,W,hg];by_cases hs:cs[j].Ship=cs[i].Ship
       ·rw[if_pos (by simpa using hs)];exact⟨E,V,fun h=>by cases h⟩
       ·rw[if_neg (by simpa using hs),Ak hji (A5 (by omega))];refine ihk (j+1) q' (by omega) (by omega) fun p hp hpj=> ?_
        by_cases hpj':p<j
        ·exact h3 p hp hpj'
        ·have:p=j:=by omega
         subst this; exact hs
     exact inner i 0 bigN (by omega) (Aj (A5 (by omega))) (fun p hp hp0=>by omega)
  exact key cs.length 0 bigN (by omega) (Aj (A5 (by omega))) (fun j hj hj0=>by omega) (fun p q hp hq hpq hq0=>by omega)
 ·rw[if_pos (by simp; omega)];exact⟨E,V,fun h=>by cases h⟩
theorem im:(List.range 7).all (fun n=>decide (Ex (n:O)=G ⟨0,zJ n (-1),zJ n E⟩))=T:=by kernel_rfl
theorem io{n:Q}(h:n≤6):Ex (n:O)=G ⟨0,zJ n (-1),zJ n E⟩:=of_decide_eq_true (zQ.1 im n (List.mem_range.2 (by omega)))
theorem NH{c:X6}(I:Inv c)(n1 n2 n3:N U)(a b:O) :
  BQ c ((E5 c.Calls).bind fun r5=>(Dn c.Harbour.Fleet n1).bind fun r7=>(BF c.Harbour.Chart n2).bind fun r9=>(BF c.Harbour.Chart n3).bind fun r11=>
   if A4 r5.length ([(⟨r7,r9,r11,a,b⟩:X3)]:N X3).length 40 then(
    (BR c.Harbour (r5++([(⟨r7,r9,r11,a,b⟩:X3)]:N X3))).bind fun r15=>
    if r15 then(
     (Ex ((r5++([(⟨r7,r9,r11,a,b⟩:X3)]:N X3)).length:O)).bind fun r18=>
     (CC T).bind fun r19=>
     G (r19,(⟨c.Harbour,(r5++([(⟨r7,r9,r11,a,b⟩:X3)]:N X3)),r18⟩:X6)))
    else(
     (CC E).bind fun r17=>
     G (r17,c)))
   else none):=by
 obtain⟨h1,h2,h3,h4⟩:=D5 I.hh;have h6:=I.hc.six;have a2:=BD h2;have a3:=(DK h3).1;rw[TU (by omega),W,P0 (A5 (by omega)),W,Ic (A5 (by omega)),W,Ic (A5 (by omega)),W,if_pos (AR (by omega) (by simp) (by omega))];obtain⟨q,e,hq⟩:=fV (Ia I.hh) I.hh (cs:=c.Calls++ [(⟨Ix c.Harbour.Fleet n1,EV c.Harbour.Chart.Points n2,EV c.Harbour.Chart.Points n3,a,b⟩:X3)]);rw[e,W];cases q with
 | false=>exact Di I (by simp[Au])
 | true=>
  have g:=hq rfl;rw[if_pos rfl,io g.six];exact⟨_,_,V,⟨I.hh,g,by simpa using g.six,by simp⟩,by simp[Au]⟩
theorem Ub{d:Xo}(h1:d.Starts.length≤6)(h2:d.Cleared.length=d.Starts.length):∃b,Ji d=G b∧(b=T→i64 d.Now∧∀j (hj:j<d.Starts.length),i64 d.Starts[j]):=by
 unfold Ji;rw[Ee,W];by_cases hm:(decide (0≤d.Now)&&decide (d.Now≤2880))=T
 ·rw[if_pos hm,if_neg (by simp; omega),if_neg (by simp; omega)];simp only[C,decide_eq_true_eq] at hm
  have key:∀(k i n:Q),i+k=d.Starts.length→k<n→(∀j (hj:j<d.Starts.length),j<i→i64 d.Starts[j])→∃b,G6 d n (i:O)=G b∧(b=T→i64 d.Now∧∀j (hj:j<d.Starts.length),i64 d.Starts[j]):=by
   intro k
   induction k with
   | zero=>
    intro i n hi hn hj;obtain⟨q,rfl⟩:=sn (n:=n) (by omega);have:i=d.Starts.length:=by omega
    subst this;exact⟨T,by simp[G6],fun _=>⟨by unfold i64; omega,fun j h=>hj j h h⟩⟩
   | succ k ih=>
    intro i n hi hn hj;obtain⟨q,rfl⟩:=sn (n:=n) (by omega);have hlt:i<d.Starts.length:=by omega
    have hlc:i<d.Cleared.length:=by omega
    rw[G6];simp only[Ag,hlt,decide_true,if_true,Aa hlt,Aa hlc,W,Cu,Ak hlt (A5 (by omega))];by_cases hw:(decide (-1≤d.Starts[i])&&decide (d.Starts[i]≤2880))=T
    ·rw[if_pos hw];simp only[C,decide_eq_true_eq] at hw
     have e0:=ih (i+1) q (by omega) (by omega) fun j h hji=>by
      by_cases hji':j<i
      ·exact hj j h hji'
      ·have:j=i:=by omega
       subst this; unfold i64; omega
     split
     ·split
      ·exact⟨E,V,fun h=>by cases h⟩
      ·exact e0
     ·exact e0
    ·rw[if_neg hw];exact⟨E,V,fun h=>by cases h⟩
  exact key d.Starts.length 0 bigN (by omega) (Aj (A5 (by omega))) fun j hj h0=>by omega
 ·rw[if_neg hm];exact⟨E,V,fun h=>by cases h⟩
theorem dg{d:Xo}{e:Xp}(h2:d.Cleared.length=d.Starts.length):∃r,LJ d e=G r∧(r=T→e.Kind=4∨idx e.Call d.Starts.length=T):=by
 unfold LJ;rw[Cu,W];split
 ·split
  ·rename_i hk
   have hk':e.Kind=4:=by simpa using hk
   split
   ·exact⟨_,V,fun _=>Or.inl hk'⟩
   ·exact⟨E,V,fun h=>by cases h⟩
  ·rw[CR,W];by_cases hi:idx e.Call d.Starts.length=T
   ·rw[if_pos hi];have i1:=(GC (0:O) hi).1;have i2:=(GC (l:=d.Cleared) E (by rw[h2]; exact hi)).1;rw[i2,W];split
    ·exact⟨E,V,fun h=>by cases h⟩
    ·rw[i1,W];split
     ·rw[Cu]; exact⟨_,rfl,fun _=>Or.inr hi⟩
     ·split
      ·split
       ·exact⟨_,V,fun _=>Or.inr hi⟩
       ·exact⟨_,V,fun _=>Or.inr hi⟩
      ·split
       ·split
        ·exact⟨_,V,fun _=>Or.inr hi⟩
        ·exact⟨_,V,fun _=>Or.inr hi⟩
       ·exact⟨_,V,fun _=>Or.inr hi⟩
   ·rw[if_neg hi];exact⟨E,V,fun h=>by cases h⟩
 ·exact⟨E,V,fun h=>by cases h⟩
theorem dh{d:Xo}{e:Xp}(h1:d.Starts.length≤6)(h2:d.Cleared.length=d.Starts.length):∃d' b,KU d e=G (d',b)∧d'.Starts.length≤6∧d'.Cleared.length=d'.Starts.length:=by
 unfold KU;obtain⟨b,e1,_⟩:=Ub h1 h2;rw[U3 h1 h2,W,e1,W];have no:∃d' b,J8 e d T=G (d',b)∧d'.Starts.length≤6∧d'.Cleared.length=d'.Starts.length:=⟨d,E,rfl,h1,h2⟩;cases b with
 | false=>exact no
 | true=>
  obtain⟨r,e2,hr⟩:=dg (d:=d) (e:=e) h2;rw[if_pos rfl,e2,W];cases r with
  | false=>exact no
  | true=>
   unfold J8;rw[if_neg (by simp)];have hr':=hr rfl;by_cases k1:e.Kind=1
   ·have hi:idx e.Call d.Starts.length=T:=hr'.resolve_left (by omega);rw[if_pos (by simpa using k1),(GC (0:O) hi).1];exact⟨_,_,V,by simpa using h1,by simpa using h2⟩
   ·rw[if_neg (by simpa using k1)];by_cases k2:e.Kind=2
    ·have hi:idx e.Call d.Starts.length=T:=hr'.resolve_left (by omega);rw[if_pos (by simpa using k2),(GC (l:=d.Cleared) E (by rw[h2]; exact hi)).1];exact⟨_,_,V,by simpa using h1,by simpa using h2⟩
    ·rw[if_neg (by simpa using k2)];by_cases k3:e.Kind=3
     ·have hi:idx e.Call d.Starts.length=T:=hr'.resolve_left (by omega);rw[if_pos (by simpa using k3),(GC (0:O) hi).1];exact⟨_,_,V,by simpa using h1,by simpa using h2⟩
     ·rw[if_neg (by simpa using k3)];exact⟨_,_,V,h1,h2⟩
theorem Qb{c:X6}(I:Inv c)(e:Xp):BQ c (CA c e):=by
 obtain⟨d,b,e1,h1,h2⟩:=dh (e:=e) I.ds I.dc;unfold CA;rw[e1,W];cases b
 ·exact⟨_,_,V,⟨I.hh,I.hc,h1,h2⟩,by simp[Au]⟩
 ·exact⟨_,_,V,⟨I.hh,I.hc,h1,h2⟩,by simp[Au]⟩
theorem fT{c:X6}(I:Inv c)(n:N U):∃k,Dk c n=G k:=by
 obtain⟨h1,h2,h3,h4⟩:=D5 I.hh;have h6:=I.hc.six;have a3:=(DK h3).1;unfold Dk;rw[P0 (A5 (by omega)),W];generalize Ix c.Harbour.Fleet n=r
 have key:∀(k i n:Q),i+k=c.Calls.length→k<n→∃b,Hh r c n (i:O)=G b:=by
  intro k
  induction k with
  | zero=>
   intro i n hi hn;obtain⟨q,rfl⟩:=sn (n:=n) (by omega);exact⟨-1,by rw[Hh,if_neg (by simp; omega)]⟩
  | succ k ih=>
   intro i n hi hn;obtain⟨q,rfl⟩:=sn (n:=n) (by omega);have hlt:i<c.Calls.length:=by omega
   rw[Hh];simp only[Ag,hlt,decide_true,if_true,Aa hlt,W,Ak hlt (A5 (by omega))];split
   ·exact⟨_,V⟩
   ·exact ih (i+1) q (by omega) (by omega)
 exact key c.Calls.length 0 bigN (by omega) (Aj (A5 (by omega)))
theorem KJ{c:X6}(I:Inv c)(n:N U)(k v:O):BQ c ((Dk c n).bind fun r22=>(CA c (⟨k,c.Desk.Now,r22,v⟩:Xp)).bind fun r23=>G (r23.1,r23.2)):=by
 obtain⟨r,e⟩:=fT I n;rw[e,W];exact J1 (Qb I _)
open Go.Lib
theorem Kd{t:N U}(h:t.length≤Au):∃o,EH t=G o∧o.length≤Au:=by
 unfold EH;split
 ·exact⟨_,V,by simp[Au]⟩
 ·exact⟨_,V,h⟩
theorem W7{c:U}{l:N (N U)}(hl:l.length≤10)(H:∀w∈l,w.length≤1000000000):CP l [c]=G (join l [c])∧(join l [c]).length≤Au:=by
 have hj:=Ih (c:=c) H;have h2:(1000000000+1)*l.length≤(1000000000+1)*10:=zL _ hl;exact⟨JZ (by omega) (by omega),by unfold Au; omega⟩
theorem fK{c:X6}(I:Inv c):BQ c (Cc c [98,111,117,110,100]):=by
 obtain⟨r,e,_,_,hl⟩:=fI (Ia I.hh) I.hh I.hc;obtain⟨o,e2,ho⟩:=Kd (t:=r) (by unfold Au; omega);unfold Cc;rw[if_pos (by decide),e,W,e2];exact⟨o,c,V,I,ho⟩
theorem um{c:X6}(I:Inv c):BQ c (Cc c [114,101,102,117,115,101]):=by
 obtain⟨h1,h2,h3,h4⟩:=D5 I.hh;obtain⟨r,e,hl⟩:=uk (Ia I.hh) I.hh I.hc fun y hy=>(ML (Se ((DK h3).2 y hy)).1).2
 obtain⟨o,e2,ho⟩:=Kd (t:=r) (by unfold Au; omega);unfold Cc;rw[if_neg (by decide),if_pos (by decide),e,W,e2];exact⟨o,c,V,I,ho⟩
theorem il{d:Xo}(h1:d.Starts.length≤6)(h2:d.Cleared.length=d.Starts.length):∃r,L5 d=G r∧r.length≤1000:=by
 obtain⟨b,e,hb⟩:=Ub h1 h2;unfold L5;rw[e,W];cases b with
 | false=>exact⟨[],rfl,by simp⟩
 | true=>
  obtain⟨i1,i2⟩:=hb rfl;have l0:=GB i1;rw[if_pos rfl,I8 i1,W]
  have key:∀(k i n:Q) (v:N U),i+k=d.Starts.length→k<n→v.length≤21+30*i→∃r,Fe d n v (i:O)=G r∧r.length≤1000:=by
   intro k
   induction k with
   | zero=>
    intro i n v hi hn hv;obtain⟨q,rfl⟩:=sn (n:=n) (by omega);exact⟨v,by rw[Fe,if_neg (by simp; omega)],by omega⟩
   | succ k ih=>
    intro i n v hi hn hv;obtain⟨q,rfl⟩:=sn (n:=n) (by omega);have hlt:i<d.Starts.length:=by omega
    have hlc:i<d.Cleared.length:=by omega
    have l1:=GB (i2 i hlt);rw[Fe];simp only[Ag,hlt,decide_true,if_true,Aa hlt,Aa hlc,W,Ak hlt (A5 (by omega)),I8 (i2 i hlt)];split
    ·rw[if_pos (by simp only[AP,decide_eq_true_eq,Z,X]; omega)];exact ih (i+1) q _ (by omega) (by omega) (by simp only[Y,Z,X]; omega)
    ·split
     ·rw[if_pos (by simp only[AP,decide_eq_true_eq,Z,X]; omega),if_pos (by simp only[AP,decide_eq_true_eq,Y,Z,X]; omega),if_pos (by simp only[AP,decide_eq_true_eq,Y,Z,X]; omega)];exact ih (i+1) q _ (by omega) (by omega) (by simp only[Y,Z,X]; omega)
     ·rw[if_pos (by simp only[AP,decide_eq_true_eq,Z,X]; omega),if_pos (by simp only[AP,decide_eq_true_eq,Y,Z,X]; omega)];exact ih (i+1) q _ (by omega) (by omega) (by simp only[Y,Z,X]; omega)
  exact key d.Starts.length 0 bigN (itoa d.Now) (by omega) (Aj (A5 (by omega))) (by omega)
theorem ip{c:X6}(I:Inv c):BQ c (Cc c [100,101,115,107]):=by
 obtain⟨r,e,hl⟩:=il I.ds I.dc;obtain⟨o,e2,ho⟩:=Kd (t:=r) (by unfold Au; omega);unfold Cc;rw[if_neg (by decide),if_neg (by decide),if_pos (by decide),e,W,e2];exact⟨o,c,V,I,ho⟩
theorem TF{c:X6}(I:Inv c):∃pl f,L2 c=G (pl,f,c)∧(f=T→(∃r,Jp c.Harbour c.Calls pl=G r∧r.length=c.Calls.length∧∀w∈r,w.length≤1000000000)∧∃r,Jh c.Harbour pl=G r∧r.length≤1000000000):=by
 have s:=Ia I.hh;obtain⟨os,e1,ho,heq⟩:=IQ s I.hh I.hc;obtain⟨ch,lw,f,e2,hb⟩:=IT s I.hh I.hc e1 ho;unfold L2;rw[e2,W];cases f with
 | false=>exact⟨[],E,rfl,fun h=>by cases h⟩
 | true=>
  obtain⟨pl,c1,c2,c3,_⟩:=hb.plan rfl;have h6:=I.hc.six;have hol:=ho.len;simp only[if_true];rw[uO s I.hh I.hc ho heq c1 c2,W];refine⟨pl,T,V,fun _=>⟨?_,?_⟩⟩
  ·exact uN s I.hh I.hc ho c1 c2 c3
  ·have hg:DE c.Harbour pl:=fun o h=>by
    obtain⟨i,hi,rfl⟩:=List.getElem_of_mem h;exact⟨_,(KK ho c1 i hi).2⟩
   obtain⟨r,r1,_,r2⟩:=gO s I.hh (pl:=pl) (by omega) hg (by
    cases pl with
    | nil=>simp[Dc]
    | cons x l=>
     have:=((QX s I.hh (by omega) hg).1 c3).2 (by simp);simp only[E2,C,decide_eq_true_eq] at this
     exact this.1)
   exact⟨r,r1,r2⟩
theorem uP{c:X6}(I:Inv c):BQ c (Cc c [112,108,97,110]):=by
 obtain⟨pl,f,e,hf⟩:=TF I;unfold Cc;rw[if_neg (by decide),if_neg (by decide),if_neg (by decide),e,W];cases f with
 | false=>exact Di I (by simp[Au])
 | true=>
  obtain⟨⟨r,e1,h1,h2⟩,_⟩:=hf rfl;have h6:=I.hc.six;obtain⟨j1,j2⟩:=W7 (c:=59) (l:=r) (by omega) h2;obtain⟨o,e2,ho⟩:=Kd j2;simp only[if_true];rw[if_neg (by decide),e1,W,j1,W,e2];exact⟨o,c,V,I,ho⟩
theorem gP{c:X6}(I:Inv c):BQ c (Cc c [99,114,101,119]):=by
 obtain⟨pl,f,e,hf⟩:=TF I;unfold Cc;rw[if_neg (by decide),if_neg (by decide),if_neg (by decide),e,W];cases f with
 | false=>exact Di I (by simp[Au])
 | true=>
  obtain⟨_,r,e1,h1⟩:=hf rfl;obtain⟨o,e2,ho⟩:=Kd (t:=r) (by unfold Au; omega);simp only[if_true];rw[if_pos (by decide),e1,W,e2];exact⟨o,c,V,I,ho⟩
theorem vt(xs:N X8)(s:N U):Ix xs s= -1∨idx (Ix xs s) xs.length=T:=by
 have key:∀(k i:Q),i+k=xs.length→(List.range' i k).foldr (fun i r=>if N1 xs s i=T then(i:O) else r) (-1)= -1∨idx ((List.range' i k).foldr (fun i r=>if N1 xs s i=T then(i:O) else r) (-1)) xs.length=T:=by
  intro k
  induction k with
  | zero=>intro i _; exact Or.inl rfl
  | succ k ih=>
   intro i hi;rw[List.range'_succ,List.foldr_cons];split
   ·exact Or.inr (Ds.2 ⟨by omega,by omega⟩)
   ·exact ih (i+1) (by omega)
 exact key xs.length 0 (by omega)
theorem wl{c:X6}(I:Inv c)(n:N U):BQ c (Jg c n):=by
 obtain⟨h1,h2,h3,h4⟩:=D5 I.hh;have a3:=DK h3;unfold Jg;rw[P0 (A5 (by omega)),W];rcases vt c.Harbour.Fleet n with e|e
 ·rw[e,if_pos (by decide)];exact Di I (by simp[Au])
 ·have:=Ds.1 e;rw[if_neg (by simp; omega)];obtain⟨s1,s2⟩:=FF e;obtain⟨r,e1,r1,r2⟩:=wk h1 h2 (a3.2 _ s2);obtain⟨j1,j2⟩:=W7 (c:=59) (l:=r) (by have:=(BD h2).2.1; omega) r2;obtain⟨o,e2,ho⟩:=Kd j2;rw[s1,W,e1,W,j1,W,e2];exact⟨o,c,V,I,ho⟩
theorem pG{f:Xb}{m:O}(hf:D3 f=T)(h0:0≤m)(h1:m≤2880):∃r,L7 f m=G r∧ -2000000000000≤r∧r≤2000000000000:=by
 obtain⟨ht,s0,s6⟩:=Md hf;obtain⟨t,e1,b1,b2⟩:=Wl ht h0 h1;obtain⟨a,ha,e2⟩:=Sj (m:=m) s0 s6;have hs:=YH hf a ha;have w:=Ah (n:=t+f.Surges[a].High) (by omega) (by omega);refine⟨t+f.Surges[a].High,?_,by omega,by omega⟩;unfold L7;rw[e1,W,e2,W,Aa ha,W,w]
theorem Rx{c:X6}(I:Inv c){x:N U}{n:O}{b:Bool}(hp:Fi x=G (n,b)):BQ c (G4 c x):=by
 obtain⟨h1,h2,h3,h4⟩:=D5 I.hh;obtain⟨ht,s0,s6⟩:=Md h1;unfold G4;rw[hp,W];cases b with
 | false=>exact Di I (by simp[Au])
 | true=>
  simp only[if_true];unfold Od;rw[JV,h1,W,if_pos rfl,Ee,W];by_cases hm:(decide (0≤n)&&decide (n≤2880))=T
  ·have hm':=hm;simp only[C,decide_eq_true_eq] at hm'
   obtain⟨a,ha,e2⟩:=Sj (m:=n) s0 s6;obtain⟨lo,l1,l2,l3⟩:=Wn h1 hm'.1 hm'.2;obtain⟨hi,g1,g2,g3⟩:=pG h1 hm'.1 hm'.2;have i1:i64 lo:=by unfold i64; omega
   have i2:i64 hi:=by unfold i64; omega
   have k1:=GB i1;have k2:=GB i2;rw[hm];unfold Ju;rw[if_neg (by simp),e2,W,Aa ha,W,W];simp only[if_true,O5,O4,JV,h1,W,Ee,hm,l1,g1,I8 i1,I8 i2];rw[if_pos (by simp only[AP,decide_eq_true_eq,Z,X]; omega),if_pos (by simp only[AP,decide_eq_true_eq,Y,Z,X]; omega)];exact Di I (by simp only[Y,Z,X]; unfold Au; omega)
  ·have hm':(decide (0≤n)&&decide (n≤2880))=E:=by simpa using hm
   rw[hm'];simp only[Ju,Bool.not_false,if_true,W,zN,if_false];exact Di I (by simp[Au])
theorem XK{c:X6}(I:Inv c)(a b:N U):BQ c (Fc c a b):=by
 obtain⟨h1,h2,h3,h4⟩:=D5 I.hh;have a2:=BD h2;unfold Fc;rw[Ic (A5 (by omega)),W,Ic (A5 (by omega)),W];obtain⟨rt,q,e,hl⟩:=TE h2 (EV c.Harbour.Chart.Points a) (EV c.Harbour.Chart.Points b);rw[e,W];cases q with
 | false=>exact Di I (by simp[Au])
 | true=>
  obtain⟨l,g,e2,l1,l2,_⟩:=S0 h2 rt (EV c.Harbour.Chart.Points a) (by omega);simp only[if_true];unfold E4;rw[D6 a2.2.2.1,h2,W,if_pos rfl,e2,W,W]
  have key:∀(k i n:Q) (v:N (N U)),i+k=l.length→k<n→v.length=i→(∀w∈v,w.length≤8)→BQ c (Hi l c n (i:O) v):=by
   intro k
   induction k with
   | zero=>
    intro i n v hi hn hv hw;obtain⟨q,rfl⟩:=sn (n:=n) (by omega);have hj:=Ih (c:=62) hw;rw[Hi,if_neg (by simp; omega),JZ (by omega) (by omega)];exact⟨_,c,V,I,by unfold Au; omega⟩
   | succ k ih=>
    intro i n v hi hn hv hw;obtain⟨q,rfl⟩:=sn (n:=n) (by omega);have hlt:i<l.length:=by omega
    obtain⟨x,x1,x2⟩:=Rt (l2 _ (List.getElem_mem hlt));have n1:=S4 h2 x1;rw[Hi];simp only[Ag,hlt,decide_true,if_true,Aa hlt,x2,W,Ak hlt (A5 (by omega))];rw[if_pos (AR (by omega) (by simp) (by omega))];exact ih (i+1) q _ (by omega) (by omega) (by simp; omega) fun w h=>(zB.1 h).elim (hw w) fun h9=>(by simp only[zH] at h9; subst h9; exact n1)
  exact key l.length 0 bigN [] (by omega) (Aj (A5 (by omega))) V fun w h=>by cases h
open Go.Lib
def unk:N U:= [117,110,107,110,111,119,110,32,99,111,109,109,97,110,100]
theorem N8:unk.length≤Au:=by simp[unk,Au]
theorem Sw{c:X6}(I:Inv c):BQ c ((Bs c.Harbour).bind fun r=>G (unk,c)):=by
 rw[KR I.hh,W];exact Di I N8
theorem TQ{c:X6}(I:Inv c)(w:N (N U))(hs:∀x:X4,x.Points.length≤8→∃s b,Gu x w=G (s,b)) :
  BQ c ((Bs c.Harbour).bind fun r1=>(Gu r1.Chart w).bind fun r9=>if r9.2 then(if A4 r1.Chart.Segments.length ([r9.1]:N X7).length 40 then((Bk c (⟨r1.Forecast,(⟨r1.Chart.Points,(r1.Chart.Segments++([r9.1]:N X7))⟩:X4),r1.Fleet,r1.Regime,r1.Crew⟩:X1)).bind fun r18=>G (r18.1,r18.2)) else none) else G (unk,c)):=by
 have a2:=BD (D5 I.hh).2.1;obtain⟨s,b,e⟩:=hs c.Harbour.Chart a2.1;rw[KR I.hh,W,e,W];cases b with
 | false=>exact Di I N8
 | true=>
  rw[if_pos rfl,if_pos (AR (by omega) (by simp) (by omega))];have h:=Ia I.hh;exact J1 (Sc I ⟨h.pn,h.fn,h.mv⟩ (B _) (B _))
def Ay(x:N U):Prop:=∀c,Inv c→∃c' o,BO c x=G (c',o)∧Inv c'∧o.length≤Au
theorem goodE_of{x:N U}(cmd:X6→Option (N U × X6))(A:∀c,BO c x=(Gm c).bind fun r1=>((cmd r1).bind fun r30=>G (r30.1,r30.2)).bind fun r6=>G (r6.2,r6.1))(H:∀c,Inv c→BQ c (cmd c)):Ay x:=fun c I=>by
 obtain⟨o,c',e,I',h⟩:=H c I;rw[A c,Qu I,W,e];exact⟨c',o,V,I',h⟩
theorem UC{x:N U}(A:∀c,BO c x=(Gm c).bind fun r1=>G (r1,[])):Ay x:=fun c I=>by
 rw[A c,Qu I];exact⟨c,[],V,I,by simp⟩
theorem mE:Ay [99,97,108,108,32,115,48,32,115,101,97,32,113,117,97,121,32,48,32,50,48,48]:=goodE_of (fun c=>(E5 c.Calls).bind fun r5=>(Dn c.Harbour.Fleet [115,48]).bind fun r7=>(BF c.Harbour.Chart [115,101,97]).bind fun r9=>(BF c.Harbour.Chart [113,117,97,121]).bind fun r11=>if A4 r5.length ([(⟨r7,r9,r11,0,200⟩:X3)]:N X3).length 40 then((BR c.Harbour (r5++([(⟨r7,r9,r11,0,200⟩:X3)]:N X3))).bind fun r15=>if r15 then((Ex ((r5++([(⟨r7,r9,r11,0,200⟩:X3)]:N X3)).length:O)).bind fun r18=>(CC T).bind fun r19=>G (r19,(⟨c.Harbour,(r5++([(⟨r7,r9,r11,0,200⟩:X3)]:N X3)),r18⟩:X6))) else((CC E).bind fun r17=>G (r17,c))) else none) (fun c=>by kernel_rfl) fun c I=>NH I _ _ _ _ _
theorem mF:Ay [99,97,108,108,32,115,49,32,113,117,97,121,32,115,101,97,32,51,48,32,51,48,48]:=goodE_of (fun c=>(E5 c.Calls).bind fun r5=>(Dn c.Harbour.Fleet [115,49]).bind fun r7=>(BF c.Harbour.Chart [113,117,97,121]).bind fun r9=>(BF c.Harbour.Chart [115,101,97]).bind fun r11=>if A4 r5.length ([(⟨r7,r9,r11,30,300⟩:X3)]:N X3).length 40 then((BR c.Harbour (r5++([(⟨r7,r9,r11,30,300⟩:X3)]:N X3))).bind fun r15=>if r15 then((Ex ((r5++([(⟨r7,r9,r11,30,300⟩:X3)]:N X3)).length:O)).bind fun r18=>(CC T).bind fun r19=>G (r19,(⟨c.Harbour,(r5++([(⟨r7,r9,r11,30,300⟩:X3)]:N X3)),r18⟩:X6))) else((CC E).bind fun r17=>G (r17,c))) else none) (fun c=>by kernel_rfl) fun c I=>NH I _ _ _ _ _
theorem mG:Ay [115,104,105,112,32,115,49,32,49,50,48,32,56,53,48,32,49,32,49]:=goodE_of (fun c=>(Bs c.Harbour).bind fun r=>if A4 ((fun h:X1=>h.Fleet.length) r) 1 56 then(Bk c ((fun h:X1=>(⟨h.Forecast,h.Chart,h.Fleet++ [⟨([115,49]:N U),120,850,1,1,E⟩],h.Regime,h.Crew⟩:X1)) r)).bind fun r=>G (r.1,r.2) else none) (fun c=>by kernel_rfl) fun c I=>(by have h:=MZ I (fun h=>(⟨h.Forecast,h.Chart,h.Fleet++ [⟨([115,49]:N U),120,850,1,1,E⟩],h.Regime,h.Crew⟩:X1)) (fun h=>h.Fleet.length) (fun h s=>⟨s.pn,fun x hx=>(zB.1 hx).elim (s.fn x) fun h9=>(by simp only[zH] at h9; subst h9; exact A5 (by simp)),s.mv⟩) (fun h=>(by simp)) (fun h=>B _) (fun h hh=>by have:=(DK (D5 hh).2.2.1).1; show h.Fleet.length≤10; omega) (b:=56) (by omega); exact h)
theorem mH:Ay [115,117,114,103,101,32,45,50,48,32,49,48]:=goodE_of (fun c=>(Bs c.Harbour).bind fun r=>(Bk c ((fun h:X1=>(⟨⟨h.Forecast.Tide,[⟨0,-20,10⟩]⟩,h.Chart,h.Fleet,h.Regime,h.Crew⟩:X1)) r)).bind fun r=>G (r.1,r.2)) (fun c=>by kernel_rfl) fun c I=>N0 I (fun h=>(⟨⟨h.Forecast.Tide,[⟨0,-20,10⟩]⟩,h.Chart,h.Fleet,h.Regime,h.Crew⟩:X1)) (fun h s=>⟨s.pn,s.fn,s.mv⟩) (fun h=>B _) (fun h=>B _)
theorem mI:Ay [103,97,112,32,50,48]:=goodE_of (fun c=>(Bs c.Harbour).bind fun r=>(Bk c ((fun h:X1=>(⟨h.Forecast,h.Chart,h.Fleet,⟨20,h.Regime.NoMeet⟩,h.Crew⟩:X1)) r)).bind fun r=>G (r.1,r.2)) (fun c=>by kernel_rfl) fun c I=>N0 I (fun h=>(⟨h.Forecast,h.Chart,h.Fleet,⟨20,h.Regime.NoMeet⟩,h.Crew⟩:X1)) (fun h s=>⟨s.pn,s.fn,s.mv⟩) (fun h=>B _) (fun h=>B _)
theorem mJ:Ay [109,101,97,110,32,50,48,48]:=goodE_of (fun c=>(Bs c.Harbour).bind fun r=>(Bk c ((fun h:X1=>(⟨⟨⟨200,h.Forecast.Tide.Parts⟩,h.Forecast.Surges⟩,h.Chart,h.Fleet,h.Regime,h.Crew⟩:X1)) r)).bind fun r=>G (r.1,r.2)) (fun c=>by kernel_rfl) fun c I=>N0 I (fun h=>(⟨⟨⟨200,h.Forecast.Tide.Parts⟩,h.Forecast.Surges⟩,h.Chart,h.Fleet,h.Regime,h.Crew⟩:X1)) (fun h s=>⟨s.pn,s.fn,s.mv⟩) (fun h=>B _) (fun h=>B _)
theorem mK:Ay [119,97,118,101,32,49,53,48,32,55,52,52,32,48]:=goodE_of (fun c=>(Bs c.Harbour).bind fun r=>if A4 ((fun h:X1=>h.Forecast.Tide.Parts.length) r) 1 24 then(Bk c ((fun h:X1=>(⟨⟨⟨h.Forecast.Tide.Mean,h.Forecast.Tide.Parts++ [⟨150,744,0⟩]⟩,h.Forecast.Surges⟩,h.Chart,h.Fleet,h.Regime,h.Crew⟩:X1)) r)).bind fun r=>G (r.1,r.2) else none) (fun c=>by kernel_rfl) fun c I=>(by have h:=MZ I (fun h=>(⟨⟨⟨h.Forecast.Tide.Mean,h.Forecast.Tide.Parts++ [⟨150,744,0⟩]⟩,h.Forecast.Surges⟩,h.Chart,h.Fleet,h.Regime,h.Crew⟩:X1)) (fun h=>h.Forecast.Tide.Parts.length) (fun h s=>⟨s.pn,s.fn,s.mv⟩) (fun h=>B _) (fun h=>B _) (fun h hh=>by have:=(Md (D5 hh).1).1; simp only[FS,C,decide_eq_true_eq] at this; show h.Forecast.Tide.Parts.length≤10; omega) (b:=24) (by omega); exact h)
theorem mL:Ay [112,111,105,110,116,32,100,111,99,107,32,119,97,105,116]:=goodE_of (fun c=>(Bs c.Harbour).bind fun r=>if A4 ((fun h:X1=>h.Chart.Points.length) r) 1 24 then(Bk c ((fun h:X1=>(⟨h.Forecast,⟨h.Chart.Points++ [⟨([100,111,99,107]:N U),T⟩],h.Chart.Segments⟩,h.Fleet,h.Regime,h.Crew⟩:X1)) r)).bind fun r=>G (r.1,r.2) else none) (fun c=>by kernel_rfl) fun c I=>(by have h:=MZ I (fun h=>(⟨h.Forecast,⟨h.Chart.Points++ [⟨([100,111,99,107]:N U),T⟩],h.Chart.Segments⟩,h.Fleet,h.Regime,h.Crew⟩:X1)) (fun h=>h.Chart.Points.length) (fun h s=>⟨fun x hx=>(zB.1 hx).elim (s.pn x) fun h9=>(by simp only[zH] at h9; subst h9; exact A5 (by simp)),s.fn,s.mv⟩) (fun h=>B _) (fun h=>(by simp)) (fun h hh=>by have:=(BD (D5 hh).2.1).1; show h.Chart.Points.length≤10; omega) (b:=24) (by omega); exact h)
theorem mM:Ay [99,104,97,110,110,101,108,32,98,97,114,32,100,111,99,107,32,57,48,48,32,49,48,32,109,101,101,116]:=goodE_of (fun c=>(Bs c.Harbour).bind fun r1=>(Gu r1.Chart [[99,104,97,110,110,101,108],[98,97,114],[100,111,99,107],[57,48,48],[49,48],[109,101,101,116]]).bind fun r9=>if r9.2 then(if A4 r1.Chart.Segments.length ([r9.1]:N X7).length 40 then((Bk c (⟨r1.Forecast,(⟨r1.Chart.Points,(r1.Chart.Segments++([r9.1]:N X7))⟩:X4),r1.Fleet,r1.Regime,r1.Crew⟩:X1)).bind fun r18=>G (r18.1,r18.2)) else none) else G (unk,c)) (fun c=>by kernel_rfl) fun c I=>TQ I _ fun x hx=>⟨⟨EV x.Points ([98,97,114]:N U),EV x.Points ([100,111,99,107]:N U),900,10,T⟩,T,(show Gu x [[99,104,97,110,110,101,108],[98,97,114],[100,111,99,107],[57,48,48],[49,48],[109,101,101,116]]=(BF x [98,97,114]).bind fun r13=>(BF x [100,111,99,107]).bind fun r15=>G ((⟨r13,r15,900,10,T⟩:X7),T) by kernel_rfl).trans (by rw[Ic (A5 (by omega)),W,Ic (A5 (by omega))]; rfl)⟩
theorem mN:Ay [112,108,97,110]:=goodE_of (fun c=>Cc c [112,108,97,110]) (fun c=>by kernel_rfl) fun c I=>uP I
theorem mO:Ay [98,111,117,110,100]:=goodE_of (fun c=>Cc c [98,111,117,110,100]) (fun c=>by kernel_rfl) fun c I=>fK I
theorem mP:Ay [114,101,102,117,115,101]:=goodE_of (fun c=>Cc c [114,101,102,117,115,101]) (fun c=>by kernel_rfl) fun c I=>um I
theorem mQ:Ay [99,114,101,119]:=goodE_of (fun c=>Cc c [99,114,101,119]) (fun c=>by kernel_rfl) fun c I=>gP I
theorem mR:Ay [100,101,115,107]:=goodE_of (fun c=>Cc c [100,101,115,107]) (fun c=>by kernel_rfl) fun c I=>ip I
theorem mS:Ay [115,117,114,101,32,115,48]:=goodE_of (fun c=>Jg c [115,48]) (fun c=>by kernel_rfl) fun c I=>wl I _
theorem mT:Ay [108,101,118,101,108,32,49,48,48]:=goodE_of (fun c=>G4 c [49,48,48]) (fun c=>by kernel_rfl) fun c I=>Rx I (show Fi [49,48,48]=G (100,T) by kernel_rfl)
theorem mU:Ay [114,111,117,116,101,32,115,101,97,32,113,117,97,121]:=goodE_of (fun c=>Fc c [115,101,97] [113,117,97,121]) (fun c=>by kernel_rfl) fun c I=>XK I _ _
theorem mV:Ay [114,111,117,116,101,32,113,117,97,121,32,115,101,97]:=goodE_of (fun c=>Fc c [113,117,97,121] [115,101,97]) (fun c=>by kernel_rfl) fun c I=>XK I _ _
theorem mW:Ay [97,110,110,111,117,110,99,101,32,115,48,32,51,48]:=goodE_of (fun c=>(Dk c [115,48]).bind fun r22=>(CA c (⟨1,c.Desk.Now,r22,30⟩:Xp)).bind fun r23=>G (r23.1,r23.2)) (fun c=>by kernel_rfl) fun c I=>KJ I _ _ _
theorem mX:Ay [99,108,101,97,114,32,115,48]:=goodE_of (fun c=>(Dk c [115,48]).bind fun r22=>(CA c (⟨2,c.Desk.Now,r22,0⟩:Xp)).bind fun r23=>G (r23.1,r23.2)) (fun c=>by kernel_rfl) fun c I=>KJ I _ _ _
theorem mY:Ay [99,97,110,99,101,108,32,115,48]:=goodE_of (fun c=>(Dk c [115,48]).bind fun r22=>(CA c (⟨3,c.Desk.Now,r22,0⟩:Xp)).bind fun r23=>G (r23.1,r23.2)) (fun c=>by kernel_rfl) fun c I=>KJ I _ _ _
theorem mZ:Ay [116,105,99,107,32,49,48]:=goodE_of (fun c=>(CA c (⟨4,10,0,0⟩:Xp)).bind fun r20=>G (r20.1,r20.2)) (fun c=>by kernel_rfl) fun c I=>J1 (Qb I _)
theorem ma:Ay [116,105,99,107,32,52,48]:=goodE_of (fun c=>(CA c (⟨4,40,0,0⟩:Xp)).bind fun r20=>G (r20.1,r20.2)) (fun c=>by kernel_rfl) fun c I=>J1 (Qb I _)
theorem mb:Ay [97,110,110,111,117,110,99,101,32,115,48,32,53]:=goodE_of (fun c=>(Dk c [115,48]).bind fun r22=>(CA c (⟨1,c.Desk.Now,r22,5⟩:Xp)).bind fun r23=>G (r23.1,r23.2)) (fun c=>by kernel_rfl) fun c I=>KJ I _ _ _
theorem mc:Ay [97,110,110,111,117,110,99,101,32,115,57,32,51,48]:=goodE_of (fun c=>(Dk c [115,57]).bind fun r22=>(CA c (⟨1,c.Desk.Now,r22,30⟩:Xp)).bind fun r23=>G (r23.1,r23.2)) (fun c=>by kernel_rfl) fun c I=>KJ I _ _ _
theorem md:Ay []:=UC fun c=>by kernel_rfl
theorem me:Ay [35,32,110,111,116,101]:=UC fun c=>by kernel_rfl
theorem mr:Ay [119,104,97,116]:=goodE_of (fun c=>G (unk,c)) (fun c=>by kernel_rfl) fun c I=>Di I N8
theorem mu:Ay [112,111,105,110,116]:=goodE_of (fun c=>(Bs c.Harbour).bind fun r=>G (unk,c)) (fun c=>by kernel_rfl) fun c I=>Sw I
theorem mw:Ay [112,111,105,110,116,32,115,101,97]:=goodE_of (fun c=>(Bs c.Harbour).bind fun r=>if A4 ((fun h:X1=>h.Chart.Points.length) r) 1 24 then(Bk c ((fun h:X1=>(⟨h.Forecast,⟨h.Chart.Points++ [⟨([115,101,97]:N U),E⟩],h.Chart.Segments⟩,h.Fleet,h.Regime,h.Crew⟩:X1)) r)).bind fun r=>G (r.1,r.2) else none) (fun c=>by kernel_rfl) fun c I=>(by have h:=MZ I (fun h=>(⟨h.Forecast,⟨h.Chart.Points++ [⟨([115,101,97]:N U),E⟩],h.Chart.Segments⟩,h.Fleet,h.Regime,h.Crew⟩:X1)) (fun h=>h.Chart.Points.length) (fun h s=>⟨fun x hx=>(zB.1 hx).elim (s.pn x) fun h9=>(by simp only[zH] at h9; subst h9; exact A5 (by simp)),s.fn,s.mv⟩) (fun h=>B _) (fun h=>(by simp)) (fun h hh=>by have:=(BD (D5 hh).2.1).1; show h.Chart.Points.length≤10; omega) (b:=24) (by omega); exact h)
theorem my:Ay [112,111,105,110,116,32,83,101,97]:=goodE_of (fun c=>(Bs c.Harbour).bind fun r=>if A4 ((fun h:X1=>h.Chart.Points.length) r) 1 24 then(Bk c ((fun h:X1=>(⟨h.Forecast,⟨h.Chart.Points++ [⟨([83,101,97]:N U),E⟩],h.Chart.Segments⟩,h.Fleet,h.Regime,h.Crew⟩:X1)) r)).bind fun r=>G (r.1,r.2) else none) (fun c=>by kernel_rfl) fun c I=>(by have h:=MZ I (fun h=>(⟨h.Forecast,⟨h.Chart.Points++ [⟨([83,101,97]:N U),E⟩],h.Chart.Segments⟩,h.Fleet,h.Regime,h.Crew⟩:X1)) (fun h=>h.Chart.Points.length) (fun h s=>⟨fun x hx=>(zB.1 hx).elim (s.pn x) fun h9=>(by simp only[zH] at h9; subst h9; exact A5 (by simp)),s.fn,s.mv⟩) (fun h=>B _) (fun h=>(by simp)) (fun h hh=>by have:=(BD (D5 hh).2.1).1; show h.Chart.Points.length≤10; omega) (b:=24) (by omega); exact h)
theorem mz:Ay [99,104,97,110,110,101,108,32,115,101,97,32,113,117,97,121,32,57,48,48]:=goodE_of (fun c=>(Bs c.Harbour).bind fun r1=>(Gu r1.Chart [[99,104,97,110,110,101,108],[115,101,97],[113,117,97,121],[57,48,48]]).bind fun r9=>if r9.2 then(if A4 r1.Chart.Segments.length ([r9.1]:N X7).length 40 then((Bk c (⟨r1.Forecast,(⟨r1.Chart.Points,(r1.Chart.Segments++([r9.1]:N X7))⟩:X4),r1.Fleet,r1.Regime,r1.Crew⟩:X1)).bind fun r18=>G (r18.1,r18.2)) else none) else G (unk,c)) (fun c=>by kernel_rfl) fun c I=>TQ I _ fun x hx=>⟨⟨0,0,0,0,E⟩,E,by kernel_rfl⟩
theorem nA:Ay [115,104,105,112,32,115,50,32,53,32,57,48,48,32,48,32,48]:=goodE_of (fun c=>(Bs c.Harbour).bind fun r=>G (unk,c)) (fun c=>by kernel_rfl) fun c I=>Sw I
theorem nB:Ay [115,104,105,112,32,115,50]:=goodE_of (fun c=>(Bs c.Harbour).bind fun r=>G (unk,c)) (fun c=>by kernel_rfl) fun c I=>Sw I
theorem nC:Ay [99,97,108,108,32,115,48,32,115,101,97,32,115,101,97,32,48,32,57]:=goodE_of (fun c=>(E5 c.Calls).bind fun r5=>(Dn c.Harbour.Fleet [115,48]).bind fun r7=>(BF c.Harbour.Chart [115,101,97]).bind fun r9=>(BF c.Harbour.Chart [115,101,97]).bind fun r11=>if A4 r5.length ([(⟨r7,r9,r11,0,9⟩:X3)]:N X3).length 40 then((BR c.Harbour (r5++([(⟨r7,r9,r11,0,9⟩:X3)]:N X3))).bind fun r15=>if r15 then((Ex ((r5++([(⟨r7,r9,r11,0,9⟩:X3)]:N X3)).length:O)).bind fun r18=>(CC T).bind fun r19=>G (r19,(⟨c.Harbour,(r5++([(⟨r7,r9,r11,0,9⟩:X3)]:N X3)),r18⟩:X6))) else((CC E).bind fun r17=>G (r17,c))) else none) (fun c=>by kernel_rfl) fun c I=>NH I _ _ _ _ _
theorem mf:Ay [99,97,108,108,32,115,57,32,115,101,97,32,113,117,97,121,32,48,32,57]:=goodE_of (fun c=>(E5 c.Calls).bind fun r5=>(Dn c.Harbour.Fleet [115,57]).bind fun r7=>(BF c.Harbour.Chart [115,101,97]).bind fun r9=>(BF c.Harbour.Chart [113,117,97,121]).bind fun r11=>if A4 r5.length ([(⟨r7,r9,r11,0,9⟩:X3)]:N X3).length 40 then((BR c.Harbour (r5++([(⟨r7,r9,r11,0,9⟩:X3)]:N X3))).bind fun r15=>if r15 then((Ex ((r5++([(⟨r7,r9,r11,0,9⟩:X3)]:N X3)).length:O)).bind fun r18=>(CC T).bind fun r19=>G (r19,(⟨c.Harbour,(r5++([(⟨r7,r9,r11,0,9⟩:X3)]:N X3)),r18⟩:X6))) else((CC E).bind fun r17=>G (r17,c))) else none) (fun c=>by kernel_rfl) fun c I=>NH I _ _ _ _ _
theorem mg:Ay [108,101,118,101,108,32,120]:=goodE_of (fun c=>G4 c [120]) (fun c=>by kernel_rfl) fun c I=>Rx I (show Fi [120]=G (0,E) by kernel_rfl)
theorem mh:Ay [108,101,118,101,108,32,50,56,56,49]:=goodE_of (fun c=>G4 c [50,56,56,49]) (fun c=>by kernel_rfl) fun c I=>Rx I (show Fi [50,56,56,49]=G (2881,T) by kernel_rfl)
theorem ml:Ay [109,101,97,110,32,53,48,48,48]:=goodE_of (fun c=>(Bs c.Harbour).bind fun r=>(Bk c ((fun h:X1=>(⟨⟨⟨5000,h.Forecast.Tide.Parts⟩,h.Forecast.Surges⟩,h.Chart,h.Fleet,h.Regime,h.Crew⟩:X1)) r)).bind fun r=>G (r.1,r.2)) (fun c=>by kernel_rfl) fun c I=>N0 I (fun h=>(⟨⟨⟨5000,h.Forecast.Tide.Parts⟩,h.Forecast.Surges⟩,h.Chart,h.Fleet,h.Regime,h.Crew⟩:X1)) (fun h s=>⟨s.pn,s.fn,s.mv⟩) (fun h=>B _) (fun h=>B _)
theorem mn:Ay [103,97,112,32,45,49]:=goodE_of (fun c=>(Bs c.Harbour).bind fun r=>(Bk c ((fun h:X1=>(⟨h.Forecast,h.Chart,h.Fleet,⟨-1,h.Regime.NoMeet⟩,h.Crew⟩:X1)) r)).bind fun r=>G (r.1,r.2)) (fun c=>by kernel_rfl) fun c I=>N0 I (fun h=>(⟨h.Forecast,h.Chart,h.Fleet,⟨-1,h.Regime.NoMeet⟩,h.Crew⟩:X1)) (fun h s=>⟨s.pn,s.fn,s.mv⟩) (fun h=>B _) (fun h=>B _)
theorem mo:Ay [114,111,117,116,101,32,115,101,97]:=goodE_of (fun c=>G (unk,c)) (fun c=>by kernel_rfl) fun c I=>Di I N8
theorem mq:Ay [116,105,99,107,32,120]:=goodE_of (fun c=>G (unk,c)) (fun c=>by kernel_rfl) fun c I=>Di I N8
def OF:N (N U):= [[99,97,108,108,32,115,48,32,115,101,97,32,113,117,97,121,32,48,32,50,48,48],[99,97,108,108,32,115,49,32,113,117,97,121,32,115,101,97,32,51,48,32,51,48,48],[115,104,105,112,32,115,49,32,49,50,48,32,56,53,48,32,49,32,49],[115,117,114,103,101,32,45,50,48,32,49,48],[103,97,112,32,50,48],[109,101,97,110,32,50,48,48],[119,97,118,101,32,49,53,48,32,55,52,52,32,48],[112,111,105,110,116,32,100,111,99,107,32,119,97,105,116],[99,104,97,110,110,101,108,32,98,97,114,32,100,111,99,107,32,57,48,48,32,49,48,32,109,101,101,116]]
theorem nI:∀x∈OF,Ay x:=fun x hx=>by
 simp only[OF,zG,zK,or_false] at hx
 rcases hx with rfl|rfl|rfl|rfl|rfl|rfl|rfl|rfl|rfl
 ·exact mE
 ·exact mF
 ·exact mG
 ·exact mH
 ·exact mI
 ·exact mJ
 ·exact mK
 ·exact mL
 ·exact mM
def OG:N (N U):= [[112,108,97,110],[98,111,117,110,100],[114,101,102,117,115,101],[99,114,101,119],[100,101,115,107],[115,117,114,101,32,115,48],[108,101,118,101,108,32,49,48,48],[114,111,117,116,101,32,115,101,97,32,113,117,97,121],[114,111,117,116,101,32,113,117,97,121,32,115,101,97]]
theorem nJ:∀x∈OG,Ay x:=fun x hx=>by
 simp only[OG,zG,zK,or_false] at hx
 rcases hx with rfl|rfl|rfl|rfl|rfl|rfl|rfl|rfl|rfl
 ·exact mN
 ·exact mO
 ·exact mP
 ·exact mQ
 ·exact mR
 ·exact mS
 ·exact mT
 ·exact mU
 ·exact mV
def OH:N (N U):= [[97,110,110,111,117,110,99,101,32,115,48,32,51,48],[99,108,101,97,114,32,115,48],[99,97,110,99,101,108,32,115,48],[116,105,99,107,32,49,48],[116,105,99,107,32,52,48],[97,110,110,111,117,110,99,101,32,115,48,32,53],[97,110,110,111,117,110,99,101,32,115,57,32,51,48]]
theorem nK:∀x∈OH,Ay x:=fun x hx=>by
 simp only[OH,zG,zK,or_false] at hx
 rcases hx with rfl|rfl|rfl|rfl|rfl|rfl|rfl
 ·exact mW
 ·exact mX
 ·exact mY
 ·exact mZ
 ·exact ma
 ·exact mb
 ·exact mc
def OI:N (N U):= [[],[35,32,110,111,116,101],[119,104,97,116],[112,111,105,110,116],[112,111,105,110,116,32,115,101,97],[112,111,105,110,116,32,83,101,97],[99,104,97,110,110,101,108,32,115,101,97,32,113,117,97,121,32,57,48,48],[115,104,105,112,32,115,50,32,53,32,57,48,48,32,48,32,48],[115,104,105,112,32,115,50],[99,97,108,108,32,115,48,32,115,101,97,32,115,101,97,32,48,32,57],[99,97,108,108,32,115,57,32,115,101,97,32,113,117,97,121,32,48,32,57],[108,101,118,101,108,32,120],[108,101,118,101,108,32,50,56,56,49],[109,101,97,110,32,53,48,48,48],[103,97,112,32,45,49],[114,111,117,116,101,32,115,101,97],[116,105,99,107,32,120]]
theorem nL:∀x∈OI,Ay x:=fun x hx=>by
 simp only[OI,zG,zK,or_false] at hx
 rcases hx with rfl|rfl|rfl|rfl|rfl|rfl|rfl|rfl|rfl|rfl|rfl|rfl|rfl|rfl|rfl|rfl|rfl
 ·exact md
 ·exact me
 ·exact mr
 ·exact mu
 ·exact mw
 ·exact my
 ·exact mz
 ·exact nA
 ·exact nB
 ·exact nC
 ·exact mf
 ·exact mg
 ·exact mh
 ·exact ml
 ·exact mn
 ·exact mo
 ·exact mq
open Go.Lib
def drawn:N (N U):=OF++(OG++(OH++OI))
theorem Uc:∀x∈drawn,Ay x:=fun x hx=>by
 rcases zB.1 hx with h|h
 ·exact nI x h
 ·rcases zB.1 h with h|h
  ·exact nJ x h
  ·rcases zB.1 h with h|h
   ·exact nK x h
   ·exact nL x h
theorem we{c:Xl}{l:N (N U)}(h:CurOk c)(h0:0<l.length)(hl:l.length≤1000):∃x c',Fz c l=G (x,c')∧CurOk c'∧x∈l:=by
 obtain⟨v,c',e,h1,h2,h3,_⟩:=Qg (n:=(l.length:O)) h (by omega);obtain⟨k,rfl⟩:∃k:Q,v=(k:O):=⟨v.toNat,by omega⟩;have hk:k<l.length:=by have:=h3 (by omega); omega
 unfold Fz;rw[e,W,Aa hk];exact⟨_,_,V,h1,List.getElem_mem hk⟩
theorem sE{c:Xl}(h:CurOk c):∃x c',JN c=G (x,c')∧CurOk c'∧x∈drawn:=by
 obtain⟨v,c1,e,h1,h2,h3,_⟩:=Qg (n:=4) h (by omega);unfold JN;rw[e,W]
 have step:∀(l:N (N U)),0<l.length→l.length≤1000→(∀x∈l,x∈drawn)→∃x c',((Fz c1 l).bind fun r=>G (r.1,r.2))=G (x,c')∧CurOk c'∧x∈drawn:=fun l l0 l1 hd=>by
  obtain⟨x,c',e,h1,h2⟩:=we h1 l0 l1;rw[e];exact⟨x,c',V,h1,hd x h2⟩
 split
 ·exact step OF (by decide) (by decide) fun x hx=>zE _ hx
 ·split
  ·exact step OG (by decide) (by decide) fun x hx=>zA _ (zE _ hx)
  ·split
   ·exact step OH (by decide) (by decide) fun x hx=>zA _ (zA _ (zE _ hx))
   ·exact step OI (by decide) (by decide) fun x hx=>zA _ (zA _ (zA _ hx))
def base:N (N U):= [[112,111,105,110,116,32,115,101,97,32,119,97,105,116],[112,111,105,110,116,32,98,97,114],[112,111,105,110,116,32,113,117,97,121,32,119,97,105,116],[99,104,97,110,110,101,108,32,115,101,97,32,98,97,114,32,49,48,48,48,32,50,48],[99,104,97,110,110,101,108,32,98,97,114,32,113,117,97,121,32,57,48,48,32,49,53],[109,101,97,110,32,49,53,48],[115,104,105,112,32,115,48,32,49,53,48,32,56,48,48,32,48,32,49]]
theorem wD:∀(k n:Q) (c:Xl) (v:N (N U)),k<n→v.length+k≤1000→CurOk c→∃e c',I5 n (k:O) c.b c.i c.h v=G (v++e,c')∧e.length=k∧∀x∈e,x∈drawn:=by
 intro k
 induction k with
 | zero=>
  intro n c v hn hv hc;obtain⟨q,rfl⟩:=sn (n:=n) (by omega);exact⟨[],c,by rw[I5,if_neg (by simp),List.append_nil],V,fun x hx=>by cases hx⟩
 | succ k ih=>
  intro n c v hn hv hc;obtain⟨q,rfl⟩:=sn (n:=n) (by omega);obtain⟨x,c1,e1,h1,h2⟩:=sE hc;obtain⟨e,c',e2,h3,h4⟩:=ih q c1 (v++ [x]) (by omega) (by simp; omega) h1;have e1':JN ⟨c.b,c.i,c.h⟩=G (x,c1):=e1;refine⟨x::e,c',?_,by simp[h3],fun y hy=>(zG.1 hy).elim (fun h=>h▸h2) (h4 y)⟩;rw[I5,if_pos (by rw[decide_eq_true_eq]; omega),e1',W,if_pos (AR (by omega) (by simp) (by omega)),Ah (n:=((k+1:Q):O) - 1) (by omega) (by omega),show((k+1:Q):O) - 1=(k:O) by omega,e2,zO];rfl
theorem sR{b:N O}(hb:b.length≤maxLen):∃e,Mb b=G (base++e)∧1≤e.length∧e.length≤6∧∀x∈e,x∈drawn:=by
 obtain⟨c,e1,h1⟩:=tB hb;obtain⟨v,c1,e2,h2,h3,h4,_⟩:=Qg (n:=6) h1 (by omega);obtain⟨k,rfl⟩:∃k:Q,v=(k:O):=⟨v.toNat,by omega⟩;have hk:k<6:=by have:=h4 (by omega); omega
 obtain⟨e,c',e3,h5,h6⟩:=wD (k+1) bigN c1 base (Aj (A5 (by omega))) (by simp[base]; omega) h2;refine⟨e,?_,by omega,by omega,h6⟩;unfold Mb Ov;rw[e1,W,e2,W,Ah (n:=1+(k:O)) (by omega) (by omega),show 1+(k:O)=((k+1:Q):O) by omega];have e3':=e3;unfold base at e3'
 rw[e3'];rfl
def D0:N (N U)→X6→N U→X6→N U→Prop
 | [],c,v,c',w=>c'=c∧w=v
 | x::l,c,v,c',w=>∃c1 o,BO c x=G (c1,o)∧o.length≤Au∧D0 l c1 (if o= [] then v else(v++o)++ [10]) c' w
theorem XZ:∀(l:N (N U)) (c:X6) (v:N U),(∀x∈l,Ay x)→Inv c→∃c' w,D0 l c v c' w∧Inv c'
 | [],c,v,_,I=>⟨c,v,⟨rfl,rfl⟩,I⟩
 | x::l,c,v,h,I=>by
  obtain⟨c1,o,e,I1,ho⟩:=h x (by simp) c I;obtain⟨c',w,s,I'⟩:=XZ l c1 (if o= [] then v else(v++o)++ [10]) (fun y hy=>h y (by simp[hy])) I1;exact⟨c',w,⟨c1,o,e,ho,s⟩,I'⟩
theorem Sb:∀(l m:N (N U)) (c c1 c':X6) (v v1 w:N U),D0 l c v c1 v1→D0 m c1 v1 c' w→D0 (l++m) c v c' w
 | [],m,c,c1,c',v,v1,w,h,h2=>by
  obtain⟨rfl,rfl⟩:=h;exact h2
 | x::l,m,c,c1,c',v,v1,w,h,h2=>by
  obtain⟨c2,o,e,ho,s⟩:=h;exact⟨c2,o,e,ho,Sb l m _ _ _ _ _ _ s h2⟩
theorem XY:∀(l:N (N U)) (c c':X6) (v w:N U),(∀d,Inv d→BO d []=G (d,[]))→(∀x∈l,Ay x)→Inv c→D0 (l++ [[]]) c v c' w→D0 l c v c' w
 | [],c,c',v,w,h0,ha,I,h=>by
  obtain⟨c1,o,e,ho,s⟩:=h;rw[h0 c I] at e
  cases e;simpa using s
 | x::l,c,c',v,w,h0,ha,I,h=>by
  obtain⟨c1,o,e,ho,s⟩:=h;obtain⟨c2,o2,e2,I2,_⟩:=ha x (by simp) c I;rw[e] at e2
  cases e2;exact⟨c1,o,e,ho,XY l c1 c' _ w h0 (fun y hy=>ha y (by simp[hy])) I2 s⟩
theorem Y0:∀(l:N (N U)) (c c':X6) (v w:N U),D0 l c v c' w→v≠ []→w≠ []
 | [],c,c',v,w,h,hv=>by
  obtain⟨rfl,rfl⟩:=h;exact hv
 | x::l,c,c',v,w,h,hv=>by
  obtain⟨c1,o,e,ho,s⟩:=h;refine Y0 l c1 c' _ w s ?_;split
  ·exact hv
  ·simp
def tA:N O:=zJ 64 0
def AU(m:O)(p:N Xa)(g:N X7)(f:N X8):X6:=⟨⟨⟨⟨m,[]⟩,[⟨0,0,0⟩]⟩,⟨p,g⟩,f,⟨10,E⟩,⟨2,2,30,tA⟩⟩,[],⟨0,[],[]⟩⟩
def BU:Xa:=⟨[115,101,97],T⟩
def Cg:Xa:=⟨[98,97,114],E⟩
def CU:Xa:=⟨[113,117,97,121],T⟩
def DU:X7:=⟨0,1,1000,20,E⟩
def FP:X7:=⟨1,2,900,15,E⟩
def Sd:X8:=⟨[115,48],150,800,0,1,E⟩
theorem WC:Jm=G (AU 0 [] [] []):=by kernel_rfl
def CT:N U:= [111,107]
theorem b1:BO (AU 0 [] [] []) [112,111,105,110,116,32,115,101,97,32,119,97,105,116]=G (AU 0 [BU] [] [],CT):=by kernel_rfl
theorem b2:BO (AU 0 [BU] [] []) [112,111,105,110,116,32,98,97,114]=G (AU 0 [BU,Cg] [] [],CT):=by kernel_rfl
theorem b3:BO (AU 0 [BU,Cg] [] []) [112,111,105,110,116,32,113,117,97,121,32,119,97,105,116]=G (AU 0 [BU,Cg,CU] [] [],CT):=by kernel_rfl
theorem b4:BO (AU 0 [BU,Cg,CU] [] []) [99,104,97,110,110,101,108,32,115,101,97,32,98,97,114,32,49,48,48,48,32,50,48]=G (AU 0 [BU,Cg,CU] [DU] [],CT):=by kernel_rfl
theorem b5:BO (AU 0 [BU,Cg,CU] [DU] []) [99,104,97,110,110,101,108,32,98,97,114,32,113,117,97,121,32,57,48,48,32,49,53]=G (AU 0 [BU,Cg,CU] [DU,FP] [],CT):=by kernel_rfl
theorem b6:BO (AU 0 [BU,Cg,CU] [DU,FP] []) [109,101,97,110,32,49,53,48]=G (AU 150 [BU,Cg,CU] [DU,FP] [],CT):=by kernel_rfl
theorem b7:BO (AU 150 [BU,Cg,CU] [DU,FP] []) [115,104,105,112,32,115,48,32,49,53,48,32,56,48,48,32,48,32,49]=G (AU 150 [BU,Cg,CU] [DU,FP] [Sd],CT):=by kernel_rfl
theorem eM:∃v,v≠ []∧D0 base (AU 0 [] [] []) [] (AU 150 [BU,Cg,CU] [DU,FP] [Sd]) v:=by
 refine⟨_,?_,⟨_,_,b1,by simp[CT,Au],_,_,b2,by simp[CT,Au],_,_,b3,by simp[CT,Au],_,_,b4,by simp[CT,Au],_,_,b5,by simp[CT,Au],_,_,b6,by simp[CT,Au],_,_,b7,by simp[CT,Au],V,V⟩⟩;simp[CT]
theorem pA:(Ap (AU 0 [] [] []).Harbour&&Ap (AU 0 [BU] [] []).Harbour&&Ap (AU 0 [BU,Cg] [] []).Harbour&&Ap (AU 0 [BU,Cg,CU] [] []).Harbour&&Ap (AU 0 [BU,Cg,CU] [DU] []).Harbour&&Ap (AU 0 [BU,Cg,CU] [DU,FP] []).Harbour&&Ap (AU 150 [BU,Cg,CU] [DU,FP] []).Harbour&&Ap (AU 150 [BU,Cg,CU] [DU,FP] [Sd]).Harbour)=T:=by kernel_rfl
theorem W3{m p g f}(h:Ap (AU m p g f).Harbour=T):Inv (AU m p g f):=⟨h,⟨fun a ha=>(by cases ha),fun i j hi=>absurd hi (by simp[AU]),by simp[AU]⟩,by simp[AU],by simp[AU]⟩
open Go.Lib
abbrev LL(l:N (N U))(n:Q)(v:N U)(i:O)(c:X6):Option Bool:=Gw l n v i c.Harbour.Forecast.Tide.Mean c.Harbour.Forecast.Tide.Parts c.Harbour.Forecast.Surges c.Harbour.Chart.Points c.Harbour.Chart.Segments c.Harbour.Fleet c.Harbour.Regime.Gap c.Harbour.Regime.NoMeet c.Harbour.Crew.Tugs c.Harbour.Crew.Pilots c.Harbour.Crew.Rest c.Harbour.Crew.Moves c.Calls c.Desk.Now c.Desk.Starts c.Desk.Cleared
abbrev SS(l:N (N U))(n:Q)(v:N U)(i:O)(c:X6):Option (N U × O):=Ge l n v i c.Harbour.Forecast.Tide.Mean c.Harbour.Forecast.Tide.Parts c.Harbour.Forecast.Surges c.Harbour.Chart.Points c.Harbour.Chart.Segments c.Harbour.Fleet c.Harbour.Regime.Gap c.Harbour.Regime.NoMeet c.Harbour.Crew.Tugs c.Harbour.Crew.Pilots c.Harbour.Crew.Rest c.Harbour.Crew.Moves c.Calls c.Desk.Now c.Desk.Starts c.Desk.Cleared
def Az(l:N (N U))(v:N U):Option Bool:=
 (CP l ([10]:N U)).bind fun r28=>
 (Jr r28).bind fun r29=>
 if(v==([]:N U)) then(
  G E)
 else(
  if(r29.1==v) then(
  if(decide ((zR .i64 ((l.length:O) - (1:O)))≤r29.2)) then(
   G (decide (r29.2≤(l.length:O))))
  else(
   G E))
  else(
  G E))
theorem NI{a b:Q}(h:a+b≤4000000000000000):AP a b=T:=by unfold AP; rw[decide_eq_true_eq]; omega
theorem cv{l n v c}:LL l (n+1) v (l.length:O) c=Az l v:=by
 unfold LL;rw[Gw,if_neg (by simp)];rfl
theorem cw{l:N (N U)}{n:Q}{v:N U}{i:Q}{c c1:X6}{o:N U}(hl:l.length≤1000)(hi:i<l.length)(hv:v.length≤1000000000000000)(ho:o.length≤Au)(e:BO c l[i]=G (c1,o)):LL l (n+1) v (i:O) c=LL l n (if o= [] then v else(v++o)++ [10]) ((i+1:Q):O) c1:=by
 unfold Au at ho
 have e':BO ⟨⟨⟨⟨c.Harbour.Forecast.Tide.Mean,c.Harbour.Forecast.Tide.Parts⟩,c.Harbour.Forecast.Surges⟩,⟨c.Harbour.Chart.Points,c.Harbour.Chart.Segments⟩,c.Harbour.Fleet,⟨c.Harbour.Regime.Gap,c.Harbour.Regime.NoMeet⟩,⟨c.Harbour.Crew.Tugs,c.Harbour.Crew.Pilots,c.Harbour.Crew.Rest,c.Harbour.Crew.Moves⟩⟩,c.Calls,⟨c.Desk.Now,c.Desk.Starts,c.Desk.Cleared⟩⟩ l[i]=G (c1,o):=e;unfold LL;rw[Gw,if_pos (by simpa using hi),Aa hi,W,e',W,Ak hi (A5 (by omega))];by_cases h0:o= []
 ·subst h0;simp only[if_true];rw[if_pos (by simp)]
 ·rw[if_neg (by simpa using h0),if_pos (NI (show v.length+o.length≤_ by omega)),if_pos (NI (by simp; omega)),if_neg h0]
theorem cz{l:N (N U)}{n:Q}{v:N U}{i:Q}{c c1:X6}{o:N U}(hl:l.length≤1000)(hi:i<l.length)(hv:v.length≤1000000000000000)(ho:o.length≤Au)(e:BO c l[i]=G (c1,o)):SS l (n+1) v (i:O) c=SS l n (if o= [] then v else(v++o)++ [10]) ((i+1:Q):O) c1:=by
 unfold Au at ho
 have e':BO ⟨⟨⟨⟨c.Harbour.Forecast.Tide.Mean,c.Harbour.Forecast.Tide.Parts⟩,c.Harbour.Forecast.Surges⟩,⟨c.Harbour.Chart.Points,c.Harbour.Chart.Segments⟩,c.Harbour.Fleet,⟨c.Harbour.Regime.Gap,c.Harbour.Regime.NoMeet⟩,⟨c.Harbour.Crew.Tugs,c.Harbour.Crew.Pilots,c.Harbour.Crew.Rest,c.Harbour.Crew.Moves⟩⟩,c.Calls,⟨c.Desk.Now,c.Desk.Starts,c.Desk.Cleared⟩⟩ l[i]=G (c1,o):=e;unfold SS;rw[Ge,if_pos (by simpa using hi),Aa hi,W,e',W,Ak hi (A5 (by omega))];by_cases h0:o= []
 ·subst h0;simp only[if_true];rw[if_pos (by simp)]
 ·rw[if_neg (by simpa using h0),if_pos (NI (by simp; omega)),if_pos (NI (by simp; omega)),if_neg h0,zO]
theorem rf{l:N (N U)}(hl:l.length≤100):∀(k i n:Q) (v:N U) (c c':X6) (w:N U),i+k=l.length→k<n→v.length≤i*(Au+1)→D0 (l.drop i) c v c' w→LL l n v (i:O) c=Az l w:=by
 intro k
 induction k with
 | zero=>
  intro i n v c c' w hi hn hv h;obtain⟨q,rfl⟩:=sn (n:=n) (by omega);have:i=l.length:=by omega
  subst this;rw[zP] at h;obtain⟨rfl,rfl⟩:=h;exact cv
 | succ k ih=>
  intro i n v c c' w hi hn hv h;obtain⟨q,rfl⟩:=sn (n:=n) (by omega);have hlt:i<l.length:=by omega
  rw[zI hlt] at h;obtain⟨c1,o,e,ho,s⟩:=h;have hb:i*(Au+1)≤100*(Au+1):=Nat.mul_le_mul_right _ (by omega);rw[cw (by omega) hlt (by unfold Au at hb hv; omega) ho e];refine ih (i+1) q _ c1 c' w (by omega) (by omega) ?_ s;have hx:(i+1)*(Au+1)=i*(Au+1)+(Au+1):=Nat.succ_mul _ _;rw[hx];generalize i*(Au+1)=P at hv
  split
  ·omega
  ·simp only[Y,Z,X]; omega
theorem vh{l:N (N U)}(hl:l.length≤100):∀(k i n:Q) (v:N U) (c c':X6) (w:N U),i+k=l.length→k<n→v.length≤i*(Au+1)→D0 (l.drop i) c v c' w→SS l n v (i:O) c=G (w,(l.length:O)):=by
 intro k
 induction k with
 | zero=>
  intro i n v c c' w hi hn hv h;obtain⟨q,rfl⟩:=sn (n:=n) (by omega);have:i=l.length:=by omega
  subst this;rw[zP] at h;obtain⟨rfl,rfl⟩:=h;unfold SS;rw[Ge,if_neg (by simp)]
 | succ k ih=>
  intro i n v c c' w hi hn hv h;obtain⟨q,rfl⟩:=sn (n:=n) (by omega);have hlt:i<l.length:=by omega
  rw[zI hlt] at h;obtain⟨c1,o,e,ho,s⟩:=h;have hb:i*(Au+1)≤100*(Au+1):=Nat.mul_le_mul_right _ (by omega);rw[cz (by omega) hlt (by unfold Au at hb hv; omega) ho e];refine ih (i+1) q _ c1 c' w (by omega) (by omega) ?_ s;have hx:(i+1)*(Au+1)=i*(Au+1)+(Au+1):=Nat.succ_mul _ _;rw[hx];generalize i*(Au+1)=P at hv
  split
  ·omega
  ·simp only[Y,Z,X]; omega
theorem vT:∀d,Inv d→BO d []=G (d,[]):=fun d I=>by
 rw[show BO d []=(Gm d).bind fun r1=>G (r1,[]) by kernel_rfl,Qu I];rfl
theorem uM:((base++drawn).all fun x=>x.all (fun b=> !(b==10))&&decide (x.length≤40))=T:=by kernel_rfl
theorem vj{m:N (N U)}{x:N U}{c':X6}{w:N U}(h13:m.length<40)(hb:∀y∈m++ [x],(∀b∈y,b≠10)∧y.length≤40)(hc:x= []→D0 m (AU 0 [] [] []) [] c' w)(s:D0 (m++ [x]) (AU 0 [] [] []) [] c' w) :
  ∃k:Q,Jr (join (m++ [x]) [10])=G (w,(k:O))∧(m++ [x]).length≤k+1∧k≤(m++ [x]).length:=by
 have hl:(m++ [x]).length=m.length+1:=by simp
 have hj:=Ih (c:=10) fun x hx=>(hb x hx).2
 have hj2:(40+1)*(m++ [x]).length≤(40+1)*40:=zL _ (by omega);have sp:split 10 (join (m++ [x]) [10])=m++ [x]:=Y7 10 _ (by simp) fun x hx=>(hb x hx).1
 have e1:(m++ [x]).getD ((m++ [x]).length - 1) []=x:=by simp
 have e2:(m++ [x]).take ((m++ [x]).length - 1)=m:=by simp
 unfold Jr;rw[py (by omega),W];unfold Ry;rw[sp,e1,e2]
 have go:∀r:N (N U),r.length≤40→D0 r (AU 0 [] [] []) [] c' w→(if decide ((40:O)<(r.length:O))=T then G (([]:N U),(-1:O)) else(Jm).bind fun r3=>SS r bigN [] 0 r3)=G (w,(r.length:O)):=fun r hr s=>by
  rw[if_neg (by simp; omega),WC,W];exact vh (by omega) r.length 0 bigN [] _ _ _ (by omega) (Aj (A5 (by omega))) (by simp) (by rw[zM]; exact s)
 split
 ·rename_i hx
  exact⟨m.length,go m (by omega) (hc hx),by omega,by omega⟩
 ·exact⟨(m++ [x]).length,go _ (by omega) s,by omega,by omega⟩
theorem Y3{α:Type}:∀(e:N α),1≤e.length→∃m x,e=m++ [x]
 | [x],_=>⟨[],x,rfl⟩
 | y::z::e,_=>by
  obtain⟨m,x,h⟩:=Y3 (z::e) (by simp);exact⟨y::m,x,by rw[h]; rfl⟩
theorem law_FnConsole(a0:N O)(ok:DsOk [.sc (.sl (List.map r8 a0))]):Ot a0=G T:=by
 unfold Ot;by_cases h1:(1048576:O)<(a0.length:O)
 ·rw[if_pos (by simpa using h1)]
 ·rw[if_neg (by simpa using h1)];obtain⟨e,e1,e2,e3,e4⟩:=sR (b:=a0) (by rw[Bo]; omega);rw[e1,W,WC,W];have hbase:base.length=7:=rfl;have hlen:(base++e).length=7+e.length:=by rw[Y,hbase]
  have hall:=pA;simp only[C] at hall
  obtain⟨⟨⟨⟨⟨⟨⟨k1,k2⟩,k3⟩,k4⟩,k5⟩,k6⟩,k7⟩,k8⟩:=hall;obtain⟨v7,hv,s7⟩:=eM;obtain⟨c',w,s,_⟩:=XZ e _ v7 (fun x hx=>Uc x (e4 x hx)) (W3 k8);have sw:=Sb _ _ _ _ _ _ _ _ s7 s;have hw:=Y0 _ _ _ _ _ s hv;have hpl:=uM;rw[zQ] at hpl
  have hb:∀x∈base++e,(∀b∈x,b≠10)∧x.length≤40:=fun x hx=>by
   have hx':x∈base++drawn:=by
    rcases zB.1 hx with h|h
    ·exact zE _ h
    ·exact zA _ (e4 x h)
   have h:=hpl x hx';simp only[C,zQ,decide_eq_true_eq] at h;exact⟨fun b hb=>by simpa using h.1 b hb,h.2⟩
  have L:=rf (l:=base++e) (by omega) (base++e).length 0 bigN [] _ _ _ (by omega) (Aj (A5 (by omega))) (by simp) (by rw[zM]; exact sw);obtain⟨m,x,rfl⟩:=Y3 e e2;rw[← zO] at sw hb hlen L ⊢
  rw[Y] at e3
  simp only[Y,Z,X,hbase] at hlen e3
  obtain⟨k,r1,r2,r3⟩:=vj (m:=base++m) (x:=x) (by simp only[Y,hbase]; omega) hb (fun hx=>by
   subst hx;exact Sb _ _ _ _ _ _ _ _ s7 (XY _ _ _ _ _ vT (fun y hy=>Uc y (e4 y (zE _ hy))) (W3 k8) s)) sw
  have hlen2:(base++m++ [x]).length=8+m.length:=by simp only[Y,Z,X,hbase]; omega
  have hj:=Ih (c:=10) fun x hx=>(hb x hx).2
  have hj2:(40+1)*(base++m++ [x]).length≤(40+1)*40:=zL _ (by omega);refine Eq.trans L ?_;unfold Az;rw[JZ (by omega) (by omega),W,r1,W,if_neg (by simpa using hw),if_pos (by simp),Ah (n:=((base++m++ [x]).length:O) - 1) (by omega) (by omega),if_pos (by rw[decide_eq_true_eq]; omega)];rw[decide_eq_true (by omega)]
end Go.Vi
