/-
Plain laws. No condition.
-/
import Derived.Test.YtmgfndipofbbaaaGreatOO8e
namespace Go.Vi
set_option linter.all false
open Option renaming bind_some → O, some → N
open List renaming getElem_mem → P, take_length → V
open Nat renaming zero_le → Q
open Bool renaming and_eq_true → U, true → T, false → E
theorem qD{l:List X2}(h:l.length≤1000):Eb l=N l:=by
 unfold Eb BH;rw[if_pos ⟨by omega,by omega,by omega,by omega⟩];simp only[O,Int.toNat_zero,List.replicate_zero,List.nil_append];rw[if_pos (by simp only[AP,List.length_nil,decide_eq_true_eq]; omega)]
def GH(h:X7)(l:List X2)(o:X2):Prop:=∀x∈l,E7 h.Chart h.Regime x.Passages o.Passages=E
theorem uI{h:X7}(s:HSmall h)(hh:BS h=T){l:List X2}{o:X2}(hl:l.length≤11)(H:E1 h (l++ [o])):∃b,Mo h l o=N b∧(b=T↔GH h l o∧FitP h (l++ [o])):=by
 obtain⟨_,hc,_,hr,_⟩:=Ek hh;obtain⟨b,b1,b2⟩:=qR s hh (pl:=l++ [o]) (by simp; omega) H;have Ho:=H o (by simp)
 have e:=E5 (L:=Hu l h o) l (fun x=>E7 h.Chart h.Regime x.Passages o.Passages) (N E) (N b) (Bb (by omega)) (fun n i hi=>by
  have Hi:=H l[i] (List.mem_append_left _ (P hi));rw[Hu]
  simp only[Au,hi,decide_true,if_true,Ax hi,O,(dV hc hr Hi.1.inn Ho.1.inn (Bb (by omega)) (Bb (by omega))).2]) fun n=>by
   rw[Hu,if_neg (by simp),qD (by omega),O,if_pos (CZ (by omega) (by simp) (by omega)),b1];rfl
 have e:Mo h l o=_:=e;rw[e];cases ha:l.any fun x=>E7 h.Chart h.Regime x.Passages o.Passages with
 | true=>
  obtain⟨x,x1,x2⟩:=List.any_eq_true.1 ha;exact⟨E,rfl,(fun h=>by cases h),fun K=>by rw[K.1 x x1] at x2; cases x2⟩
 | false=>
  refine⟨b,rfl,b2.trans ⟨fun F=>⟨fun x hx=> ?_,F⟩,fun K=>K.2⟩⟩;have:=List.any_eq_false.1 ha x hx;simpa using this
theorem uH{h:X7}(s:HSmall h)(hh:BS h=T){pl:List X2}(hl:pl.length≤12)(H:E1 h pl):∃b,Sp h pl=N b∧(b=T↔(∀i (hi:i<pl.length),GH h (pl.take i) pl[i])∧FitP h pl):=by
 obtain⟨_,hc,_,hr,_⟩:=Ek hh;have hlm:pl.length≤maxLen:=Bb (by omega);obtain⟨b,b1,b2⟩:=A4w s hh hl H
 obtain⟨x,x1,x2⟩:=BZ (fun n i=>∃x,Ff pl h n (i:Int)=N x∧(x=T↔(∀j (hj:j<pl.length),i≤j→GH h (pl.take j) pl[j])∧FitP h pl)) hlm
  (fun n=>⟨b,by rw[Ff,if_neg (by simp),A4v (by omega) fun o ho=>(H o ho).2,O,b1]; rfl,b2.trans ⟨fun F=>⟨fun j h1 h2=>by omega,F⟩,fun K=>K.2⟩⟩)
  (fun n i hi ih=>by
   obtain⟨x,x1,x2⟩:=ih;have Hi:=H _ (P hi)
   have e:=E5 (L:=IC pl (i:Int) h pl[i] (pl.take i) ((pl.take i).length:Int) (Ff pl h n)) (pl.take i) (fun x=>E7 h.Chart h.Regime pl[i].Passages x.Passages) (N E) (Ff pl h n (IntKind.i64.wrap ((i:Int)+1))) (Bb (by simp; omega)) (fun m j hj=>by
    have Hj:=H _ (List.mem_of_mem_take (P hj));rw[IC];simp only[Au,hj,decide_true,if_true,Ax hj,O,(dV hc hr Hi.1.inn Hj.1.inn (Bb (by omega)) (Bb (by omega))).1]) fun m=>by rw[IC,if_neg (by simp)]
   rw[Ff];simp only[Au,hi,decide_true,if_true,Ax hi,O,EL (Nat.le_of_lt hi),List.drop_zero,Nat.sub_zero];rw[e,AT hi hlm,x1];cases ha:(pl.take i).any fun x=>E7 h.Chart h.Regime pl[i].Passages x.Passages with
   | true=>
    obtain⟨y,y1,y2⟩:=List.any_eq_true.1 ha;exact⟨E,rfl,(fun h=>by cases h),fun K=>by rw[dU,K.1 i hi (Nat.le_refl _) y y1] at y2; cases y2⟩
   | false=>
    refine⟨x,rfl,x2.trans ⟨fun K=>⟨fun j hj hij=> ?_,K.2⟩,fun K=>⟨fun j hj hij=>K.1 j hj (by omega),K.2⟩⟩⟩;by_cases e:j=i
    ·subst e;intro y hy;have:=List.any_eq_false.1 ha y hy;rw[dU];simpa using this
    ·exact K.1 j hj (by omega)) (Q _)
 exact⟨x,x1,x2.trans ⟨fun K=>⟨fun i hi=>K.1 i hi (Q _),K.2⟩,fun K=>⟨fun i hi _=>K.1 i hi,K.2⟩⟩⟩
theorem FitP.nil{h:X7}(hh:BS h=T):FitP h []:=by
 have hw:=(Ek hh).2.2.2.2;simp only[EO,U,decide_eq_true_eq] at hw
 exact⟨by simp[BW,BJ,BY],⟨0,Wn,hw.1.1⟩,0,Wn,hw.2.1.1⟩
def Gu(h:X7)(a:Xa)(o:X2):Bool:=(H9 h a o).getD E
theorem Ww{h:X7}(s:HSmall h)(a:Xa){o:X2}(hl:o.Passages.length≤1048576):Kc h a o=N (Gu h a o)∧H9 h a o=N (Gu h a o)∧(Gu h a o=T→GoodP h.Chart h.Fleet o.Passages∧o.Passages.length≤1048576):=by
 obtain⟨b,b1,b2,b3⟩:=yg s a (o:=o) (by omega);have:Gu h a o=b:=by unfold Gu; rw[b2]; rfl
 rw[this];exact⟨b1,b2,fun hb=>⟨b3 hb,hl⟩⟩
theorem yh{h:X7}(s:HSmall h){cs:List Xa}{pl:List X2}(hpl:pl.length≤1048576)(hp:∀o∈pl,o.Passages.length≤1048576) :
  ∃b,Ns h cs pl=N b∧LX h cs pl=N b∧(b=T→BS h=T∧cs.length≤6∧pl.length=cs.length∧∀a∈cs,CU h a=T):=by
 obtain⟨b,b1,b2,b3⟩:=pv s (cs:=cs);unfold Ns LX;rw[b1,b2,O,O];cases b with
 | false=>exact⟨E,rfl,rfl,fun h=>by cases h⟩
 | true=>
  obtain⟨hh,h6,hcs⟩:=b3 rfl;simp only[if_true];by_cases hlen:pl.length=cs.length
  case neg=>
   have:((pl.length:Int) !=(cs.length:Int))=T:=by rw[bne_iff_ne]; omega
   simp only[this,if_true];exact⟨E,rfl,rfl,fun h=>by cases h⟩
  have hz:((pl.length:Int) !=(cs.length:Int))=E:=by rw[hlen]; simp
  simp only[hz,Bool.false_eq_true,if_false];have hlm:pl.length≤maxLen:=Bb (by omega);let Opt:Nat→Prop:=fun j=>∀(h1:j<pl.length) (h2:j<cs.length),Gu h cs[j] pl[j]=T
  have good:∀i,(∀j,j<i→Opt j)→E1 h (pl.take i):=fun i H o ho=>by
   obtain⟨j,hj,rfl⟩:=List.getElem_of_mem ho;simp only[List.length_take] at hj
   rw[List.getElem_take];exact(Ww s cs[j] (hp _ (P _))).2.2 (H j (by omega) (by omega) (by omega))
  have hs:∃x,G4 cs pl h bigN 0=N x∧(x=T↔(∀j,Opt j)∧(∀i (hi:i<pl.length),GH h (pl.take i) pl[i])∧FitP h pl):=by
   obtain⟨x,x1,x2⟩:=BZ (fun n i=>(∀j,j<i→Opt j)→∃x,G4 cs pl h n (i:Int)=N x∧(x=T↔(∀j,Opt j)∧(∀i (hi:i<pl.length),GH h (pl.take i) pl[i])∧FitP h pl)) hlm
    (fun n H=>by
     have G:=good _ H;rw[V] at G
     obtain⟨x,x1,x2⟩:=uH s hh (by omega) G;exact⟨x,by rw[G4,if_neg (by simp),x1]; rfl,x2.trans ⟨fun K=>⟨fun j h1 h2=>H j h1 h1 h2,K⟩,fun K=>K.2⟩⟩)
    (fun n i hi ih H=>by
     have hi':i<cs.length:=by omega
     obtain⟨e1,_,_⟩:=Ww s cs[i] (hp _ (P hi));rw[G4];simp only[Au,hi,decide_true,if_true,Ax hi,Ax hi',O,e1,AT hi hlm];cases hob:Gu h cs[i] pl[i] with
     | false=>exact⟨E,rfl,(fun h=>by cases h),fun K=>by have:=K.1 i hi hi'; rw[hob] at this; cases this⟩
     | true=>
      exact ih fun j hj=>by
       by_cases e:j=i
       ·subst e; exact fun _ _=>hob
       ·exact H j (by omega)) (Q _) fun j h=>by omega
   exact⟨x,x1,x2⟩
  have hi_:∃x,FM pl cs h bigN 0=N x∧(x=T↔∀j (hj:j<pl.length),Opt j∧GH h (pl.take j) pl[j]∧FitP h (pl.take (j+1))):=by
   obtain⟨x,x1,x2⟩:=BZ (fun n i=>(∀j,j<i→Opt j)→∃x,FM pl cs h n (i:Int)=N x∧(x=T↔∀j (hj:j<pl.length),i≤j→Opt j∧GH h (pl.take j) pl[j]∧FitP h (pl.take (j+1)))) hlm
    (fun n H=>⟨T,by rw[FM,if_neg (by rw[hlen]; simp)],⟨(fun _ j h1 h2=>by omega),fun _=>rfl⟩⟩)
    (fun n i hi ih H=>by
     have hi':i<cs.length:=by omega
     obtain⟨_,e1,_⟩:=Ww s cs[i] (hp _ (P hi));rw[FM];simp only[Au,hi',decide_true,if_true,Ax hi,Ax hi',O,e1,AT hi hlm,EL (Nat.le_of_lt hi),List.drop_zero,Nat.sub_zero];cases hob:Gu h cs[i] pl[i] with
     | false=>exact⟨E,rfl,(fun h=>by cases h),fun K=>by have:=(K i hi (Nat.le_refl _)).1 hi hi'; rw[hob] at this; cases this⟩
     | true=>
      have H':∀j,j<i+1→Opt j:=fun j hj=>by
       by_cases e:j=i
       ·subst e; exact fun _ _=>hob
       ·exact H j (by omega)
      have ht:pl.take (i+1)=pl.take i++ [pl[i]]:=by simp
      have G:=good _ H';rw[ht] at G
      obtain⟨b,b1,b2⟩:=uI s hh (by simp; omega) G;obtain⟨x,x1,x2⟩:=ih H';simp only[if_true,b1,O,x1];cases b with
      | false=>exact⟨E,rfl,(fun h=>by cases h),fun K=>by have:=(K i hi (Nat.le_refl _)).2; rw[ht] at this; exact b2.2 this⟩
      | true=>
       have hb:=b2.1 rfl;rw[← ht] at hb
       refine⟨x,rfl,x2.trans ⟨fun K j hj hij=> ?_,fun K j hj hij=>K j hj (by omega)⟩⟩;by_cases e:j=i
       ·subst e; exact⟨fun _ _=>hob,hb⟩
       ·exact K j hj (by omega)) (Q _) fun j h=>by omega
   exact⟨x,x1,x2.trans ⟨fun K j hj=>K j hj (Q _),fun K j hj _=>K j hj⟩⟩
  obtain⟨x,x1,x2⟩:=hs;obtain⟨y,y1,y2⟩:=hi_
  have exy:x=y:=by
   rw[Bool.eq_iff_iff,x2,y2];constructor
   ·rintro⟨k1,k2,k3⟩ j hj
    refine⟨k1 j,k2 j hj,?_⟩;have G:=good pl.length fun j _=>k1 j
    rw[V,← List.take_append_drop (j+1) pl] at G
    rw[← List.take_append_drop (j+1) pl] at k3
    exact FitP.app hh s G (by simp; omega) k3
   ·intro K;refine⟨fun j h1 h2=>(K j h1).1 h1 h2,fun i hi=>(K i hi).2.1,?_⟩;by_cases h0:pl= []
    ·rw[h0]; exact FitP.nil hh
    ·have hpos:=List.length_pos_iff.2 h0;have:=(K (pl.length - 1) (by omega)).2.2;rw[show pl.length - 1+1=pl.length by omega,V] at this
     exact this
  subst exy;exact⟨x,x1,y1,fun _=>⟨hh,h6,hlen,hcs⟩⟩
theorem mk4:BH (4:Int) (4:Int) 8=N 4:=DA (n:=4) (by omega) (by omega)
theorem oJ{h:X7}(hh:BS h=T){cs:List Xa}{pl:List X2}(hl:pl.length≤12)(hlen:pl.length=cs.length)(hcs:∀a∈cs,CU h a=T) :
  ∃r,NT h cs pl=N r∧Mg h cs pl=N r∧r.Waits.length=4∧r.Calls.length=4:=by
 unfold NT Mg;simp only[mk4,O];have hlm:pl.length≤maxLen:=Bb (by omega)
 refine BZ (fun n i=>∀v w:List Int,v.length=4→w.length=4→∃r,ID pl cs h n (i:Int) v w=N r∧Hm cs pl h n (i:Int) v w=N r∧r.Waits.length=4∧r.Calls.length=4) hlm
  (fun n v w h1 h2=>⟨⟨v,w⟩,by rw[ID,if_neg (by rw[hlen]; simp)],by rw[Hm,if_neg (by simp)],h1,h2⟩) (fun n i hi ih v w h1 h2=> ?_) (Q _) _ _ (by simp) (by simp)
 have hi':i<cs.length:=by omega
 have ha:=hcs _ (P hi');simp only[CU,U] at ha
 obtain⟨s1,s2⟩:=IK ha.1;have hso:=(Kq (Ek hh).2.2.1).2 _ s2
 have hL:idx (BV h.Fleet cs[i].Ship).Line 4=T:=by
  simp only[CG,U,decide_eq_true_eq] at hso
  exact W8.2 (by omega)
 rw[ID,Hm];simp only[Au,hi,hi',decide_true,if_true,Ax hi,Ax hi',O,s1,(Kz (l:=v) (0:Int) (by rw[h1]; exact hL)).1,(Kz (l:=w) (0:Int) (by rw[h2]; exact hL)).1,AT hi hlm];exact ih _ _ (by simp[h1]) (by simp[h2])
theorem oI{h:X7}(s:HSmall h){cs:List Xa}{pl:List X2}(hpl:pl.length≤1048576)(hp:∀o∈pl,o.Passages.length≤1048576) :
  ∃r,Ng h cs pl=N r∧Jy h cs pl=N r∧r.1.Waits.length≤4∧r.1.Calls.length≤4:=by
 obtain⟨b,b1,b2,b3⟩:=yh s (cs:=cs) hpl hp;unfold Ng Jy;rw[b1,b2,O,O];cases b with
 | false=>exact⟨_,rfl,rfl,by simp,by simp⟩
 | true=>
  obtain⟨hh,h6,hlen,hcs⟩:=b3 rfl;obtain⟨r,r1,r2,r3,r4⟩:=oJ hh (by omega) hlen hcs;exact⟨(r,T),by simp only[if_true,r1,O],by simp only[if_true,r2,O],by simp only[r3]; omega,by simp only[r4]; omega⟩
end Go.Vi
