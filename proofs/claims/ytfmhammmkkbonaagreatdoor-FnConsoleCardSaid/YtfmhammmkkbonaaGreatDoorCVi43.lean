/-
The value level. No condition.
-/
import Derived.Test.YtfmhammmkkbonaaGreatDoorCVi42
import Derived.MapKept
namespace Go.Vi
set_option linter.all false
open Go.MapKept
open Option renaming map_some → W, some → G, none → L
open List renaming replicate → Y
open Bool renaming true → F, false → E
open _root_ renaming List → N, Int → O, Nat → U, UInt8 → V
def Cr:U→N (N V × O)→N MapEntry
 | _,[]=> []
 | n,(k,v)::r=>⟨.string ⟨k.toArray⟩,.int .i64 v,n⟩::Cr (n+1) r
def C6(l:N (N V × O)):Obj:= .map (Cr 0 l).toArray l.length
def DO(s:N V):U→N (N V × O)→Option (U × Value)
 | _,[]=>L
 | i,(k,v)::r=>if s=k then G (i,.int .i64 v) else DO s (i+1) r
def CS(s:N V):N (N V × O)→O
 | []=>0
 | (k,v)::r=>if s=k then v else CS s r
theorem fM(a b:N V):((⟨a.toArray⟩:ByteArray)==⟨b.toArray⟩)=decide (a=b):=by
 rw[Bool.eq_iff_iff,bytes_beq,decide_eq_true_eq];constructor
 ·intro h;have:=congrArg ByteArray.data h;simpa using this
 ·rintro rfl; rfl
theorem QV(s:N V):∀(l:N (N V × O)) (n i:U),Instr.findNow .string (.string ⟨s.toArray⟩) (Cr n l) i=G (DO s i l)
 | [],n,i=>rfl
 | (k,v)::r,n,i=>by
  have e:Instr.sameNow .string (.string ⟨s.toArray⟩) (.string ⟨k.toArray⟩)=G (decide (s=k)):=by rw[← fM]; rfl
  rw[Cr,Instr.findNow];simp only[e,DO];by_cases h:s=k
  ·simp[h]
  ·simp[h,QV s r]
theorem Wr(s:N V):∀(l:N (N V × O)) (i:U),(DO s i l=L∧CS s l=0)∨∃j,DO s i l=G (j,.int .i64 (CS s l))
 | [],i=> .inl ⟨rfl,rfl⟩
 | (k,v)::r,i=>by
  unfold DO CS;by_cases h:s=k
  ·simp[h]
  ·simp only[h,if_false];exact Wr s r (i+1)
theorem Wq(x:N V × O):∀(l:N (N V × O)) (n:U),Cr n (l++ [x])=Cr n l++ [⟨.string ⟨x.1.toArray⟩,.int .i64 x.2,n+l.length⟩]
 | [],n=>by simp[Cr]
 | (k,v)::r,n=>by
  rw[List.cons_append,Cr,Cr,Wq x r];simp only[List.cons_append,List.length_cons];rw[show n+1+r.length=n+(r.length+1) by omega]
section
variable {P : Program} {mt kt et : TypeId}
theorem vV(hm:P.underlying mt=G (.map kt et))(hk:P.underlying kt=G .string){w:World}{l:N (N V × O)}{k:N V}{v:O}(hn:DO k 0 l=L) :
  (Instr.mapUpdate mt (.map (G w.heap.size)) (.string ⟨k.toArray⟩) (.int .i64 v)).run P (w.alloc (C6 l))= .ok () (w.alloc (C6 (l++ [(k,v)]))):=by
 have hb:(w.alloc (C6 l)).heap[w.heap.size]?=G (.map (Cr 0 l).toArray l.length):=(heap_alloc w _).1;have h1:=run_underlying hm (w.alloc (C6 l));have h2:=Go.MapKept.run_getObj_map (P:=P) hb;have h3:=run_checkKey (w:=w.alloc (C6 l)) (k:= .string ⟨k.toArray⟩) hk trivial E 9999;have h4:(Instr.findKey kt (.string ⟨k.toArray⟩) (Cr 0 l)).run P (w.alloc (C6 l))= .ok L (w.alloc (C6 l)):=run_findKey hk (by rw[QV,hn]);have h5:=run_setObj_map (P:=P) (.map ((Cr 0 l).toArray.push ⟨.string ⟨k.toArray⟩,.int .i64 v,l.length⟩) (l.length+1)) hb
 have e:({w.alloc (C6 l) with heap:=(w.alloc (C6 l)).heap.setIfInBounds w.heap.size (.map ((Cr 0 l).toArray.push ⟨.string ⟨k.toArray⟩,.int .i64 v,l.length⟩) (l.length+1))}:World)=w.alloc (C6 (l++ [(k,v)])):=by
  have e1:C6 (l++ [(k,v)])= .map ((Cr 0 l).toArray.push ⟨.string ⟨k.toArray⟩,.int .i64 v,l.length⟩) (l.length+1):=by
   unfold C6;rw[Wq];simp
  rw[e1];unfold World.alloc;simp only;congr 1
  refine Array.ext_getElem? fun i=> ?_
  rw[Array.getElem?_setIfInBounds];by_cases h:w.heap.size=i
  ·subst h; simp
  ·simp only[h,if_false];rw[Array.getElem?_push,Array.getElem?_push];simp only[Ne.symm h,if_false]
 rw[e] at h5
 simp only[List.push_toArray] at h5
 unfold Instr.mapUpdate;simp[h1,h2,h3,h4];exact h5
theorem vS(hm:P.underlying mt=G (.map kt et))(hk:P.underlying kt=G .string){w:World}{r:U}{l:N (N V × O)}{s:N V}(hz:(zeroValue et).run P w= .ok (.int .i64 0) w)(hb:w.heap[r]?=G (C6 l)) :
  (Instr.lookup mt (.map (G r)) (.string ⟨s.toArray⟩) E).run P w= .ok (.int .i64 (CS s l)) w:=by
 have h1:=run_underlying hm w;have h2:=Go.MapKept.run_getObj_map (P:=P) (show w.heap[r]?=G (.map (Cr 0 l).toArray l.length) from hb);have h3:=run_checkKey (w:=w) (k:= .string ⟨s.toArray⟩) hk trivial (Cr 0 l).toArray.isEmpty 9999;have h4:(Instr.findKey kt (.string ⟨s.toArray⟩) (Cr 0 l)).run P w= .ok (DO s 0 l) w:=run_findKey hk (by rw[QV]);unfold Instr.lookup;rcases Wr s l 0 with ⟨e1,e2⟩|⟨j,e1⟩
 ·rw[e1] at h4
  simp at h3
  simp[h1,h2,h3,h4,hz,e2]
 ·rw[e1] at h4
  simp at h3
  simp[h1,h2,h3,h4]
end
section
variable {P : Program} {A : Ar} {B : U} {w0 : Base} {w w' : World} {nm : Ab} {σ τ : St} {a : Act} {ops : Array Oper} {o : Oper} {rest : N Oper} {Q : Exit → Act → World → Prop} {g : Option (U × Bool)}
theorem Rel.weak{tmps:Array Value}(R:Rel A B w0 nm τ tmps w)(hr:σ.rows=τ.rows)(hb:σ.bx=τ.bx)(he:∀k,σ.get k= .undef∨σ.get k=τ.get k):Rel A B w0 nm σ tmps w:=by
 obtain⟨e1,b1,r1⟩:=σ;obtain⟨e2,b2,r2⟩:=τ;simp only at hr hb
 subst hr hb;refine⟨R.below,R.size,R.all,R.good,R.names,R.inj,R.pin,fun k=> ?_,R.bxs⟩;rcases he k with h|h
 ·rw[h]; exact .undef
 ·rw[h]; exact R.env k
theorem CZ(R:Rel A B w0 nm σ a.tmps w)(hg:E1 ops o.guard=G g)(ha:AB g σ True False):Region.wanted o (yielded ops a.tmps)=F:=by
 rcases Mm R hg ha with h|h
 ·exact h.1
 ·exact h.2.elim
theorem Z0(R:Rel A B w0 nm σ a.tmps w)(hg:E1 ops o.guard=G g)(ha:AB g σ False True):Region.wanted o (yielded ops a.tmps)=E:=by
 rcases Mm R hg ha with h|h
 ·exact h.2.elim
 ·exact h.1
theorem PC(hw:Region.wanted o (yielded ops a.tmps)=F){v:Value}(hrun:(execOp a.eval o).run P w= .ok (.value v) w')(H:wpList P ops Q rest (a.put o.dst v) w'):wpList P ops Q (o::rest) a w:=by
 refine wpList_step fun K hK=> ?_
 rw[if_pos hw];unfold Oper.wp;rw[hrun,Oper.upon_value];exact hK _ _ H
theorem PB(hw:Region.wanted o (yielded ops a.tmps)=F)(hrun:(execOp a.eval o).run P w= .ok .skip w')(H:wpList P ops Q rest (a.put o.dst undef) w'):wpList P ops Q (o::rest) a w:=by
 refine wpList_step fun K hK=> ?_
 rw[if_pos hw];unfold Oper.wp;rw[hrun,Oper.upon_skip];exact hK _ _ H
theorem Y9(hw:Region.wanted o (yielded ops a.tmps)=E)(H:wpList P ops Q rest (a.put o.dst undef) w):wpList P ops Q (o::rest) a w:=wpList_skip hw H
theorem Ei(R:Rel A B w0 nm σ a.tmps w)(hw:Region.wanted o (yielded ops a.tmps)=F){d:U}{ao:AOp}{av:AV}(hd:o.dst=G d)(hc:A9 P d o=G ao)(hp:σ.pure ao=G (d,av))(hs:d<a.tmps.size)
  (H:∀v,VRel (cx A nm σ w) av v→Rel A B w0 nm (σ.set d av) (a.put (G d) v).tmps w→wpList P ops Q rest (a.put (G d) v) w):wpList P ops Q (o::rest) a w:=by
 obtain⟨_,v,h1,h2⟩:=Xw R hc hp;refine PC hw h1 ?_;rw[hd];exact H v h2 (R.put hs h2)
def BW(P:Program)(ops:Array Oper)(d:U)(o:Oper)(ao:AOp)(g:Option (U × Bool)):Prop:=o.dst=G d∧A9 P d o=G ao∧E1 ops o.guard=G g
def CL(ops:Array Oper)(d:Option U)(o:Oper)(x:Op)(g:Option (U × Bool)):Prop:=o.dst=d∧o.op=x∧E1 ops o.guard=G g
theorem EL(h:σ.get 16= .v (.sc (.dat (.bool E)))):AB (G (16,E)) σ True False:=by unfold AB; simp[h]
theorem UD(h:σ.get 16= .v (.sc (.dat (.bool F)))):AB (G (16,E)) σ False True:=by unfold AB; simp[h]
theorem QE{d:U}{v:Value}(h:d<a.tmps.size):(a.put (G d) v).eval (.tmp d)=v:=by simp[Act.eval,Act.put,h]
theorem QD{d k:U}{v:Value}(h:d≠k):(a.put (G d) v).eval (.tmp k)=a.eval (.tmp k):=by
 simp only[Act.eval,Act.put,Array.getD_eq_getD_getElem?,Array.getElem?_setIfInBounds,h,if_false]
theorem Bb{x:Option U}{v:Value}:(a.put x v).tmps.size=a.tmps.size:=by cases x<;>simp[Act.put]
theorem H8{x:Option U}{v:Value}:(a.put x v).defers=a.defers:=by cases x<;>rfl
theorem XT{s:Sem Value}{v:Value}(h:s.run P w= .ok v w'):(do pure (Next.value (← s)):Sem Next).run P w= .ok (.value v) w':=by simp[h]
theorem vU{s:Sem Unit}(h:s.run P w= .ok () w'):(do s; pure Next.skip:Sem Next).run P w= .ok .skip w':=by simp[h]
theorem lA{mt:TypeId}(h:o.op= .makeMap mt L):(execOp a.eval o).run P w= .ok (.value (.map (G w.heap.size))) (w.alloc (C6 [])):=by
 unfold execOp; rw[h]; exact XT (show(Instr.makeMap mt L).run P w= .ok (.map (G w.heap.size)) (w.alloc (.map #[] 0)) from rfl)
theorem ky{mt:TypeId}{m k v:Operand}(h:o.op= .insert mt m k v)(hr:(Instr.mapUpdate mt (a.eval m) (a.eval k) (a.eval v)).run P w= .ok () w'):(execOp a.eval o).run P w= .ok .skip w':=by
 unfold execOp; rw[h]; exact vU hr
theorem lB{x:Operand}(h:o.op= .move x):(execOp a.eval o).run P w= .ok (.value (a.eval x)) w:=by
 unfold execOp; rw[h]; rfl
theorem kz{mt:TypeId}{x k:Operand}{v:Value}(h:o.op= .lookup mt x k E)(hr:(Instr.lookup mt (a.eval x) (a.eval k) E).run P w= .ok v w'):(execOp a.eval o).run P w= .ok (.value v) w':=by
 unfold execOp; rw[h]; exact XT hr
theorem FQ(R:Rel A B w0 nm τ a.tmps w)(hg:τ.get 16= .v (.sc (.dat (.bool F))))(hgo:E1 ops o.guard=G (G (16,E))){d:U}(hd:o.dst=G d)(hs:d<a.tmps.size)
  (H:Rel A B w0 nm (τ.set d .undef) (a.put (G d) undef).tmps w→wpList P ops Q rest (a.put (G d) undef) w):wpList P ops Q (o::rest) a w:=by
 refine Y9 (Z0 R hgo (UD hg)) ?_;rw[hd];exact H (R.put hs .undef)
theorem PA(R:Rel A B w0 nm τ a.tmps w)(hg:τ.get 16= .v (.sc (.dat (.bool F))))(hgo:E1 ops o.guard=G (G (16,E)))(hd:o.dst=L)(H:wpList P ops Q rest a w):wpList P ops Q (o::rest) a w:=by
 refine Y9 (Z0 R hgo (UD hg)) ?_;rw[hd];exact H
theorem re{tmps:Array Value}(R:Rel A B w0 nm τ tmps w)(o:Obj):Rel A B w0 nm τ tmps (w.alloc o):=R.later ((RowKit.Below.refl _ _).alloc (Nat.le_refl _) o)
theorem xZ{X:Cx}{k:IntKind}{n:O}(h1:k.min≤n)(h2:n≤k.max):VRel X (.v (.sc (.dat (.int k n)))) (.int k n):= .v (.sc (.dat (.int h1 h2)))
theorem VF{id mt kt et nt:U}{ok:Bool}{n:O}{s:N V}{o14 o15 o16 o17 o18 o19 i1 i2 i3 i4 o20 o21 o22 o23 o24 o25 o26:Oper}{k1 k2 k3 k4:N V}{n1 n2 n3 n4:O}
  (hm:P.underlying mt=G (.map kt et)) (hk:P.underlying kt=G .string) (hz:∀w,(zeroValue et).run P w= .ok (.int .i64 0) w)
  (hl:ops.toList= [o14,o15,o16,o17,o18,o19,i1,i2,i3,i4,o20,o21,o22,o23,o24,o25,o26])
  (h14:BW P ops 14 o14 (.mv 14 (.t 6)) L) (h15:BW P ops 15 o15 (.un 15 .not (.t 14)) L) (h16:BW P ops 16 o16 (.mv 16 (.t 15)) L)
  (h17:BW P ops 17 o17 (.mv 17 (.t 5)) (G (16,E))) (h18:BW P ops 18 o18 (.len 18 (.t 17)) (G (16,E)))
  (h19:CL ops (G 19) o19 (.makeMap mt L) (G (16,E)))
  (hi1:CL ops L i1 (.insert mt (.tmp 19) (.const (.string ⟨k1.toArray⟩)) (.const (.int .i64 n1))) (G (16,E)))
  (hi2:CL ops L i2 (.insert mt (.tmp 19) (.const (.string ⟨k2.toArray⟩)) (.const (.int .i64 n2))) (G (16,E)))
  (hi3:CL ops L i3 (.insert mt (.tmp 19) (.const (.string ⟨k3.toArray⟩)) (.const (.int .i64 n3))) (G (16,E)))
  (hi4:CL ops L i4 (.insert mt (.tmp 19) (.const (.string ⟨k4.toArray⟩)) (.const (.int .i64 n4))) (G (16,E)))
  (h20:CL ops (G 20) o20 (.move (.tmp 19)) (G (16,E)))
  (h21:BW P ops 21 o21 (.mv 21 (.t 1)) (G (16,E)))
  (h22:BW P ops 22 o22 (.iaddr 22 (.t 21) (.c (.v (.sc (.dat (.int .i64 0))))) 1) (G (16,E)))
  (h23:BW P ops 23 o23 (.load 23 (.t 22) E 1) (G (16,E)))
  (h24:CL ops (G 24) o24 (.lookup mt (.tmp 20) (.tmp 23) E) (G (16,E)))
  (h25:BW P ops 25 o25 (.bin 25 .neq (.t 18) (.t 24)) (G (16,E)))
  (h26:BW P ops 26 o26 (.pick 26 (.t 16) (.c (.v (.sc (.dat (.bool F))))) (.t 25)) L)
  (hnt:26<nt) (f2:DO k2 0 [(k1,n1)]=L) (f3:DO k3 0 [(k1,n1),(k2,n2)]=L) (f4:DO k4 0 [(k1,n1),(k2,n2),(k3,n3)]=L)
  (hr:IntKind.i64.min≤CS s [(k1,n1),(k2,n2),(k3,n3),(k4,n4)]∧CS s [(k1,n1),(k2,n2),(k3,n3),(k4,n4)]≤IntKind.i64.max)
  (hσ6:σ.get 6= .v (.sc (.dat (.bool ok)))) (hσu:∀k,14≤k→k≤25→σ.get k= .undef)
  (hlen:∀τ:St,τ.rows=σ.rows→τ.get 17=σ.get 5→τ.pure (.len 18 (.t 17))=G (18,.v (.sc (.dat (.int .i64 n)))))
  (hia:ok=F→∃p,(∀τ:St,τ.rows=σ.rows→τ.get 21=σ.get 1→τ.pure (.iaddr 22 (.t 21) (.c (.v (.sc (.dat (.int .i64 0))))) 1)=G (22,p))∧
   ∀τ:St,τ.rows=σ.rows→τ.get 22=p→τ.pure (.load 23 (.t 22) E 1)=G (23,.v (.sc (.dat (.str s))))) :
  GY P nt (.region id ops E) σ (σ.set 26 (.v (.sc (.dat (.bool (!ok || n !=CS s [(k1,n1),(k2,n2),(k3,n3),(k4,n4)])))))):=by
 generalize hM:CS s [(k1,n1),(k2,n2),(k3,n3),(k4,n4)]=M at hr ⊢
 intro A B w0 nm a w R hs;refine wp_region_list ?_;rw[hl];refine Ei R (CZ R h14.2.2 trivial) h14.1 h14.2.1 (av:= .v (.sc (.dat (.bool ok)))) (by rw[← hσ6]; rfl) (by omega) fun v14 _ R14=> ?_
 refine Ei R14 (CZ R14 h15.2.2 trivial) h15.1 h15.2.1 (av:= .v (.sc (.dat (.bool !ok)))) (by simp only[St.pure,St.val,St.get_set_same,GU,W]) (by rw[Bb]; omega) fun v15 _ R15=> ?_
 refine Ei R15 (CZ R15 h16.2.2 trivial) h16.1 h16.2.1 (av:= .v (.sc (.dat (.bool !ok)))) (by simp only[St.pure,St.val,St.get_set_same]) (by rw[Bb,Bb]; omega) fun v16 _ R16=> ?_
 have z16:(((a.put (G 14) v14).put (G 15) v15).put (G 16) v16).tmps.size=nt:=by rw[Bb,Bb,Bb]; exact hs
 have d16:(((a.put (G 14) v14).put (G 15) v15).put (G 16) v16).defers=a.defers:=by rw[H8,H8,H8]
 generalize (((a.put (G 14) v14).put (G 15) v15).put (G 16) v16)=a16 at R16 z16 d16 ⊢
 have Az:∀(τ:St) (X:AV),τ.rows=σ.rows→τ.bx=σ.bx→τ.get 26=X→(∀k,k≠26→k<14∨25<k→τ.get k=σ.get k)→∀k,(σ.set 26 X).get k= .undef∨(σ.set 26 X).get k=τ.get k:=by
  intro τ X _ _ hX hτ k;by_cases h26:k=26
  ·subst h26;exact .inr (by rw[St.get_set_same,hX])
  ·rw[St.get_set_ne _ _ h26];by_cases hk2:14≤k∧k≤25
   ·exact .inl (hσu k hk2.1 hk2.2)
   ·exact .inr (hτ k h26 (by omega)).symm
 cases ok with
 | false=>
  have g16:(((σ.set 14 (.v (.sc (.dat (.bool E))))).set 15 (.v (.sc (.dat (.bool !E))))).set 16 (.v (.sc (.dat (.bool !E))))).get 16= .v (.sc (.dat (.bool F))):=by rw[St.get_set_same]; rfl
  refine FQ R16 g16 h17.2.2 h17.1 (by omega) fun R17=> ?_
  have g17:=g16; rw[← St.get_set_ne _ .undef (show 16≠17 by decide)] at g17
  refine FQ R17 g17 h18.2.2 h18.1 (by rw[Bb]; omega) fun R18=> ?_
  have g18:=g17; rw[← St.get_set_ne _ .undef (show 16≠18 by decide)] at g18
  refine FQ R18 g18 h19.2.2 h19.1 (by rw[Bb,Bb]; omega) fun R19=> ?_
  have g19:=g18; rw[← St.get_set_ne _ .undef (show 16≠19 by decide)] at g19
  refine PA R19 g19 hi1.2.2 hi1.1 (PA R19 g19 hi2.2.2 hi2.1 (PA R19 g19 hi3.2.2 hi3.1 (PA R19 g19 hi4.2.2 hi4.1 ?_)));refine FQ R19 g19 h20.2.2 h20.1 (by simp only[Bb]; omega) fun R20=> ?_
  have g20:=g19; rw[← St.get_set_ne _ .undef (show 16≠20 by decide)] at g20
  refine FQ R20 g20 h21.2.2 h21.1 (by simp only[Bb]; omega) fun R21=> ?_
  have g21:=g20; rw[← St.get_set_ne _ .undef (show 16≠21 by decide)] at g21
  refine FQ R21 g21 h22.2.2 h22.1 (by simp only[Bb]; omega) fun R22=> ?_
  have g22:=g21; rw[← St.get_set_ne _ .undef (show 16≠22 by decide)] at g22
  refine FQ R22 g22 h23.2.2 h23.1 (by simp only[Bb]; omega) fun R23=> ?_
  have g23:=g22; rw[← St.get_set_ne _ .undef (show 16≠23 by decide)] at g23
  refine FQ R23 g23 h24.2.2 h24.1 (by simp only[Bb]; omega) fun R24=> ?_
  have g24:=g23; rw[← St.get_set_ne _ .undef (show 16≠24 by decide)] at g24
  refine FQ R24 g24 h25.2.2 h25.1 (by simp only[Bb]; omega) fun R25=> ?_
  have g25:=g24; rw[← St.get_set_ne _ .undef (show 16≠25 by decide)] at g25
  refine Ei R25 (CZ R25 h26.2.2 trivial) h26.1 h26.2.1 (av:= .v (.sc (.dat (.bool F)))) (by simp only[St.pure,St.val,g25,GJ,W,cond_true]) (by simp only[Bb]; omega) fun v26 _ R26=> ?_
  refine wpList_nil ⟨rfl,⟨nm,R26.weak rfl rfl (Az _ _ rfl rfl (St.get_set_same _ _ _) fun k h1 h2=> ?_)⟩,by simp only[Bb]; exact z16,by simp only[H8]; exact d16⟩;repeat rw[St.get_set_ne _ _ (by omega)]
 | true=>
  have g16:(((σ.set 14 (.v (.sc (.dat (.bool F))))).set 15 (.v (.sc (.dat (.bool !F))))).set 16 (.v (.sc (.dat (.bool !F))))).get 16= .v (.sc (.dat (.bool E))):=by rw[St.get_set_same]; rfl
  obtain⟨p,hp1,hp2⟩:=hia rfl;refine Ei R16 (CZ R16 h17.2.2 (EL g16)) h17.1 h17.2.1 (av:=σ.get 5) (by simp only[St.pure,St.val]; repeat rw[St.get_set_ne _ _ (by decide)]) (by omega) fun v17 _ R17=> ?_
  have g17:=g16; rw[← St.get_set_ne _ (σ.get 5) (show 16≠17 by decide)] at g17
  refine Ei R17 (CZ R17 h18.2.2 (EL g17)) h18.1 h18.2.1 (hlen _ rfl (St.get_set_same _ _ _)) (by simp only[Bb]; omega) fun v18 _ R18=> ?_
  have g18:=g17; rw[← St.get_set_ne _ (.v (.sc (.dat (.int .i64 n)))) (show 16≠18 by decide)] at g18
  refine PC (CZ R18 h19.2.2 (EL g18)) (lA h19.2.1) ?_;rw[h19.1];have R19:=R18.put (d:=19) (v:= .map (G w.heap.size)) (by simp only[Bb]; omega) .undef;have g19:=g18; rw[← St.get_set_ne _ .undef (show 16≠19 by decide)] at g19
  have z18:((a16.put (G 17) v17).put (G 18) v18).tmps.size=nt:=by simp only[Bb]; exact z16
  have d18:((a16.put (G 17) v17).put (G 18) v18).defers=a.defers:=by simp only[H8]; exact d16
  generalize ((a16.put (G 17) v17).put (G 18) v18)=a18 at R19 z18 d18 ⊢
  have m19:(a18.put (G 19) (.map (G w.heap.size))).eval (.tmp 19)= .map (G w.heap.size):=QE (by omega);have RA:∀o,Rel A B w0 nm _ (a18.put (G 19) (.map (G w.heap.size))).tmps (w.alloc o):=fun o=>re R19 o
  have ins:∀{i:Oper} {l:N (N V × O)} {k:N V} {x:O},CL ops L i (.insert mt (.tmp 19) (.const (.string ⟨k.toArray⟩)) (.const (.int .i64 x))) (G (16,E))→DO k 0 l=L→
    Region.wanted i (yielded ops (a18.put (G 19) (.map (G w.heap.size))).tmps)=F∧(execOp (a18.put (G 19) (.map (G w.heap.size))).eval i).run P (w.alloc (C6 l))= .ok .skip (w.alloc (C6 (l++ [(k,x)]))):=by
   intro i l k x hi hf;refine⟨CZ (RA (C6 l)) hi.2.2 (EL g19),ky hi.2.1 ?_⟩;rw[m19];exact vV hm hk hf
  refine PB (ins (l:= []) hi1 rfl).1 (ins (l:= []) hi1 rfl).2 ?_;rw[hi1.1];refine PB (ins hi2 f2).1 (ins hi2 f2).2 ?_;rw[hi2.1];refine PB (ins hi3 f3).1 (ins hi3 f3).2 ?_;rw[hi3.1];refine PB (ins hi4 f4).1 (ins hi4 f4).2 ?_;rw[hi4.1];show wpList P ops _ _ (a18.put (G 19) (.map (G w.heap.size))) (w.alloc (C6 [(k1,n1),(k2,n2),(k3,n3),(k4,n4)]))
  have RL:=RA (C6 [(k1,n1),(k2,n2),(k3,n3),(k4,n4)]);refine PC (CZ RL h20.2.2 (EL g19)) (lB h20.2.1) ?_;rw[h20.1,m19];have R20:Rel A B w0 nm _ ((a18.put (G 19) (.map (G w.heap.size))).put (G 20) (.map (G w.heap.size))).tmps _:=RL.put (d:=20) (v:= .map (G w.heap.size)) (by simp only[Bb]; omega) .undef;have g20:=g19; rw[← St.get_set_ne _ .undef (show 16≠20 by decide)] at g20
  refine Ei R20 (CZ R20 h21.2.2 (EL g20)) h21.1 h21.2.1 (av:=σ.get 1) (by simp only[St.pure,St.val]; repeat rw[St.get_set_ne _ _ (by decide)]) (by simp only[Bb]; omega) fun v21 _ R21=> ?_
  have g21:=g20; rw[← St.get_set_ne _ (σ.get 1) (show 16≠21 by decide)] at g21
  refine Ei R21 (CZ R21 h22.2.2 (EL g21)) h22.1 h22.2.1 (hp1 _ rfl (St.get_set_same _ _ _)) (by simp only[Bb]; omega) fun v22 _ R22=> ?_
  have g22:=g21; rw[← St.get_set_ne _ p (show 16≠22 by decide)] at g22
  refine Ei R22 (CZ R22 h23.2.2 (EL g22)) h23.1 h23.2.1 (hp2 _ rfl (St.get_set_same _ _ _)) (by simp only[Bb]; omega) fun v23 hv R23=> ?_
  have g23:=g22; rw[← St.get_set_ne _ (.v (.sc (.dat (.str s)))) (show 16≠23 by decide)] at g23
  obtain⟨rfl,_⟩:=hv.inv_str
  have m20:((((a18.put (G 19) (.map (G w.heap.size))).put (G 20) (.map (G w.heap.size))).put (G 21) v21).put (G 22) v22 |>.put (G 23) (.string ⟨s.toArray⟩)).eval (.tmp 20)= .map (G w.heap.size):=by
   rw[QD (by decide),QD (by decide),QD (by decide),QE (by simp only[Bb]; omega)]
  have m23:((((a18.put (G 19) (.map (G w.heap.size))).put (G 20) (.map (G w.heap.size))).put (G 21) v21).put (G 22) v22 |>.put (G 23) (.string ⟨s.toArray⟩)).eval (.tmp 23)= .string ⟨s.toArray⟩:=QE (by simp only[Bb]; omega);have z23:(((((a18.put (G 19) (.map (G w.heap.size))).put (G 20) (.map (G w.heap.size))).put (G 21) v21).put (G 22) v22).put (G 23) (.string ⟨s.toArray⟩)).tmps.size=nt:=by simp only[Bb]; exact z18
  have d23:(((((a18.put (G 19) (.map (G w.heap.size))).put (G 20) (.map (G w.heap.size))).put (G 21) v21).put (G 22) v22).put (G 23) (.string ⟨s.toArray⟩)).defers=a.defers:=by simp only[H8]; exact d18
  generalize (((((a18.put (G 19) (.map (G w.heap.size))).put (G 20) (.map (G w.heap.size))).put (G 21) v21).put (G 22) v22).put (G 23) (.string ⟨s.toArray⟩))=a23 at R23 m20 m23 z23 d23 ⊢
  refine PC (CZ R23 h24.2.2 (EL g23)) (kz (v:= .int .i64 M) h24.2.1 (by rw[m20,m23,← hM]; exact vS hm hk (hz _) (heap_alloc w _).1)) ?_;rw[h24.1];have R24:Rel A B w0 nm _ (a23.put (G 24) (.int .i64 M)).tmps _:=R23.put (d:=24) (v:= .int .i64 M) (by omega) (xZ hr.1 hr.2);have g24:=g23; rw[← St.get_set_ne _ (.v (.sc (.dat (.int .i64 M)))) (show 16≠24 by decide)] at g24
  refine Ei R24 (CZ R24 h25.2.2 (EL g24)) h25.1 h25.2.1 (av:= .v (.sc (.dat (.bool (n !=M))))) ?_ (by simp only[Bb]; omega) fun v25 _ R25=> ?_
  ·simp only[St.pure,St.val,St.get_set_same];rw[St.get_set_ne _ _ (by decide),St.get_set_ne _ _ (by decide),St.get_set_ne _ _ (by decide),St.get_set_ne _ _ (by decide),St.get_set_ne _ _ (by decide),St.get_set_ne _ _ (by decide),St.get_set_same];rfl
  have g25:=g24; rw[← St.get_set_ne _ (.v (.sc (.dat (.bool (n !=M))))) (show 16≠25 by decide)] at g25
  refine Ei R25 (CZ R25 h26.2.2 trivial) h26.1 h26.2.1 (av:= .v (.sc (.dat (.bool (n !=M))))) (by simp only[St.pure,St.val,g25,GJ,St.get_set_same,W,cond_false]) (by simp only[Bb]; omega) fun v26 _ R26=> ?_
  refine wpList_nil ⟨rfl,⟨nm,R26.weak rfl rfl (Az _ _ rfl rfl (St.get_set_same _ _ _) fun k h1 h2=> ?_)⟩,by simp only[Bb]; exact z23,by simp only[H8]; exact d23⟩;repeat rw[St.get_set_ne _ _ (by omega)]
end
def Km:N (N V × O):= [([109,101,97,110],1),([119,97,118,101],3),([115,117,114,103,101],2),([103,97,112],1)]
theorem YK(s:N V):IntKind.i64.min≤CS s Km∧CS s Km≤IntKind.i64.max:=by
 unfold Km;simp only[CS];repeat' split
 all_goals decide
def DM(t:U):U→Xg→Code
 | n,.seq x y=>bif Nat.blt t (n+1+x.cnt) then DM t (n+1) x else DM t (n+1+x.cnt) y
 | n,.cond _ x y=>bif Nat.blt t (n+1+x.cnt) then DM t (n+1) x else DM t (n+1+x.cnt) y
 | n,.block _ c=>DM t (n+1) c
 | n,.loop c=>DM t (n+1) c
 | _,.hook _ C=>C
 | _,_=> .skip
def XI:Code→Array Oper
 | .region _ ops _=>ops
 | _=> #[]
def vA:Code→U
 | .region id _ _=>id
 | _=>0
structure TideOps (P:Program) (nt:U) (ops:Array Oper) (mt kt et:TypeId):Prop where
 hm:P.underlying mt=G (.map kt et)
 hk:P.underlying kt=G .string
 hz:∀w,(zeroValue et).run P w= .ok (.int .i64 0) w
 hl:ops.toList= [ops[0]!,ops[1]!,ops[2]!,ops[3]!,ops[4]!,ops[5]!,ops[6]!,ops[7]!,ops[8]!,ops[9]!,ops[10]!,ops[11]!,ops[12]!,ops[13]!,ops[14]!,ops[15]!,ops[16]!]
 h14:BW P ops 14 ops[0]! (.mv 14 (.t 6)) L
 h15:BW P ops 15 ops[1]! (.un 15 .not (.t 14)) L
 h16:BW P ops 16 ops[2]! (.mv 16 (.t 15)) L
 h17:BW P ops 17 ops[3]! (.mv 17 (.t 5)) (G (16,E))
 h18:BW P ops 18 ops[4]! (.len 18 (.t 17)) (G (16,E))
 h19:CL ops (G 19) ops[5]! (.makeMap mt L) (G (16,E))
 hi1:CL ops L ops[6]! (.insert mt (.tmp 19) (.const (.string ⟨([109,101,97,110]:N V).toArray⟩)) (.const (.int .i64 1))) (G (16,E))
 hi2:CL ops L ops[7]! (.insert mt (.tmp 19) (.const (.string ⟨([119,97,118,101]:N V).toArray⟩)) (.const (.int .i64 3))) (G (16,E))
 hi3:CL ops L ops[8]! (.insert mt (.tmp 19) (.const (.string ⟨([115,117,114,103,101]:N V).toArray⟩)) (.const (.int .i64 2))) (G (16,E))
 hi4:CL ops L ops[9]! (.insert mt (.tmp 19) (.const (.string ⟨([103,97,112]:N V).toArray⟩)) (.const (.int .i64 1))) (G (16,E))
 h20:CL ops (G 20) ops[10]! (.move (.tmp 19)) (G (16,E))
 h21:BW P ops 21 ops[11]! (.mv 21 (.t 1)) (G (16,E))
 h22:BW P ops 22 ops[12]! (.iaddr 22 (.t 21) (.c (.v (.sc (.dat (.int .i64 0))))) 1) (G (16,E))
 h23:BW P ops 23 ops[13]! (.load 23 (.t 22) E 1) (G (16,E))
 h24:CL ops (G 24) ops[14]! (.lookup mt (.tmp 20) (.tmp 23) E) (G (16,E))
 h25:BW P ops 25 ops[15]! (.bin 25 .neq (.t 18) (.t 24)) (G (16,E))
 h26:BW P ops 26 ops[16]! (.pick 26 (.t 16) (.c (.v (.sc (.dat (.bool F))))) (.t 25)) L
 hnt:26<nt
section
variable {P : Program} {σ : St} {ops : Array Oper} {id mt kt et nt : U} {C : Code}
theorem YZ(hu: [14,15,16,17,18,19,20,21,22,23,24,25].map σ.get=Y 12 .undef):∀k,14≤k→k≤25→σ.get k= .undef:=fun k h1 h2=>by
 have h:∀x∈ [14,15,16,17,18,19,20,21,22,23,24,25].map σ.get,x=AV.undef:=fun x hx=>by
  rw[hu] at hx
  exact List.eq_of_mem_replicate hx
 refine h _ (List.mem_map.2 ⟨k,?_,rfl⟩);simp only[List.mem_cons,List.not_mem_nil,or_false];omega
theorem wz(T:TideOps P nt ops mt kt et)(hC:C= .region id ops E)(h6:σ.get 6= .v (.sc (.dat (.bool E)))){n:O}(h5:Cp σ.rows (σ.get 5)=G (.v (.sc (.dat (.int .i64 n)))))
  (hu: [14,15,16,17,18,19,20,21,22,23,24,25].map σ.get=Y 12 .undef):GY P nt C σ (σ.set 26 (.v (.sc (.dat (.bool F))))):=by
 subst hC
 exact VF (s:= []) (n:=n) T.hm T.hk T.hz T.hl T.h14 T.h15 T.h16 T.h17 T.h18 T.h19 T.hi1 T.hi2 T.hi3 T.hi4 T.h20 T.h21 T.h22 T.h23 T.h24 T.h25 T.h26 T.hnt (by decide) (by decide) (by decide) (YK []) h6 (YZ hu)
  (fun τ h1 h2=>by simp only[St.pure,St.val,h1,h2,h5,W]) (fun h=>by cases h)
theorem xA(T:TideOps P nt ops mt kt et)(hC:C= .region id ops E)(h6:σ.get 6= .v (.sc (.dat (.bool F)))){n:O}(h5:Cp σ.rows (σ.get 5)=G (.v (.sc (.dat (.int .i64 n)))))
  (hu: [14,15,16,17,18,19,20,21,22,23,24,25].map σ.get=Y 12 .undef) {ws:N (N V)} {s:N V} (h1:σ.get 1= .v (.sc (.dat (.sl (List.map rS ws))))) (hx:ix ws 0=G s) :
  GY P nt C σ (σ.set 26 (.v (.sc (.dat (.bool (n !=CS s Km)))))):=by
 subst hC
 refine VF (s:=s) T.hm T.hk T.hz T.hl T.h14 T.h15 T.h16 T.h17 T.h18 T.h19 T.hi1 T.hi2 T.hi3 T.hi4 T.h20 T.h21 T.h22 T.h23 T.h24 T.h25 T.h26 T.hnt (by decide) (by decide) (by decide) (YK s) h6 (YZ hu)
  (fun τ h1 h2=>by simp only[St.pure,St.val,h1,h2,h5,W]) fun _=>⟨.v (.sc (.dat (.pd (rS s)))),fun τ h2 h3=> ?_,fun τ h2 h3=> ?_⟩
 ·have e:ix (List.map rS ws) 0=G (rS s):=by
   cases ws with
   | nil=>simp[ix] at hx
   | cons a r=>simp[ix] at hx ⊢; rw[hx]
  simp only[St.pure,St.val,h3,h1,CQ,e];rfl
 ·simp only[St.pure,St.val,h3,Cq];rfl
end
theorem OD{P:Program}{k:N Fr}{Q:Xn→St→Prop}{σ:St}{its:N AItem}{id:U}(H:go P (.ops its::k) Q .normal (G σ))(hf:A1 σ.rows id=L:=by exact rfl)(h0:(id / 99999999999==0)=F:=by exact rfl) :
  go P (.ops ((L,.frz id)::its)::k) Q .normal (G σ):=by
 rw[UA];simp only[St.step,hf,h0,Bool.not_true,Bool.false_eq_true,if_false];exact H
end Go.Vi
