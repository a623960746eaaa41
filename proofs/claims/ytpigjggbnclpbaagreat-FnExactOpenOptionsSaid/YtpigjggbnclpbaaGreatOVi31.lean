/-
The value level. No condition.
-/
import Derived.Test.YtpigjggbnclpbaaGreatOVi30
import Derived.DataReads
namespace Go.Vi
set_option linter.all false
open Bool renaming and_eq_true → F
open Option renaming bind_eq_some_iff → E
open List renaming mem_cons → G
open _root_ renaming List → T
def BQ(P:Program):Nat→TypeId→T D→Prop
 | 0,_,_=>False
 | n+1,t,ds=>match P.underlying t with
  | some .bool=>∃b,ds= [.bool b]
  | some (.int k)=>∃i,ds= [.int k i]
  | some .string=>∃s,ds= [.str s]
  | some (.slice e)=>∃es,ds= [.sl es]∧∀r∈es,BQ P n e r
  | some (.struct fs)=>ds.length=P.cellsOf t∧∀f∈fs.toList,BQ P n f.type ((ds.drop f.offset).take (P.cellsOf f.type))
  | _=>False
def Cu(P:Program):Nat→T Field→Nat→Bool
 | off,[],n=>off==n
 | off,f::fs,n=>(f.offset==off)&&Cu P (off+P.cellsOf f.type) fs n
def Es(P:Program):Nat→TypeId→Bool
 | 0,_=>false
 | n+1,t=>match P.underlying t with
  | some .bool | some (.int _) | some .string=>decide (P.cellsOf t=1)
  | some (.slice e)=>Es P n e&&(decide (0<P.cellsOf e)&&decide (P.cellsOf t=1))
  | some (.struct fs)=>Cu P 0 fs.toList (P.cellsOf t)&&fs.toList.all fun f=>Es P n f.type
  | _=>false
theorem Reps.of_take{h:A6}:∀{ds:T D} {vs:T Value} {n:Nat},Reps h ds (vs.take n)→Reps h ds vs
 | _,vs,n,H=>by
  have:=H.more (vs.drop n);rwa [List.take_append_drop] at this
section
variable {H : Type} {enc : TypeId × Value → H} {P : Program} {w : World} {sp : Nat → Bool} {held : Bool}
theorem Re{a:Addr}{n:Nat}{cs:T Value}(hc:w.cells? 0 a n=some cs)(hn:0<n) :
  ∃C:T Value,AS w a.block C∧a.spot=none∧cs=(C.drop a.off).take n∧cs.length=n:=by
 obtain⟨_,hl,hi⟩:=World.cells?_some hc;have h0:=hi 0 hn;have e0:a.add 0=a:=by simp[Addr.add]
 rw[e0] at h0
 have hne:cs[0]?≠none:=by
  rw[List.getElem?_eq_getElem (by omega)]; simp
 unfold World.cell? at h0
 split at h0
 ·rename_i c t fr hb
  split at h0
  ·rw[← h0] at hne; exact absurd rfl hne
  ·rename_i hs
   have hs':a.spot=none:=by simpa using hs
   refine⟨c.toList,⟨c,t,fr,hb,rfl⟩,hs',?_,hl⟩
   have hci:∀i,i<n→cs[i]?=c[a.off+i]?:=by
    intro i hin;rw[← hi i hin];have eb:(a.add i).block=a.block:=by unfold Addr.add; split<;>rfl
    have eo:(a.add i).off=a.off+i:=by
     unfold Addr.add;split
     ·rename_i e; subst e; rfl
     ·rfl
    have es:(a.add i).spot=none:=by
     unfold Addr.add;split
     ·exact hs'
     ·rfl
    unfold World.cell?;rw[eb,hb];simp[es,eo]
   apply List.ext_getElem?
   intro i;by_cases hin:i<n
   ·rw[hci i hin,List.getElem?_take];simp[hin]
   ·rw[List.getElem?_eq_none (by omega),List.getElem?_eq_none];simp;omega
 ·rw[← h0] at hne; exact absurd rfl hne
theorem Uu{n sz:Nat}{e:TypeId}{C:T Value}{off:Nat}(hsz:0<sz):∀(len k:Nat),(∀i,i<len→∃ds,Reps (AS w) ds ((C.drop (off+(k+i)*sz)).take sz)∧ds.length=sz∧BQ P n e ds)→
  ∃es:T (T D),es.length=len∧RepRows (AS w) sz es (C.drop (off+k*sz))∧∀r∈es,BQ P n e r
 | 0,k,_=>⟨[],rfl,.nil,by simp⟩
 | len+1,k,h=>by
  obtain⟨ds,h1,h2,h3⟩:=h 0 (by omega)
  obtain⟨es,k1,k2,k3⟩:=Uu hsz len (k+1) (fun i hi=>by
   have:=h (i+1) (by omega);rwa [show k+(i+1)=k+1+i by omega] at this)
  refine⟨ds::es,by simp[k1],.cons h2 ?_ ?_,?_⟩
  ·have:=h1.of_take;simpa using this
  ·rw[List.drop_drop];rw[show off+k*sz+sz=off+(k+1)*sz by rw[Nat.add_mul]; omega];exact k2
  ·intro r hr;rcases G.1 hr with rfl|hr
   ·exact h3
   ·exact k3 r hr
theorem TI{α β:Type}{f:α→Option β}:∀{l:T α} {r:T β},l.mapM f=some r→∀x∈l,∃y,f x=some y:=by
 intro l
 induction l with
 | nil=>intro r _ x hx; simp at hx
 | cons a l ih=>
  intro r h x hx;simp only[List.mapM_cons,Option.bind_eq_bind,Option.pure_def,E] at h;obtain⟨y,hy,ys,hys,_⟩:=h;rcases G.1 hx with rfl|hx
  ·exact⟨y,hy⟩
  ·exact ih hys x hx
theorem Um{n fuel:Nat}{cs:T Value}{N:Nat}(hN:cs.length=N)(ih:∀t' cs' x',Es P n t'=true→DataW.trod enc P w 0 sp held fuel t' cs'=some x'→∃ds,Reps (AS w) ds cs'∧ds.length=cs'.length∧cs'.length=P.cellsOf t'∧BQ P n t' ds) :
  ∀(fs:T Field) (off:Nat),Cu P off fs N=true→(fs.all fun f=>Es P n f.type)=true→(∀f∈fs,∃y,DataW.trod enc P w 0 sp held fuel f.type ((cs.drop f.offset).take (P.cellsOf f.type))=some y)→
   ∃ds,Reps (AS w) ds (cs.drop off)∧ds.length=(cs.drop off).length∧∀f∈fs,off≤f.offset∧BQ P n f.type ((ds.drop (f.offset - off)).take (P.cellsOf f.type))
 | [],off,ht,_,_=>by
  have:off=N:=by simpa[Cu] using ht
  subst this;exact⟨[],.nil,by simp[hN],by simp⟩
 | f::fs,off,ht,hok,hr=>by
  simp only[Cu,F,beq_iff_eq] at ht
  obtain⟨h1,h2⟩:=ht;simp only[List.all_cons,F] at hok
  obtain⟨y,hy⟩:=hr f (by simp);obtain⟨d1,r1,l1,c1,t1⟩:=ih _ _ _ hok.1 hy;obtain⟨d2,r2,l2,t2⟩:=Um hN ih fs _ h2 hok.2 (fun g hg=>hr g (by simp[hg]));rw[h1] at r1 l1 c1
  have e:cs.drop off=(cs.drop off).take (P.cellsOf f.type)++cs.drop (off+P.cellsOf f.type):=by
   conv=>lhs; rw[← List.take_append_drop (P.cellsOf f.type) (cs.drop off),List.drop_drop]
  refine⟨d1++d2,?_,?_,?_⟩
  ·rw[e];exact r1.append l1 r2
  ·rw[e];simp only[List.length_append];omega
  ·intro g hg;rcases G.1 hg with rfl|hg
   ·refine⟨by omega,?_⟩;rw[h1,Nat.sub_self,List.drop_zero]
    have:(d1++d2).take (P.cellsOf g.type)=d1:=by
     rw[List.take_append_of_le_length (by omega),List.take_of_length_le (by omega)]
    rw[this];exact t1
   ·obtain⟨k1,k2⟩:=t2 g hg;refine⟨by omega,?_⟩
    have:(d1++d2).drop (g.offset - off)=d2.drop (g.offset - (off+P.cellsOf f.type)):=by
     rw[List.drop_append];rw[List.drop_eq_nil_of_le (by omega)];rw[List.nil_append];congr 1
     omega
    rw[this];exact k2
theorem Uo :
  ∀(n fuel:Nat) (t:TypeId) (cs:T Value) (x:DataW H × T MemPlace),Es P n t=true→DataW.trod enc P w 0 sp held fuel t cs=some x→∃ds,Reps (AS w) ds cs∧ds.length=cs.length∧cs.length=P.cellsOf t∧BQ P n t ds:=by
 intro n
 induction n with
 | zero=>intro fuel t cs x h; simp[Es] at h
 | succ n ih=>
  intro fuel t cs x hok hr;cases fuel with
  | zero=>simp[DataW.trod] at hr
  | succ fuel=>
   simp only[Es] at hok
   unfold DataW.trod at hr
   cases hu:P.underlying t with
   | none=>rw[hu] at hok; cases hok
   | some u=>
    cases u<;>rw[hu] at hok<;>try (cases hok; done)
    case bool=>
     rw[hu] at hr
     have hok':P.cellsOf t=1:=of_decide_eq_true hok;rcases cs with _|⟨v,_|⟨v2,rest⟩⟩
     ·simp at hr
     ·cases v<;>simp at hr
      exact⟨[.bool _],.cons .bool .nil,rfl,by simp[hok'],by simp[BQ,hu]⟩
     ·simp at hr
    case int k=>
     rw[hu] at hr
     have hok':P.cellsOf t=1:=of_decide_eq_true hok;rcases cs with _|⟨v,_|⟨v2,rest⟩⟩
     ·simp at hr
     ·cases v<;>simp at hr
      obtain⟨⟨rfl,hwf⟩,_⟩:=hr;simp only[Lit.wf,F,decide_eq_true_eq] at hwf
      exact⟨[.int _ _],.cons (.int hwf.1 hwf.2) .nil,rfl,by simp[hok'],by simp[BQ,hu]⟩
     ·simp at hr
    case string=>
     rw[hu] at hr
     have hok':P.cellsOf t=1:=of_decide_eq_true hok;rcases cs with _|⟨v,_|⟨v2,rest⟩⟩
     ·simp at hr
     ·cases v<;>simp at hr
      rename_i s
      refine⟨[.str s.data.toList],.cons ?_ .nil,rfl,by simp[hok'],by simp[BQ,hu]⟩;have:=Rep.str (h:=AS w) (s:=s.data.toList) (by simpa using hr.1);simpa using this
     ·simp at hr
    case slice e=>
     rw[hu] at hr
     simp only[F,decide_eq_true_eq] at hok
     obtain⟨hoke,hpos,hone⟩:=hok;rcases cs with _|⟨v,_|⟨v2,rest⟩⟩
     ·simp at hr
     ·cases v with
      | slice oa len cap=>
       by_cases h0:len=0
       ·subst h0;exact⟨[.sl []],.cons .nil .nil,rfl,by simp[hone],by simp[BQ,hu]⟩
       ·cases oa with
        | none=>
         cases len with
         | zero=>exact absurd rfl h0
         | succ len=>simp at hr
        | some a=>
         simp only at hr
         split at hr
         ·rename_i hc
          obtain⟨_,h1,h2⟩:=hc;simp only[E] at hr
          obtain⟨elems,he,_⟩:=hr
          have hall:∀i,i<len→∃ci y,w.cells? 0 (a.add (i*P.cellsOf e)) (P.cellsOf e)=some ci∧DataW.trod enc P w 0 sp held fuel e ci=some y:=by
           intro i hi;obtain⟨y,hy⟩:=TI he i (by simp[hi]);simp only[E] at hy
           obtain⟨ci,h3,h4⟩:=hy;exact⟨ci,y,h3,h4⟩
          obtain⟨c0,y0,g0,_⟩:=hall 0 (by omega);rw[Nat.zero_mul,show a.add 0=a by simp[Addr.add]] at g0
          obtain⟨C,hC,hs,_,_⟩:=Re g0 hpos
          have hrow:∀i,i<len→∃ds,Reps (AS w) ds ((C.drop (a.off+(0+i)*P.cellsOf e)).take (P.cellsOf e))∧ds.length=P.cellsOf e∧BQ P n e ds:=by
           intro i hi;obtain⟨ci,y,g1,g2⟩:=hall i hi;obtain⟨C',hC',_,hci,hl⟩:=Re g1 hpos;have eb:(a.add (i*P.cellsOf e)).block=a.block:=by unfold Addr.add; split<;>rfl
           have eo:(a.add (i*P.cellsOf e)).off=a.off+i*P.cellsOf e:=by
            unfold Addr.add;split
            ·rename_i e'; rw[e']; rfl
            ·rfl
           rw[eb] at hC'
           rw[eo] at hci
           obtain⟨c1,t1,f1,q1,q2⟩:=hC;obtain⟨c2,t2,f2,q3,q4⟩:=hC';rw[q1] at q3
           cases q3;have:C'=C:=q4.symm.trans q2;subst this;obtain⟨ds,r1,r2,r3,r4⟩:=ih fuel e ci y hoke g2;refine⟨ds,?_,by omega,r4⟩;rw[Nat.zero_add,← hci];exact r1
          obtain⟨es,k1,k2,k3⟩:=Uu (P:=P) (n:=n) (e:=e) hpos len 0 hrow;rw[Nat.zero_mul,Nat.add_zero] at k2
          refine⟨[.sl es],.cons ?_ .nil,rfl,by simp[hone],?_⟩
          ·have ea:a=⟨a.block,a.off,none⟩:=by
            cases a;simp only at hs
            subst hs;rfl
           rw[ea];exact .sl hC hpos k2 k1.symm h1 h2
          ·simp only[BQ,hu];exact⟨es,rfl,k3⟩
         ·cases hr
      | _=>simp at hr
     ·simp at hr
    case struct fs=>
     rw[hu] at hr
     simp only[F] at hok
     have hr':(if cs.length=P.cellsOf t then(fs.toList.mapM fun f=>DataW.trod enc P w 0 sp held fuel f.type ((cs.drop f.offset).take (P.cellsOf f.type))).map (fun xs=>(DataW.agg (xs.map (·.1)),xs.flatMap (·.2))) else none)=some x:=hr;split at hr'
     ·rename_i hl
      simp only[Option.map_eq_some_iff] at hr'
      obtain⟨xs,hx,_⟩:=hr';obtain⟨ds,r1,r2,r3⟩:=Um hl (fun t' cs' x' h1 h2=>ih fuel t' cs' x' h1 h2) fs.toList 0 hok.1 hok.2 (fun f hf=>TI hx f hf);rw[List.drop_zero] at r1 r2
      refine⟨ds,r1,r2,hl,?_⟩;simp only[BQ,hu];refine⟨by rw[← hl]; exact r2,fun f hf=> ?_⟩;have:=(r3 f hf).2;rwa [Nat.sub_zero] at this
     ·cases hr'
end
end Go.Vi
