/-
The value level. No condition.
-/
import Derived.Test.YtpigjggbnclpbaaGreatOVi31
namespace Go.Vi
set_option linter.all false
open Bool renaming and_eq_true → F
open _root_ renaming List → T
inductive RT where
 | int (k:IntKind)
 | bool
 | str
 | sl (e:RT)
 | st (fs:T RT)
mutual
def Hx:RT→T D→Prop
 | .int k,ds=>∃i,ds= [.int k i]
 | .bool,ds=>∃b,ds= [.bool b]
 | .str,ds=>∃s,ds= [.str s]
 | .sl e,ds=>∃es,ds= [.sl es]∧∀r∈es,Hx e r
 | .st fs,ds=>O6 fs ds
def O6:T RT→T D→Prop
 | [],ds=>ds= []
 | f::fs,ds=>∃a b,Hx f a∧O6 fs b∧ds=a++b
end
def Eu(P:Program):Nat→TypeId→Option RT
 | 0,_=>none
 | n+1,t=>match P.underlying t with
  | some .bool=>some .bool
  | some (.int k)=>some (.int k)
  | some .string=>some .str
  | some (.slice e)=>(Eu P n e).map .sl
  | some (.struct fs)=>if Cu P 0 fs.toList (P.cellsOf t)=true then(fs.toList.mapM fun f=>Eu P n f.type).map .st else none
  | _=>none
section
variable {P : Program}
theorem Rw{n:Nat}(ih:∀t R ds,Eu P n t=some R→BQ P n t ds→Hx R ds):∀(fs:T Field) (off N:Nat) (Rs:T RT) (ds:T D),Cu P off fs N=true→fs.mapM (fun f=>Eu P n f.type)=some Rs→off+ds.length=N→
  (∀f∈fs,BQ P n f.type ((ds.drop (f.offset - off)).take (P.cellsOf f.type))∧off≤f.offset)→O6 Rs ds
 | [],off,N,Rs,ds,ht,hm,hl,_=>by
  have e:off=N:=by simpa[Cu] using ht
  have e2:Rs= []:=by simpa using hm.symm
  subst e2;exact List.length_eq_zero_iff.1 (by omega)
 | f::fs,off,N,Rs,ds,ht,hm,hl,hf=>by
  simp only[Cu,F,beq_iff_eq] at ht
  obtain⟨h1,h2⟩:=ht;simp only[List.mapM_cons,Option.bind_eq_bind,Option.pure_def,Option.bind_eq_some_iff] at hm
  obtain⟨R,hR,Rs',hRs,e⟩:=hm;cases e;obtain⟨t0,_⟩:=hf f (by simp);rw[h1,Nat.sub_self,List.drop_zero] at t0
  have hle:P.cellsOf f.type≤ds.length:=by
   have:∀(fs:T Field) (off N:Nat),Cu P off fs N=true→off≤N:=by
    intro fs
    induction fs with
    | nil=>
     intro off N h;have:off=N:=by simpa[Cu] using h
     omega
    | cons g gs ihg=>
     intro off N h;simp only[Cu,F,beq_iff_eq] at h;have:=ihg _ _ h.2;omega
   have:=this fs _ _ h2;omega
  refine⟨ds.take (P.cellsOf f.type),ds.drop (P.cellsOf f.type),ih _ _ _ hR t0,Rw ih fs (off+P.cellsOf f.type) N Rs' _ h2 hRs (by simp; omega) (fun g hg=> ?_),(List.take_append_drop _ _).symm⟩;obtain⟨k1,_⟩:=hf g (by simp[hg])
  have hge:off+P.cellsOf f.type≤g.offset:=by
   have:∀(fs:T Field) (off N:Nat),Cu P off fs N=true→∀g∈fs,off≤g.offset:=by
    intro fs
    induction fs with
    | nil=>intro off N h g hg; simp at hg
    | cons g' gs ihg=>
     intro off N h g hg;simp only[Cu,F,beq_iff_eq] at h;rcases List.mem_cons.1 hg with rfl|hg
     ·omega
     ·have:=ihg _ _ h.2 g hg;omega
   exact this fs _ _ h2 g hg
  refine⟨?_,hge⟩;rw[List.drop_drop,show P.cellsOf f.type+(g.offset - (off+P.cellsOf f.type))=g.offset - off by omega];exact k1
theorem Vw:∀(n:Nat) (t:TypeId) (R:RT) (ds:T D),Eu P n t=some R→BQ P n t ds→Hx R ds:=by
 intro n
 induction n with
 | zero=>intro t R ds h; simp[Eu] at h
 | succ n ih=>
  intro t R ds hr hd;simp only[Eu] at hr
  simp only[BQ] at hd
  cases hu:P.underlying t with
  | none=>rw[hu] at hr; cases hr
  | some u=>
   cases u<;>rw[hu] at hr hd<;>try (cases hr; done)
   case bool=>cases hr; exact hd
   case int k=>cases hr; exact hd
   case string=>cases hr; exact hd
   case slice e=>
    simp only[Option.map_eq_some_iff] at hr
    obtain⟨R',h1,rfl⟩:=hr;obtain⟨es,h2,h3⟩:=hd;exact⟨es,h2,fun r hr=>ih _ _ _ h1 (h3 r hr)⟩
   case struct fs=>
    simp only at hr
    split at hr
    ·rename_i ht
     simp only[Option.map_eq_some_iff] at hr
     obtain⟨Rs,h1,rfl⟩:=hr;obtain⟨hl,hf⟩:=hd;exact Rw ih fs.toList 0 _ Rs ds ht h1 (by simpa using hl) (fun f hfm=>⟨by simpa using hf f hfm,Nat.zero_le _⟩)
    ·cases hr
end
class OfTy {α:Type} (R:RT) (row:α→T D):Prop where
 of:∀ds,Hx R ds→∃x,ds=row x
instance:OfTy (.int .i64) rI:=⟨fun _ h=>h⟩
instance:OfTy (.int .u8) r8:=⟨fun _ h=>h⟩
instance:OfTy .bool rB:=⟨fun _ h=>h⟩
instance:OfTy .str rS:=⟨fun _ h=>h⟩
theorem Uv{α:Type}{R:RT}{row:α→T D} [OfTy R row]:∀es:T (T D),(∀r∈es,Hx R r)→∃xs:T α,es=xs.map row
 | [],_=>⟨[],rfl⟩
 | r::es,h=>by
  obtain⟨x,rfl⟩:=OfTy.of (row:=row) r (h r (by simp));obtain⟨xs,rfl⟩:=Uv (row:=row) es (fun r hr=>h r (by simp[hr]));exact⟨x::xs,rfl⟩
instance {α:Type} {R:RT} {row:α→T D} [OfTy R row]:OfTy (.sl R) (rL row):=⟨fun ds h=>by
 obtain⟨es,rfl,h2⟩:=h;obtain⟨xs,rfl⟩:=Uv (row:=row) es h2;exact⟨xs,rfl⟩⟩
section
variable {H : Type} {enc : TypeId × Value → H} {P : Program} {w : World} {sp : Nat → Bool} {held : Bool} {ps : T MemPlace}
theorem arg_ag{α:Type}{R:RT}{row:α→T D} [OfTy R row]{n:Nat}{t:TypeId}{v:Value}{d:DataW H}{r:Reach}{b0:Nat}(hok:Es P n t=true)(hr:Eu P n t=some R){fs:Array Field}(hu:P.underlying t=some (.struct fs))
  (hval:Value.okWide P w r b0 t v) (h:DataW.Trod enc P w 0 sp held t v d ps):∃x:α,DVRel (AS w) (.ag (row x)) v:=by
 obtain⟨fuel,h⟩:=h;obtain⟨ds,h1,h2,_,h4⟩:=Uo n fuel t _ _ hok h;obtain⟨x,rfl⟩:=OfTy.of (row:=row) ds (Vw n t R ds hr h4);unfold Value.okWide at hval
 rw[hu] at hval
 obtain⟨cs,rfl,_,_⟩:=hval;refine⟨x,?_⟩;have e:(Value.agg cs).cells.toList=cs.toList:=rfl;rw[e] at h1 h2
 have:=DVRel.ag h1 h2;simpa using this
theorem arg_sc{α:Type}{R:RT}{row:α→T D} [OfTy R row]{n:Nat}{t:TypeId}{v:Value}{d:DataW H}(hok:Es P n t=true)(hr:Eu P n t=some R)(hv:v.cells= #[v])
  (h:DataW.Trod enc P w 0 sp held t v d ps):∃x:α,∀d,row x= [d]→DVRel (AS w) (.sc d) v:=by
 obtain⟨fuel,h⟩:=h;obtain⟨ds,h1,h2,_,h4⟩:=Uo n fuel t _ _ hok h;obtain⟨x,rfl⟩:=OfTy.of (row:=row) ds (Vw n t R ds hr h4);refine⟨x,fun d hd=> ?_⟩;rw[hv,hd] at h1
 cases h1 with
 | cons a _=>exact .sc a
theorem one_of{t:TypeId}{v:Value}{r:Reach}{b0:Nat}(hval:Value.okWide P w r b0 t v)(hu:(match P.underlying t with | some .bool | some (.int _) | some .string | some (.slice _)=>true | _=>false)=true):v.cells= #[v]:=by
 unfold Value.okWide at hval
 unfold Cell.okWide Cell.ok at hval
 cases h:P.underlying t with
 | none=>rw[h] at hu; cases hu
 | some u=>
  rw[h] at hval hu
  cases u<;>first
   | (cases hu; done)
   | (cases v<;>first | rfl | (simp at hval; done) | exact hval.elim)
end
end Go.Vi
