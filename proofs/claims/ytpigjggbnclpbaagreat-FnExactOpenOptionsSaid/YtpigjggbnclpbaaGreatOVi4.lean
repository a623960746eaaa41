/-
The value level. No condition.
-/
import Derived.Test.YtpigjggbnclpbaaGreatOVi3
import Derived.Laws.StructEq
import Derived.Laws.Strings
import Derived.Laws.Unary
namespace Go.Vi
set_option linter.all false
open Option renaming map_eq_some_iff → E, some → T
open _root_ renaming List → F
section
variable {P : Program} {σ : St} {a : Act} {w : World} {X : Cx} {h : A6}
theorem ou{op:BinOp}{t:TypeId}{x y:F UInt8}{d:D}(hd:FD op x y=T d) :
  ∃v,(binOp op t (.string ⟨x.toArray⟩) (.string ⟨y.toArray⟩)).run P w= .ok v w∧VRel X (.v (.sc (.dat d))) v:=by
 cases op<;>simp only[FD] at hd
 case add=>
  split at hd
  ·rename_i hl
   cases hd;refine⟨.string ⟨(x++y).toArray⟩,?_,Be (.dat (.str (by simp[maxLen]; omega)))⟩;have h1:¬(((x.length+y.length:Nat):Int) > 9223372036854775807):=by omega
   have e:(⟨x.toArray⟩++⟨y.toArray⟩:ByteArray)=⟨(x++y).toArray⟩:=by
    apply ByteArray.ext
    simp
   have hs:∀z:F UInt8,(⟨z.toArray⟩:ByteArray).size=z.length:=fun z=>by simp[ByteArray.size]
   simp only[binOp,Op.stringOp,hs];rw[if_neg (by simpa[IntKind.max,IntKind.bits,IntKind.signed] using h1),e];rfl
  ·cases hd
 case eql=>cases hd; exact⟨_,by simp[binOp,Op.stringOp],IG⟩
 case neq=>cases hd; exact⟨_,by simp[binOp,Op.stringOp],IG⟩
 all_goals cases hd
theorem dI{op:BinOp}{t:TypeId}{x y:Operand}{k k':IntKind}{m n:Int}:(eqGuard op t x y (.int k m) (.int k' n)).run P w= .ok () w:=by
 cases op<;>rfl
theorem dJ{op:BinOp}{t:TypeId}{x y:Operand}{m n:ByteArray}:(eqGuard op t x y (.string m) (.string n)).run P w= .ok () w:=by
 cases op<;>rfl
theorem dH{op:BinOp}{t:TypeId}{x y:Operand}{m n:Bool}:(eqGuard op t x y (.bool m) (.bool n)).run P w= .ok () w:=by
 cases op<;>rfl
theorem Zs{op:BinOp}{t:TypeId}{OX OY:Operand}{ax ay r:AV}{vx vy:Value}(hx:VRel X ax vx)(hy:VRel X ay vy)(hr:Dj op ax ay=T r) :
  ∃v,(do eqGuard op t OX OY vx vy; binOp op t vx vy:Sem Value).run P w= .ok v w∧VRel X r v:=by
 unfold Dj at hr
 split at hr
 ·rename_i k x k' y
  obtain⟨rfl,hb1,hb2⟩:=hx.inv_int;obtain⟨rfl,_⟩:=hy.inv_int;split at hr
  ·rename_i hk
   simp only[E] at hr
   obtain⟨d,hd,rfl⟩:=hr;obtain⟨v,hv,hrel⟩:=jF (P:=P) (w:=w) (X:=X) (t:=t) hk ⟨hb1,hb2⟩ hd;refine⟨v,?_,hrel⟩;rw[Sem.run_bind,dI];exact hv
  ·cases hr
 ·rename_i x y
  obtain⟨rfl,_⟩:=hx.inv_str;obtain⟨rfl,_⟩:=hy.inv_str;simp only[E] at hr
  obtain⟨d,hd,rfl⟩:=hr;obtain⟨v,hv,hrel⟩:=ou (P:=P) (w:=w) (X:=X) (t:=t) hd;refine⟨v,?_,hrel⟩;rw[Sem.run_bind,dJ];exact hv
 ·cases hr
theorem R9{op:BinOp}{t:TypeId}{OX OY:Operand}{g:Bool}{ax ay r:AV}{vx vy:Value}(ht:P.underlying t=T .bool)(hop:op=if g then .neq else .eql)
  (hx:VRel X ax vx) (hy:VRel X ay vy) (hr:HB g ax ay=T r) :
  ∃v,(do eqGuard op t OX OY vx vy; binOp op t vx vy:Sem Value).run P w= .ok v w∧VRel X r v:=by
 unfold HB at hr
 split at hr
 ·rename_i x y
  cases hr;obtain rfl:=hx.inv_bool;obtain rfl:=hy.inv_bool;refine⟨_,?_,IG⟩
  have he:(Op.equal t (.bool x) (.bool y)).run P w= .ok (x==y) w:=by
   unfold Op.equal Op.maxDepth Op.equalIn;rw[Sem.run_bind,run_underlying ht];rfl
  rw[Sem.run_bind,dH];subst hop;cases g
  ·simp[binOp,he]
  ·simp[binOp,he]
 ·cases hr
theorem U5{t:TypeId}{xs:Array Value}{off:Nat}{v:Value}(ht:(∃k,P.underlying t=T (.int k))∨P.underlying t=T .bool∨P.underlying t=T .string)(h:xs[off]?=T v):(part t xs off).run P w= .ok v w:=by
 unfold part isAgg;rcases ht with ⟨k,ht⟩|ht|ht<;>simp[run_underlying ht,h]
theorem HL{xs:Array Value}{i:Nat}{v:Value}{r:F Value}(h:xs.toList.drop i=v::r):xs[i]?=T v∧xs.toList.drop (i+1)=r:=by
 refine⟨?_,?_⟩
 ·have:(xs.toList.drop i)[0]?=T v:=by rw[h]; rfl
  rw[List.getElem?_drop] at this
  simpa using this
 ·rw[← List.drop_drop,h]; rfl
theorem Rt{xs ys:Array Value}(d:Nat):∀(fs:F Field) (i:Nat) (ks:F FK) (cs ds:F AC) (b:Bool) (as1 Bz:F Value),Fm P fs i=T ks→xs.toList.drop i=as1→ys.toList.drop i=Bz→CRels X cs as1→CRels X ds Bz→Bf ks cs ds=T b→(Op.eqFields (d+1) xs ys fs).run P w= .ok b w
 | [],i,ks,cs,ds,b,as1,Bz,hk,ha,hb,h1,h2,he=>by
  simp only[Fm,Option.some.injEq] at hk
  subst hk;cases h1<;>cases h2<;>simp only[Bf] at he<;>cases he
  simp[Op.eqFields]
 | f::fs,i,ks,cs,ds,b,as1,Bz,hk,ha,hb,h1,h2,he=>by
  unfold Fm at hk
  split at hk
  ·rename_i hf
   have one:∀(x y:Value) (r:Bool) (ks':F FK) (cs' ds':F AC) (as2 bs2:F Value) (b':Bool),Fm P fs (i+1)=T ks'→xs[i]?=T x→ys[i]?=T y→xs.toList.drop (i+1)=as2→ys.toList.drop (i+1)=bs2→CRels X cs' as2→CRels X ds' bs2→
     ((∃k,P.underlying f.type=T (.int k))∨P.underlying f.type=T .bool∨P.underlying f.type=T .string)→(Op.equalIn (d+1) f.type x y).run P w= .ok r w→Bf ks' cs' ds'=T b'→(Op.eqFields (d+1) xs ys (f::fs)).run P w= .ok (r&&b') w:=by
    intro x y r ks' cs' ds' as2 bs2 b' g1 g2 g3 g4 g5 g6 g7 g8 g9 g10;have ih:=Rt d fs (i+1) ks' cs' ds' b' as2 bs2 g1 g4 g5 g6 g7 g10;simp only[Op.eqFields,if_pos hf.1,Sem.run_bind,hf.2,U5 g8 g2,U5 g8 g3,g9,Result.andThen_ok];cases r with
    | true=>simpa using ih
    | false=>simp
   split at hk
   ·rename_i k hu
    simp only[E] at hk
    obtain⟨ks',hk',rfl⟩:=hk;cases h1 with
    | nil=>cases h2<;>simp[Bf] at he
    | cons a1 a2=>
     cases h2 with
     | nil=>rename_i c _ _ _; cases c<;>simp[Bf] at he<;>(rename_i d; cases d<;>simp[Bf] at he)
     | cons b1 b2=>
      unfold Bf at he
      split at he<;>first | (cases he; done) | skip
      all_goals first | (rename_i e _ _; cases e; done) | skip
      rename_i e1 e2 e3
      cases e1; cases e2; cases e3;split at he
      ·rename_i hkk
       subst hkk;simp only[E] at he
       obtain⟨b',hb',rfl⟩:=he;cases a1 with | dat a1=>
       cases b1 with | dat b1=>
       cases a1; cases b1;obtain⟨p1,p2⟩:=HL ha;obtain⟨p3,p4⟩:=HL hb;exact one _ _ _ _ _ _ _ _ _ hk' p1 p3 p2 p4 a2 b2 (.inl ⟨k,hu⟩) (run_equalIn_int w d _ _ k _ _ hu) hb'
      ·cases he
   ·rename_i hu
    simp only[E] at hk
    obtain⟨ks',hk',rfl⟩:=hk;cases h1 with
    | nil=>cases h2<;>simp[Bf] at he
    | cons a1 a2=>
     cases h2 with
     | nil=>rename_i c _ _ _; cases c<;>simp[Bf] at he<;>(rename_i d; cases d<;>simp[Bf] at he)
     | cons b1 b2=>
      unfold Bf at he
      split at he<;>first | (cases he; done) | skip
      all_goals first | (rename_i e _ _; cases e; done) | skip
      rename_i e1 e2 e3
      cases e1; cases e2; cases e3;simp only[E] at he
      obtain⟨b',hb',rfl⟩:=he;cases a1 with | dat a1=>
      cases b1 with | dat b1=>
      cases a1; cases b1;obtain⟨p1,p2⟩:=HL ha;obtain⟨p3,p4⟩:=HL hb;exact one _ _ _ _ _ _ _ _ _ hk' p1 p3 p2 p4 a2 b2 (.inr (.inl hu)) (run_equalIn_bool w d _ _ _ hu) hb'
   ·rename_i hu
    simp only[E] at hk
    obtain⟨ks',hk',rfl⟩:=hk;cases h1 with
    | nil=>cases h2<;>simp[Bf] at he
    | cons a1 a2=>
     cases h2 with
     | nil=>rename_i c _ _ _; cases c<;>simp[Bf] at he<;>(rename_i d; cases d<;>simp[Bf] at he)
     | cons b1 b2=>
      unfold Bf at he
      split at he<;>first | (cases he; done) | skip
      all_goals first | (rename_i e _ _; cases e; done) | skip
      rename_i e1 e2 e3
      cases e1; cases e2; cases e3;simp only[E] at he
      obtain⟨b',hb',rfl⟩:=he;cases a1 with | dat a1=>
      cases b1 with | dat b1=>
      cases a1; cases b1;obtain⟨p1,p2⟩:=HL ha;obtain⟨p3,p4⟩:=HL hb;refine one _ _ _ _ _ _ _ _ _ hk' p1 p3 p2 p4 a2 b2 (.inr (.inr hu)) ?_ hb';rw[run_equalIn_string w d _ _ _ hu];simp[ByteArray.toList_eq]
   ·cases hk
  ·cases hk
theorem RU{op:BinOp}{t:TypeId}{OX OY:Operand}{g:Bool}{ks:F FK}{ax ay r:AV}{vx vy:Value}(ht:Nt P t=T ks)(hop:op=if g then .neq else .eql)
  (hx:VRel X ax vx) (hy:VRel X ay vy) (hr:Ir g ks ax ay=T r) :
  ∃v,(do eqGuard op t OX OY vx vy; binOp op t vx vy:Sem Value).run P w= .ok v w∧VRel X r v:=by
 unfold Ir at hr
 split at hr
 ·rename_i cs ds
  simp only[E] at hr
  obtain⟨b,hb,rfl⟩:=hr;obtain⟨xs,rfl,hxs⟩:=hx.inv_ag;obtain⟨ys,rfl,hys⟩:=hy.inv_ag;unfold Nt at ht
  split at ht
  ·rename_i fs hu
   split at ht
   ·rename_i hc
    have hfo:P.fieldsOf t=fs:=by unfold Program.fieldsOf; rw[hu]
    have he:(Op.equalIn 10000 t (.agg xs.toArray) (.agg ys.toArray)).run P w= .ok b w:=by
     rw[run_equalIn_agg w 9999 t _ _ (by rw[hfo]; exact hu) hc.2,hfo];exact Rt 9998 fs.toList 0 ks cs ds b xs ys ht (by simp) (by simp) hxs hys hb
    refine⟨_,?_,IG⟩;rw[Sem.run_bind,run_eqGuard_agg w op t OX OY _ _ hc.1];subst hop;cases g
    ·simp[run_eql_struct,he]
    ·simp[run_neq_struct,he]
   ·cases ht
  ·cases ht
 ·cases hr
theorem pu{op:UnOp}{ax r:AV}{vx:Value}(hx:VRel X ax vx)(hr:Ho op ax=T r) :
  ∃v,(Op.unary op vx).run P w= .ok v w∧VRel X r v:=by
 unfold Ho at hr
 split at hr
 ·obtain rfl:=hx.inv_bool;split at hr
  ·cases hr; exact⟨_,rfl,IG⟩
  ·cases hr
 ·obtain⟨rfl,_⟩:=hx.inv_int;split at hr
  ·cases hr; exact⟨_,rfl,IH⟩
  ·cases hr; exact⟨_,rfl,IH⟩
  ·cases hr
 ·cases hr
inductive CPre (X:Cx):F AC→F Value→Prop
 | nil {vs}:CPre X [] vs
 | cons {c v cs vs}:CRel X c v→CPre X cs vs→CPre X (c::cs) (v::vs)
theorem CRels.pre:∀{cs vs},CRels X cs vs→CPre X cs vs
 | _,_,.nil=> .nil
 | _,_,.cons a b=> .cons a b.pre
theorem CRels.length:∀{cs vs},CRels X cs vs→cs.length=vs.length
 | _,_,.nil=>rfl
 | _,_,.cons _ b=>by simp[b.length]
theorem Reps.pre:∀{ds vs},Reps X.h ds vs→CPre X (ds.map .dat) vs
 | _,_,.nil=> .nil
 | _,_,.cons a b=> .cons (.dat a) b.pre
theorem CPre.le:∀{cs vs},CPre X cs vs→cs.length≤vs.length
 | _,_,.nil=>by simp
 | _,_,.cons _ b=>by have:=b.le; simp; omega
theorem CPre.drop:∀(n:Nat) {cs vs},CPre X cs vs→CPre X (cs.drop n) (vs.drop n)
 | 0,_,_,H=>by simpa using H
 | n+1,_,_,.nil=>by simpa using .nil
 | n+1,_,_,.cons _ b=>by simpa using b.drop n
theorem CPre.take:∀(n:Nat) {cs vs},CPre X cs vs→n≤cs.length→CRels X (cs.take n) (vs.take n)
 | 0,_,_,_,_=>by simpa using .nil
 | n+1,_,_,.nil,hn=>by simp at hn
 | n+1,_,_,.cons a b,hn=>by simp at hn; simpa using .cons a (b.take n hn)
theorem CPre.get:∀{i:Nat} {cs vs c},CPre X cs vs→cs[i]?=T c→∃v,vs[i]?=T v∧CRel X c v
 | _,_,_,_,.nil,hc=>by simp at hc
 | 0,_,_,_,.cons a _,hc=>by simp at hc; subst hc; exact⟨_,by simp,a⟩
 | i+1,_,_,_,.cons _ b,hc=>by simp at hc; obtain⟨v,hv,hr⟩:=b.get hc; exact⟨v,by simpa using hv,hr⟩
def Hb(vs:F Value)(off:Nat)(g:Bool)(n:Nat):Option Value:=bif g then(if off+n≤vs.length then T (.agg ((vs.drop off).take n).toArray) else none) else vs[off]?
theorem HG{cs:F AC}{vs:F Value}{off n:Nat}{g:Bool}{r:AV}(H:CPre X cs vs)(hr:Ci cs off g n=T r):∃v,Hb vs off g n=T v∧VRel X r v:=by
 unfold Ci at hr
 unfold Hb;cases g
 ·simp only[cond_false,E] at hr ⊢
  obtain⟨c,hc,rfl⟩:=hr;obtain⟨v,hv,hrel⟩:=H.get hc;exact⟨v,hv,Be hrel⟩
 ·simp only[cond_true] at hr ⊢
  split at hr
  ·rename_i hle
   cases hr;have h2:=H.le;refine⟨_,by rw[if_pos (by omega)],.v (.ag ((H.drop off).take n (by simp; omega)))⟩
  ·cases hr
theorem O9{t:TypeId}{g:Bool}{n:Nat}(ha:Dh P t=T (g,n)) :
  (isAgg t).run P w= .ok g w∧(sizeOf t).run P w= .ok n w∧∃i,P.info? t=T i∧i.size=n:=by
 unfold Dh at ha
 split at ha<;>simp only[Option.some.injEq,Prod.mk.injEq,reduceCtorEq] at ha
 all_goals (obtain⟨rfl,rfl⟩:=ha)
 ·rename_i hu hi; exact⟨by unfold isAgg; rw[Sem.run_bind,run_underlying hu]; rfl,by simp[sizeOf,typeInfo,hi],_,hi,rfl⟩
 ·rename_i hu hi; exact⟨by unfold isAgg; rw[Sem.run_bind,run_underlying hu]; rfl,by simp[sizeOf,typeInfo,hi],_,hi,rfl⟩
 ·rename_i d i h1 h2 hu hi
  refine⟨?_,by simp[sizeOf,typeInfo,hi],_,hi,rfl⟩;unfold isAgg;rw[Sem.run_bind,run_underlying hu];simp only[Result.andThen];cases d<;>first | rfl | (exfalso; first | exact h1 _ rfl | exact h2 _ _ rfl)
theorem Nx{b off n:Nat}{C:Array Value}{t:TypeId}{fr:Nat × Nat}(hC:w.heap[b]?=T (.cells C t fr))(hle:off+n≤C.size) :
  (loadCells ⟨b,off,none⟩ n).run P w= .ok ((C.toList.drop off).take n).toArray w:=by
 have hl:((C.toList.drop off).take n).length=n:=by simp; omega
 have:=run_loadCells_list (P:=P) w ⟨b,off,none⟩ ((C.toList.drop off).take n) (fun j v hv=>by
  rw[Addr.add_lit,cell_of_row w b _ C t fr hC];rw[List.getElem?_take] at hv
  split at hv
  ·simpa using hv
  ·cases hv)
 rwa [hl] at this
theorem Lk{ty:TypeId}{g:Bool}{n b o off:Nat}{C:Array Value}{t:TypeId}{fr:Nat × Nat}{v:Value}(ha:Dh P ty=T (g,n))(hC:w.heap[b]?=T (.cells C t fr))
  (hv:Hb (C.toList.drop o) off g n=T v):(loadVar ty ⟨b,o+off,none⟩).run P w= .ok v w:=by
 obtain⟨h1,h2,_⟩:=O9 (w:=w) ha;unfold Hb at hv
 cases g
 ·simp only[cond_false] at hv
  have hc:w.cell? ⟨b,o+off,none⟩=T v:=by
   rw[cell_of_row w b _ C t fr hC];simpa using hv
  simp[loadVar,h1,hc]
 ·simp only[cond_true] at hv
  split at hv
  ·rename_i hle
   cases hv;by_cases hn:n=0
   ·subst hn;simp[loadVar,h1,h2,loadCells,loadCellsFrom]
   ·have hle':o+off+n≤C.size:=by
     simp at hle
     omega
    have:=Nx (P:=P) (w:=w) (off:=o+off) (n:=n) hC hle';simp[loadVar,h1,h2,this,List.drop_drop]
  ·cases hv
end
end Go.Vi
