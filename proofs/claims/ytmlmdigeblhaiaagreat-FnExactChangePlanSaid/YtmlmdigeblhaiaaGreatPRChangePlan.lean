/-
THE STATEMENT Rows.FnExactChangePlanSaid. No condition.
-/
import Derived.Test.YtmlmdigeblhaiaaGreatRows
import Derived.Test.YtmlmdigeblhaiaaGreatPVi29
import Derived.Test.YtmlmdigeblhaiaaGreatPWChangePlan
import Derived.Test.YtmlmdigeblhaiaaGreatPR8a
import Derived.Test.YtmlmdigeblhaiaaGreatPR8b
import Derived.Test.YtmlmdigeblhaiaaGreatPX22a
import Derived.Test.YtmlmdigeblhaiaaGreatPX23a
import Derived.Test.YtmlmdigeblhaiaaGreatPX23b
import Derived.Test.YtmlmdigeblhaiaaGreatPX23c
import Derived.Test.YtmlmdigeblhaiaaGreatPD8x
import Derived.Test.YtmlmdigeblhaiaaGreatPX23
import Derived.WalkKit
import Derived.ProofKit
import Derived.OpenShut
namespace Go.Proofs.YtmlmdigeblhaiaaGreat.fnExactChangePlan
open Go.ChangeShapes Go.WideShapes Go.ChangeAt Go.RowKit
theorem own:ownKnob Tryz.prog.godebug=none:=by kernel_rfl
theorem laidOut:laidOutB Tryz.prog=true:=by kernel_rfl
set_option maxRecDepth 100000 in
theorem lifted(os:Os)(started:os.Started)(H:Type)(enc:TypeId × Value→H) :
  ReturnsInHanded {} Tryz.checked os 3 .any (Rows.fnExactChangePlanSpec.pre6 enc Tryz.prog Tryz.f3 Rows.fnExactChangePlanRow.domain false) (Rows.fnExactChangePlanSpec.post enc Tryz.prog Tryz.f3 false true false false):=by
 refine returnsInHanded_of_change (C:=Tryz.checked) own started (by kernel_rfl) Tryz.func3
  (ChangeSpec.witness6 (enc:=enc) (C:=Tryz.checked) false ⟨#[],#[.agg #[.int .i64 0,.slice none 0 0,.slice none 0 0,.slice none 0 0,.slice none 0 0,.slice none 0 0,.int .i64 0,.bool false,.int .i64 0,.int .i64 0,.int .i64 0,.slice none 0 0],.slice none 0 0,.slice none 0 0],[]⟩ 12 (by kernel_rfl) (by kernel_rfl) (by kernel_rfl) (by kernel_rfl)) ?_
 intro W base args ds gs _ hval0 hW _ _;have hval:∀(j:Nat) t v,Tryz.f3.params[j]?=some t→args[j]?=some v→Value.okWide Tryz.prog W .any base t v:=hval0;have hW':=hW;obtain⟨p,q,hA0,hV,rfl,_,_⟩:=hW;have hA:DataW.TrodAll enc Tryz.prog W 0 (fun _=>true) true Tryz.f3.params.toList args.toList ds p:=hA0;rw[Tryz.params3] at hA hval
 obtain⟨v0,vs0,d0,ds0,p0,q0,hargs,rfl,rfl,h0,r0⟩:=trodAll_cons hA;obtain⟨v1,vs1,d1,ds1,p1,q1,rfl,rfl,rfl,h1,r1⟩:=trodAll_cons r0;obtain⟨v2,vs2,d2,ds2,p2,q2,rfl,rfl,rfl,h2,r2⟩:=trodAll_cons r1;obtain⟨rfl,rfl,rfl⟩:=trodAll_nil r2;obtain rfl:args= #[v0,v1,v2]:=by cases args; simp_all
 obtain⟨rfl,rfl⟩:=trodVars_none hV;have lt0:∀x∈p0,x.block<W.heap.size:=by obtain⟨m,hm⟩:=h0; exact DataW.trod_lt m _ _ _ hm
 have lt1:∀x∈p1,x.block<W.heap.size:=by obtain⟨m,hm⟩:=h1; exact DataW.trod_lt m _ _ _ hm
 have lt2:∀x∈p2,x.block<W.heap.size:=by obtain⟨m,hm⟩:=h2; exact DataW.trod_lt m _ _ _ hm
 obtain⟨x0,w0⟩:=Vi.arg_ag (R:=(.st [(.st [(.st [(.int .i64),(.sl (.st [(.int .i64),(.int .i64),(.int .i64)]))]),(.sl (.st [(.int .i64),(.int .i64),(.int .i64)]))]),(.st [(.sl (.st [.str,.bool])),(.sl (.st [(.int .i64),(.int .i64),(.int .i64),(.int .i64),.bool]))]),(.sl (.st [.str,(.int .i64),(.int .i64),(.int .i64),(.int .i64),.bool])),(.st [(.int .i64),.bool]),(.st [(.int .i64),(.int .i64),(.int .i64),(.sl (.int .i64))])])) (row:=Vi.X3.row) (n:=16) (by kernel_rfl) (by kernel_rfl) Tryz.underlying39 (hval 0 39 v0 rfl rfl) h0;obtain⟨x1,y1⟩:=Vi.arg_sc (R:=(.sl (.st [(.int .i64),(.int .i64),(.int .i64),(.int .i64),(.int .i64)]))) (row:=(Vi.rL Vi.X8.row)) (n:=16) (by kernel_rfl) (by kernel_rfl) (Vi.one_of (hval 1 40 v1 rfl rfl) (by kernel_rfl)) h1;have w1:=y1 _ rfl;obtain⟨x2,y2⟩:=Vi.arg_sc (R:=(.sl (.st [(.int .i64),(.int .i64),(.int .i64),(.sl (.st [(.int .i64),(.int .i64),.bool,(.int .i64),(.int .i64)]))]))) (row:=(Vi.rL Vi.X0.row)) (n:=16) (by kernel_rfl) (by kernel_rfl) (Vi.one_of (hval 2 41 v2 rfl rfl) (by kernel_rfl)) h2;have w2:=y2 _ rfl;have ok:Vi.DsOk [.ag (Vi.X3.row x0),.sc (.sl (List.map Vi.X8.row x1)),.sc (.sl (List.map Vi.X0.row x2))]:=⟨_,_,.cons w0 (.cons w1 (.cons w2 .nil))⟩;clear hA0 hval0
 refine(Vi.law_true (Vi.w_laws_FnExactChangePlan x0 x1 x2 true (Vi.law_FnExactChangePlan x0 x1 x2 ok)) (w:=W) trivial (.cons w0 (.cons w1 (.cons w2 .nil)))).mono fun e W' ⟨he,bel⟩=> ?_
 subst he;exact⟨_,rfl,_,_,_,[],_,[],hW',trodAll_mk1 (shut_bool Tryz.underlying4 _),(trodAll_cons_mk (Below.trod laidOut (by kernel_rfl) (of_decide_eq_true (by kernel_rfl)) h0 bel lt0) (trodAll_cons_mk (Below.trod laidOut (by kernel_rfl) (of_decide_eq_true (by kernel_rfl)) h1 bel lt1) (trodAll_cons_mk (Below.trod laidOut (by kernel_rfl) (of_decide_eq_true (by kernel_rfl)) h2 bel lt2) trodAll_mk0))),rfl,bel.frame _,fun h=>by cases h⟩
set_option maxHeartbeats 4000000 in
theorem closed:joinedFacts Tryz.pinned.checked.prog 3 Tryz.f3 Rows.fnExactChangePlanSpec Rows.fnExactChangePlanRow=true:=by
 simp only[joinedFacts,Bool.and_eq_true];and_intros
 all_goals as_aux_lemma=>kernel_rfl
theorem over:Rows.fnExactChangePlanRow.holds Tryz.pinned (OpenSpec.ofChange Rows.fnExactChangePlanSpec):=
 OpenClaim.holds_of_wide 3 Tryz.f3 rfl rfl rfl rfl rfl rfl rfl ⟨rfl,rfl,rfl,rfl,rfl⟩ rfl rfl rfl rfl rfl (by kernel_rfl) Tryz.func3 closed
  (of_decide_eq_true (by kernel_rfl)) (by unfold Func.isWrapper; first | (rw[if_pos (by decide +kernel)]; kernel_rfl) | (rw[if_neg (by decide +kernel)]; exact⟨rfl,rfl⟩))
  (fun os started H enc _=>lifted os started H enc)
theorem proved:Rows.FnExactChangePlanSaid:=over
#print axioms proved
end Go.Proofs.YtmlmdigeblhaiaaGreat.fnExactChangePlan
