/-
THE STATEMENT Rows.FnClosuresSaid. No condition.
-/
import Derived.Test.YtmgfndipofbbaaaGreatRows
import Derived.Test.YtmgfndipofbbaaaGreatKVi29
import Derived.Test.YtmgfndipofbbaaaGreatKWClosures
import Derived.Test.YtmgfndipofbbaaaGreatKVa8
import Derived.Test.YtmgfndipofbbaaaGreatKK8b
import Derived.Test.YtmgfndipofbbaaaGreatKK8c
import Derived.Test.YtmgfndipofbbaaaGreatKK8d
import Derived.Test.YtmgfndipofbbaaaGreatKK8e
import Derived.Test.YtmgfndipofbbaaaGreatKK8f
import Derived.WalkKit
import Derived.ProofKit
import Derived.OpenShut
namespace Go.Proofs.YtmgfndipofbbaaaGreat.fnClosures
open Go.ChangeShapes Go.WideShapes Go.ChangeAt Go.RowKit
theorem own:ownKnob Tryz.prog.godebug=none:=by kernel_rfl
theorem laidOut:laidOutB Tryz.prog=true:=by kernel_rfl
set_option maxRecDepth 100000 in
theorem lifted(os:Os)(started:os.Started)(H:Type)(enc:TypeId × Value→H) :
  ReturnsInHanded {} Tryz.checked os 3 .any (Rows.fnClosuresSpec.pre6 enc Tryz.prog Tryz.f3 Rows.fnClosuresRow.domain false) (Rows.fnClosuresSpec.post enc Tryz.prog Tryz.f3 false true false false):=by
 refine returnsInHanded_of_change (C:=Tryz.checked) own started (by kernel_rfl) Tryz.func3
  (ChangeSpec.witness6 (enc:=enc) (C:=Tryz.checked) false ⟨#[],#[.slice none 0 0],[]⟩ 12 (by kernel_rfl) (by kernel_rfl) (by kernel_rfl) (by kernel_rfl)) ?_
 intro W base args ds gs _ hval0 hW _ _
 have hval:∀(j:Nat) t v,Tryz.f3.params[j]?=some t→args[j]?=some v→Value.okWide Tryz.prog W .any base t v:=hval0
 have hW':=hW
 obtain⟨p,q,hA0,hV,rfl,_,_⟩:=hW
 have hA:DataW.TrodAll enc Tryz.prog W 0 (fun _=>true) true Tryz.f3.params.toList args.toList ds p:=hA0
 rw[Tryz.params3] at hA hval
 obtain⟨v0,vs0,d0,ds0,p0,q0,hargs,rfl,rfl,h0,r0⟩:=trodAll_cons hA
 obtain⟨rfl,rfl,rfl⟩:=trodAll_nil r0
 obtain rfl:args= #[v0]:=by cases args; simp_all
 obtain⟨rfl,rfl⟩:=trodVars_none hV
 have lt0:∀x∈p0,x.block<W.heap.size:=by obtain⟨m,hm⟩:=h0; exact DataW.trod_lt m _ _ _ hm
 obtain⟨x0,y0⟩:=Vi.arg_sc (R:=(.sl (.int .u8))) (row:=(Vi.rL Vi.r8)) (n:=16) (by kernel_rfl) (by kernel_rfl) (Vi.one_of (hval 0 22 v0 rfl rfl) (by kernel_rfl)) h0
 have w0:=y0 _ rfl
 have ok:Vi.DsOk [.sc (.sl (List.map Vi.r8 x0))]:=⟨_,_,.cons w0 .nil⟩
 clear hA0 hval0
 refine(Vi.law_true (Vi.w_laws_FnClosures x0 true (Vi.law_FnClosures x0 ok)) (w:=W) trivial (.cons w0 .nil)).mono fun e W' ⟨he,bel⟩=> ?_
 subst he
 exact⟨_,rfl,_,_,_,[],_,[],hW',trodAll_mk1 (shut_bool Tryz.underlying4 _),(trodAll_cons_mk (Below.trod laidOut (by kernel_rfl) (of_decide_eq_true (by kernel_rfl)) h0 bel lt0) trodAll_mk0),rfl,bel.frame _,fun h=>by cases h⟩
set_option maxHeartbeats 4000000 in
theorem closed:joinedFacts Tryz.pinned.checked.prog 3 Tryz.f3 Rows.fnClosuresSpec Rows.fnClosuresRow=true:=by
 simp only[joinedFacts,Bool.and_eq_true]
 and_intros
 all_goals as_aux_lemma=>kernel_rfl
theorem over:Rows.fnClosuresRow.holds Tryz.pinned (OpenSpec.ofChange Rows.fnClosuresSpec):=
 OpenClaim.holds_of_wide 3 Tryz.f3 rfl rfl rfl rfl rfl rfl rfl ⟨rfl,rfl,rfl,rfl,rfl⟩ rfl rfl rfl rfl rfl (by kernel_rfl) Tryz.func3 closed
  (of_decide_eq_true (by kernel_rfl)) (by unfold Func.isWrapper; first | (rw[if_pos (by decide +kernel)]; kernel_rfl) | (rw[if_neg (by decide +kernel)]; exact⟨rfl,rfl⟩))
  (fun os started H enc _=>lifted os started H enc)
theorem proved:Rows.FnClosuresSaid:=over
#print axioms proved
end Go.Proofs.YtmgfndipofbbaaaGreat.fnClosures
