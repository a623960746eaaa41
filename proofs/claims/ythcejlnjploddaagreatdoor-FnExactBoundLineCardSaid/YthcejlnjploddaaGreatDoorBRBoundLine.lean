/-
THE STATEMENT Rows.FnExactBoundLineSaid. No condition.
-/
import Derived.Test.YthcejlnjploddaaGreatDoorRows
import Derived.Test.YthcejlnjploddaaGreatDoorTie
import Derived.Test.YthcejlnjploddaaGreatDoorCards
import Derived.Test.YthcejlnjploddaaGreatDoorBVi29
import Derived.Test.YthcejlnjploddaaGreatDoorBVg
import Derived.Test.YthcejlnjploddaaGreatDoorBWBoundLine
import Derived.Test.YthcejlnjploddaaGreatDoorBR8a
import Derived.Test.YthcejlnjploddaaGreatDoorBB4q
import Derived.WalkKit
import Derived.ProofKit
import Derived.OpenShut
import Derived.Lay
import Derived.LaidOnce
import Derived.SevenTiedAt
import Derived.Stop.LaidErr
import Derived.Stop.Joined
import Derived.LaidMore
namespace Go.Proofs.YthcejlnjploddaaGreatDoor.fnExactBoundLine
open Go.ChangeShapes Go.WideShapes Go.ChangeAt Go.RowKit
theorem own:ownKnob Tryz.prog.godebug=none:=by kernel_rfl
theorem laidOut:laidOutB Tryz.prog=true:=by kernel_rfl
set_option maxRecDepth 100000 in
theorem lifted(os:Os)(started:os.Started)(H:Type)(enc:TypeId × Value→H) :
  ReturnsInHanded {} Tryz.checked os 3 .any (fun w args=>(Rows.fnExactBoundLineSpec.pre enc Tryz.prog Tryz.f3 [] false w args∧laidMetH Tryz.prog Rows.fnExactBoundLineRow.laid w)∧sizedMet enc Tryz.prog Tryz.f3 (OpenSpec.ofChange Rows.fnExactBoundLineSpec) false w args) (Rows.fnExactBoundLineSpec.post enc Tryz.prog Tryz.f3 false true false false):=by
 refine returnsInHanded_of_change_and (C:=Tryz.checked) (X:=fun w _=>laidMetH Tryz.prog Rows.fnExactBoundLineRow.laid w) (fun _ _ _ hh h=>h.of_heap hh) own started (by kernel_rfl) Tryz.func3
  (ChangeSpec.witness_shaped (enc:=enc) (C:=Tryz.checked) (os:=os) (X:=fun w _=>laidMetH Tryz.prog Rows.fnExactBoundLineRow.laid w) false (World.laidAll Tryz.prog os Rows.fnExactBoundLineRow.laid) #[.agg #[.int .i64 0,.slice none 0 0,.slice none 0 0,.slice none 0 0,.slice none 0 0,.slice none 0 0,.int .i64 0,.bool false,.int .i64 0,.int .i64 0,.int .i64 0,.slice none 0 0],.slice none 0 0] 8 (World.laidAll_os _ _ _)
   (World.shaped_of_ZipB (by kernel_rfl) (by kernel_rfl)) (by kernel_rfl) (by kernel_rfl) (by kernel_rfl)
   (by rw[MakeChecks.laidMetH_plain _ _ _ (by kernel_rfl)]; exact laidMet_laidAll _ (by kernel_rfl) (by kernel_rfl))) ?_
 intro W base args ds gs _ hval0 hW _ _ hL0 _;rw[MakeChecks.laidMetH_plain _ _ _ (by kernel_rfl)] at hL0
 have hL:Vi.GoodW W:=Vi.good_of hL0;have hval:∀(j:Nat) t v,Tryz.f3.params[j]?=some t→args[j]?=some v→Value.okWide Tryz.prog W .any base t v:=hval0;have hW':=hW;obtain⟨p,q,hA0,hV,rfl,_,_⟩:=hW;have hA:DataW.TrodAll enc Tryz.prog W 0 (fun _=>true) true Tryz.f3.params.toList args.toList ds p:=hA0;rw[Tryz.params3] at hA hval
 obtain⟨v0,vs0,d0,ds0,p0,q0,hargs,rfl,rfl,h0,r0⟩:=trodAll_cons hA;obtain⟨v1,vs1,d1,ds1,p1,q1,rfl,rfl,rfl,h1,r1⟩:=trodAll_cons r0;obtain⟨rfl,rfl,rfl⟩:=trodAll_nil r1;obtain rfl:args= #[v0,v1]:=by cases args; simp_all
 obtain⟨rfl,rfl⟩:=trodVars_none hV;have lt0:∀x∈p0,x.block<W.heap.size:=by obtain⟨m,hm⟩:=h0; exact DataW.trod_lt m _ _ _ hm
 have lt1:∀x∈p1,x.block<W.heap.size:=by obtain⟨m,hm⟩:=h1; exact DataW.trod_lt m _ _ _ hm
 obtain⟨x0,w0⟩:=Vi.arg_ag (R:=(.st [(.st [(.st [(.int .i64),(.sl (.st [(.int .i64),(.int .i64),(.int .i64)]))]),(.sl (.st [(.int .i64),(.int .i64),(.int .i64)]))]),(.st [(.sl (.st [.str,.bool])),(.sl (.st [(.int .i64),(.int .i64),(.int .i64),(.int .i64),.bool]))]),(.sl (.st [.str,(.int .i64),(.int .i64),(.int .i64),(.int .i64),.bool])),(.st [(.int .i64),.bool]),(.st [(.int .i64),(.int .i64),(.int .i64),(.sl (.int .i64))])])) (row:=Vi.X4.row) (n:=16) (by kernel_rfl) (by kernel_rfl) Tryz.underlying39 (hval 0 39 v0 rfl rfl) h0;obtain⟨x1,y1⟩:=Vi.arg_sc (R:=(.sl (.st [(.int .i64),(.int .i64),(.int .i64),(.int .i64),(.int .i64)]))) (row:=(Vi.rL Vi.Xb.row)) (n:=16) (by kernel_rfl) (by kernel_rfl) (Vi.one_of (hval 1 40 v1 rfl rfl) (by kernel_rfl)) h1;have w1:=y1 _ rfl;have ok:Vi.DsOk [.ag (Vi.X4.row x0),.sc (.sl (List.map Vi.Xb.row x1))]:=⟨_,_,.cons w0 (.cons w1 .nil)⟩;clear hA0 hval0
 refine(Vi.law_true (Vi.w_laws_FnExactBoundLine x0 x1 true (Vi.law_FnExactBoundLine x0 x1 ok)) (w:=W) hL (.cons w0 (.cons w1 .nil))).mono fun e W' ⟨he,bel⟩=> ?_
 subst he;exact⟨_,rfl,_,_,_,[],_,[],hW',trodAll_mk1 (shut_bool Tryz.underlying4 _),(trodAll_cons_mk (Below.trod laidOut (by kernel_rfl) (of_decide_eq_true (by kernel_rfl)) h0 bel lt0) (trodAll_cons_mk (Below.trod laidOut (by kernel_rfl) (of_decide_eq_true (by kernel_rfl)) h1 bel lt1) trodAll_mk0)),rfl,bel.frame _,fun h=>by cases h⟩
set_option maxHeartbeats 4000000 in
theorem closed:joinedFacts Tryz.pinned.checked.prog 3 Tryz.f3 Rows.fnExactBoundLineSpec Rows.fnExactBoundLineRow=true:=by
 simp only[joinedFacts,Bool.and_eq_true];and_intros
 all_goals as_aux_lemma=>kernel_rfl
theorem over:Rows.fnExactBoundLineRow.holds Tryz.pinned (OpenSpec.ofChange Rows.fnExactBoundLineSpec):=
 OpenClaim.holds_of_wide 3 Tryz.f3 rfl rfl rfl rfl rfl rfl rfl ⟨rfl,rfl,rfl,rfl,rfl⟩ rfl rfl rfl rfl rfl (by kernel_rfl) Tryz.func3 closed
  (of_decide_eq_true (by kernel_rfl)) (by unfold Func.isWrapper; first | (rw[if_pos (by decide +kernel)]; kernel_rfl) | (rw[if_neg (by decide +kernel)]; exact⟨rfl,rfl⟩))
  (fun os started H enc _=>lifted os started H enc)
theorem proved:Rows.FnExactBoundLineCardSaid:=
 Claim7.holds_tied_plain_at .later [] [.data,.data,.data] true (true,"2d2fb6dcd1ec41630f63b0544fd16a268ff81ba84145862456eaa37fb93dd502") true
  over (fun _ h=>by cases h) (by kernel_rfl) (fun _ h=>by cases h) fnExactBoundLine_row_tie rfl ⟨rfl,rfl⟩ (by kernel_rfl) rfl
  (fun f fn hf hfn=>by
   obtain rfl:f=3:=Option.some.inj ((show Tryz.prog.funcNamed Rows.fnExactBoundLineRow.func=some 3 by kernel_rfl).symm.trans hf) |>.symm
   obtain rfl:fn=Tryz.f3:=(Option.some.inj (Tryz.func3.symm.trans hfn)).symm
   exact⟨by kernel_rfl,fun j t ht=>by
    rw[Tryz.params3] at ht
    have h3:t=39∨t=40:=by
     have:=Array.mem_of_getElem? ht; simpa using this
    rcases h3 with rfl|rfl
    ·exact(show Tryz.prog.wantsStandIn 39=false by kernel_rfl)
    ·exact(show Tryz.prog.wantsStandIn 40=false by kernel_rfl)
    ⟩)
  (by kernel_rfl)
#print axioms proved
end Go.Proofs.YthcejlnjploddaaGreatDoor.fnExactBoundLine
