/-
THE STATEMENT Rows.FnConsoleSaid. No condition.
-/
import Derived.Test.YtfmhammmkkbonaaGreatDoorRows
import Derived.Test.YtfmhammmkkbonaaGreatDoorTie
import Derived.Test.YtfmhammmkkbonaaGreatDoorCards
import Derived.Test.YtfmhammmkkbonaaGreatDoorCVi29
import Derived.Test.YtfmhammmkkbonaaGreatDoorCVg
import Derived.Test.YtfmhammmkkbonaaGreatDoorCWConsole
import Derived.Test.YtfmhammmkkbonaaGreatDoorCC14a
import Derived.Test.YtfmhammmkkbonaaGreatDoorCQE
import Derived.WalkKit
import Derived.ProofKit
import Derived.OpenShut
import Derived.Lay
import Derived.LaidOnce
import Derived.SevenTiedAt
import Derived.Stop.LaidErr
import Derived.Stop.Joined
import Derived.LaidMore
namespace Go.Proofs.YtfmhammmkkbonaaGreatDoor.fnConsole
open Go.ChangeShapes Go.WideShapes Go.ChangeAt Go.RowKit
theorem own:ownKnob Tryz.prog.godebug=none:=by kernel_rfl
theorem laidOut:laidOutB Tryz.prog=true:=by kernel_rfl
set_option maxRecDepth 100000 in
theorem lifted(os:Os)(started:os.Started)(H:Type)(enc:TypeId × Value→H) :
  ReturnsInHanded {} Tryz.checked os 3 .any (fun w args=>(Rows.fnConsoleSpec.pre enc Tryz.prog Tryz.f3 [] false w args∧laidMetH Tryz.prog Rows.fnConsoleRow.laid w)∧sizedMet enc Tryz.prog Tryz.f3 (OpenSpec.ofChange Rows.fnConsoleSpec) false w args) (Rows.fnConsoleSpec.post enc Tryz.prog Tryz.f3 false true false false):=by
 refine returnsInHanded_of_change_and (C:=Tryz.checked) (X:=fun w _=>laidMetH Tryz.prog Rows.fnConsoleRow.laid w) (fun _ _ _ hh h=>h.of_heap hh) own started (by kernel_rfl) Tryz.func3
  (ChangeSpec.witness_shaped (enc:=enc) (C:=Tryz.checked) (os:=os) (X:=fun w _=>laidMetH Tryz.prog Rows.fnConsoleRow.laid w) false (World.laidAll Tryz.prog os Rows.fnConsoleRow.laid) #[.slice none 0 0] 8 (World.laidAll_os _ _ _)
   (World.shaped_of_ZipB (by kernel_rfl) (by kernel_rfl)) (by kernel_rfl) (by kernel_rfl) (by kernel_rfl)
   (by rw[MakeChecks.laidMetH_plain _ _ _ (by kernel_rfl)]; exact laidMet_laidAll _ (by kernel_rfl) (by kernel_rfl))) ?_
 intro W base args ds gs _ hval0 hW _ _ hL0 _;rw[MakeChecks.laidMetH_plain _ _ _ (by kernel_rfl)] at hL0
 have hL:Vi.GoodW W:=Vi.good_of hL0;have hval:∀(j:Nat) t v,Tryz.f3.params[j]?=some t→args[j]?=some v→Value.okWide Tryz.prog W .any base t v:=hval0;have hW':=hW;obtain⟨p,q,hA0,hV,rfl,_,_⟩:=hW;have hA:DataW.TrodAll enc Tryz.prog W 0 (fun _=>true) true Tryz.f3.params.toList args.toList ds p:=hA0;rw[Tryz.params3] at hA hval
 obtain⟨v0,vs0,d0,ds0,p0,q0,hargs,rfl,rfl,h0,r0⟩:=trodAll_cons hA;obtain⟨rfl,rfl,rfl⟩:=trodAll_nil r0;obtain rfl:args= #[v0]:=by cases args; simp_all
 obtain⟨rfl,rfl⟩:=trodVars_none hV;have lt0:∀x∈p0,x.block<W.heap.size:=by obtain⟨m,hm⟩:=h0; exact DataW.trod_lt m _ _ _ hm
 obtain⟨x0,y0⟩:=Vi.arg_sc (R:=(.sl (.int .u8))) (row:=(Vi.rL Vi.r8)) (n:=16) (by kernel_rfl) (by kernel_rfl) (Vi.one_of (hval 0 22 v0 rfl rfl) (by kernel_rfl)) h0;have w0:=y0 _ rfl;have ok:Vi.DsOk [.sc (.sl (List.map Vi.r8 x0))]:=⟨_,_,.cons w0 .nil⟩;clear hA0 hval0
 refine(Vi.law_true (Vi.w_laws_FnConsole x0 true (Vi.law_FnConsole x0 ok)) (w:=W) hL (.cons w0 .nil)).mono fun e W' ⟨he,bel⟩=> ?_
 subst he;exact⟨_,rfl,_,_,_,[],_,[],hW',trodAll_mk1 (shut_bool Tryz.underlying4 _),(trodAll_cons_mk (Below.trod laidOut (by kernel_rfl) (of_decide_eq_true (by kernel_rfl)) h0 bel lt0) trodAll_mk0),rfl,bel.frame _,fun h=>by cases h⟩
set_option maxHeartbeats 4000000 in
theorem closed:joinedFacts Tryz.pinned.checked.prog 3 Tryz.f3 Rows.fnConsoleSpec Rows.fnConsoleRow=true:=by
 simp only[joinedFacts,Bool.and_eq_true];and_intros
 all_goals as_aux_lemma=>kernel_rfl
theorem over:Rows.fnConsoleRow.holds Tryz.pinned (OpenSpec.ofChange Rows.fnConsoleSpec):=
 OpenClaim.holds_of_wide 3 Tryz.f3 rfl rfl rfl rfl rfl rfl rfl ⟨rfl,rfl,rfl,rfl,rfl⟩ rfl rfl rfl rfl rfl (by kernel_rfl) Tryz.func3 closed
  (of_decide_eq_true (by kernel_rfl)) (by unfold Func.isWrapper; first | (rw[if_pos (by decide +kernel)]; kernel_rfl) | (rw[if_neg (by decide +kernel)]; exact⟨rfl,rfl⟩))
  (fun os started H enc _=>lifted os started H enc)
theorem proved:Rows.FnConsoleCardSaid:=
 Claim7.holds_tied_plain_at .later [] [.data,.data,.data,.sentinel,.sentinel] true (true,"a49b1abb18f0a8989ee1e39140fa941505299cac7ef82cd33f583906fb2e579a") true
  over (fun _ h=>by cases h) (by kernel_rfl) (fun _ h=>by cases h) fnConsole_row_tie rfl ⟨rfl,rfl⟩ (by kernel_rfl) rfl
  (fun f fn hf hfn=>by
   obtain rfl:f=3:=Option.some.inj ((show Tryz.prog.funcNamed Rows.fnConsoleRow.func=some 3 by kernel_rfl).symm.trans hf) |>.symm
   obtain rfl:fn=Tryz.f3:=(Option.some.inj (Tryz.func3.symm.trans hfn)).symm
   exact⟨by kernel_rfl,fun j t ht=>by
    rw[Tryz.params3] at ht
    have h3:t=22:=by
     have:=Array.mem_of_getElem? ht; simpa using this
    rcases h3 with rfl
    ·exact(show Tryz.prog.wantsStandIn 22=false by kernel_rfl)
    ⟩)
  (by kernel_rfl)
#print axioms proved
end Go.Proofs.YtfmhammmkkbonaaGreatDoor.fnConsole
