/-
  THE STATEMENT Rows.FnExactStrategyLinesSaid, proved: the call by its contract at the value level. No condition.
-/
import Derived.Test.YtahienmgcfgclaaDoorRows
import Derived.Test.YtahienmgcfgclaaDoorTie
import Derived.Test.YtahienmgcfgclaaDoorCards
import Derived.Test.YtahienmgcfgclaaDoorSVi29
import Derived.Test.YtahienmgcfgclaaDoorSVg
import Derived.Test.YtahienmgcfgclaaDoorSWStrategyLines
import Derived.Test.YtahienmgcfgclaaDoorSMa
import Derived.Test.YtahienmgcfgclaaDoorSJa
import Derived.Test.YtahienmgcfgclaaDoorSJb
import Derived.WalkKit
import Derived.ProofKit
import Derived.OpenShut
import Derived.Lay
import Derived.LaidOnce
import Derived.SevenTiedAt
import Derived.Stop.LaidErr
import Derived.Stop.Joined
import Derived.LaidMore
namespace Go.Proofs.YtahienmgcfgclaaDoor.fnExactStrategyLines
open Go.ChangeShapes Go.WideShapes Go.ChangeAt Go.RowKit
theorem own : ownKnob Tryd.prog.godebug = none := by kernel_rfl
theorem laidOut : laidOutB Tryd.prog = true := by kernel_rfl
set_option maxRecDepth 100000 in
theorem lifted (os : Os) (started : os.Started) (H : Type) (enc : TypeId × Value → H) :
  ReturnsInHanded {} Tryd.checked os 3 .any (fun w args => (Rows.fnExactStrategyLinesSpec.pre enc Tryd.prog Tryd.f3 [] false w args ∧ laidMetH Tryd.prog Rows.fnExactStrategyLinesRow.laid w) ∧ sizedMet enc Tryd.prog Tryd.f3 (OpenSpec.ofChange Rows.fnExactStrategyLinesSpec) false w args) (Rows.fnExactStrategyLinesSpec.post enc Tryd.prog Tryd.f3 false true false false) := by
 refine returnsInHanded_of_change_and (C := Tryd.checked) (X := fun w _ => laidMetH Tryd.prog Rows.fnExactStrategyLinesRow.laid w) (fun _ _ _ hh h => h.of_heap hh) own started (by kernel_rfl) Tryd.func3
  (ChangeSpec.witness_shaped (enc := enc) (C := Tryd.checked) (os := os) (X := fun w _ => laidMetH Tryd.prog Rows.fnExactStrategyLinesRow.laid w) false (World.laidAll Tryd.prog os Rows.fnExactStrategyLinesRow.laid) #[.agg #[.int .i64 0,.slice none 0 0]] 8 (World.laidAll_os _ _ _)
   (World.shaped_of_ZipB (by kernel_rfl) (by kernel_rfl)) (by kernel_rfl) (by kernel_rfl) (by kernel_rfl)
   (by rw [MakeChecks.laidMetH_plain _ _ _ (by kernel_rfl)]; exact laidMet_laidAll _ (by kernel_rfl) (by kernel_rfl))) ?_
 intro W base args ds gs _ hval0 hW _ _ hL0 _
 rw [MakeChecks.laidMetH_plain _ _ _ (by kernel_rfl)] at hL0
 have hL : Vi.GoodW W := Vi.good_of hL0
 have hval : ∀ (j : Nat) t v,Tryd.f3.params[j]? = some t → args[j]? = some v → Value.okWide Tryd.prog W .any base t v := hval0
 have hW' := hW
 obtain ⟨p,q,hA0,hV,rfl,_,_⟩ := hW
 have hA : DataW.TrodAll enc Tryd.prog W 0 (fun _ => true) true Tryd.f3.params.toList args.toList ds p := hA0
 rw [Tryd.params3] at hA hval
 obtain ⟨v0,vs0,d0,ds0,p0,q0,hargs,rfl,rfl,h0,r0⟩ := trodAll_cons hA
 obtain ⟨rfl,rfl,rfl⟩ := trodAll_nil r0
 obtain rfl : args = #[v0] := by cases args; simp_all
 obtain ⟨rfl,rfl⟩ := trodVars_none hV
 have lt0 : ∀ x ∈ p0,x.block < W.heap.size := by obtain ⟨m,hm⟩ := h0; exact DataW.trod_lt m _ _ _ hm
 obtain ⟨x0,w0⟩ := Vi.arg_ag (R := (.st [(.int .i64),(.sl (.st [(.int .i64),(.int .i64),(.sl (.st [(.int .i64),(.int .i64),(.int .i64),(.sl (.st [(.int .i64),(.int .i64),.bool,(.int .i64),(.int .i64)]))]))]))])) (row := Vi.XStrategy.row) (n := 16) (by kernel_rfl) (by kernel_rfl) Tryd.underlying24 (hval 0 24 v0 rfl rfl) h0
 have ok : Vi.DsOk [.ag (Vi.XStrategy.row x0)] := ⟨_,_,.cons w0 .nil⟩
 clear hA0 hval0
 refine (Vi.law_true (Vi.w_laws_FnExactStrategyLines x0 true (Vi.law_FnExactStrategyLines x0 ok)) (w := W) hL (.cons w0 .nil)).mono fun e W' ⟨he,bel⟩ => ?_
 subst he
 exact ⟨_,rfl,_,_,_,[],_,[],hW',trodAll_mk1 (shut_bool Tryd.underlying4 _),(trodAll_cons_mk (Below.trod laidOut (by kernel_rfl) (of_decide_eq_true (by kernel_rfl)) h0 bel lt0) trodAll_mk0),rfl,bel.frame _,fun h => by cases h⟩
theorem over : Rows.fnExactStrategyLinesRow.holds Tryd.pinned (OpenSpec.ofChange Rows.fnExactStrategyLinesSpec) :=
 OpenClaim.holds_of_wide 3 Tryd.f3 rfl rfl rfl rfl rfl rfl rfl ⟨rfl,rfl,rfl,rfl,rfl⟩ rfl rfl rfl rfl rfl (by kernel_rfl) Tryd.func3 (by kernel_rfl)
  (of_decide_eq_true (by kernel_rfl)) (by unfold Func.isWrapper; first | (rw [if_pos (by decide +kernel)]; kernel_rfl) | (rw [if_neg (by decide +kernel)]; exact ⟨rfl,rfl⟩))
  (fun os started H enc _ => lifted os started H enc)
theorem proved : Rows.FnExactStrategyLinesCardSaid :=
 Claim7.holds_tied_plain_at .later [] [.data,.data,.data] true (true,"8106d97c7547f2eb334c63c0092086bd04edbfe76ebeea5ce7282fbf41e64b6a") true
  over (fun _ h => by cases h) (by kernel_rfl) (fun _ h => by cases h) fnExactStrategyLines_row_tie rfl ⟨rfl,rfl⟩ (by kernel_rfl) rfl
  (fun f fn hf hfn => by
   obtain rfl : f = 3 := Option.some.inj ((show Tryd.prog.funcNamed Rows.fnExactStrategyLinesRow.func = some 3 by kernel_rfl).symm.trans hf) |>.symm
   obtain rfl : fn = Tryd.f3 := (Option.some.inj (Tryd.func3.symm.trans hfn)).symm
   exact ⟨by kernel_rfl,fun j t ht => by
    rw [Tryd.params3] at ht
    have h3 : t = 24 := by
     have := Array.mem_of_getElem? ht; simpa using this
    rcases h3 with rfl
    ·exact (show Tryd.prog.wantsStandIn 24 = false by kernel_rfl)
    ⟩)
  (by kernel_rfl)
#print axioms proved
end Go.Proofs.YtahienmgcfgclaaDoor.fnExactStrategyLines
